/-
  THE MIRRORS of the fractions' and the big integers' functions, of their references and of the laws, and that each call returns what its mirror says. Printed by gen.py.
-/
import Derived.Test.YtaanocaobllohaaGreatDoorRows
import Derived.Test.YtaanocaobllohaaGreatDoorTrim
import Derived.Test.YtaanocaobllohaaGreatDoorExtC
import Derived.Test.YtaanocaobllohaaGreatDoorRtX
import Derived.Test.YtaanocaobllohaaGreatDoorMirS
namespace Go.Proofs.YtaanocaobllohaaGreatDoor.M
open Go Go.RowKit Rt
def a6e (n : Nat) (ax1 : Big) (b1 : Big) (kont1 : Option Bool) : Nat → Int → Option Bool
 | 0, _ => none
 | mx1 + 1, i1 =>
  bif decide (i1 < (ax1.Digits.length : Int)) then
   (ix ax1.Digits i1).bind fun ex1 =>
   (ix b1.Digits i1).bind fun ex2 =>
   bif ex1 != ex2 then
    some false
   else
    a6e n ax1 b1 kont1 mx1 (iadd .i64 i1 1)
  else
   kont1
theorem a9u (n : Nat) (ax1 : Big) (b1 : Big) (kont1 : Option Bool) (mx1 : Nat) (i1 : Int) : a6e n ax1 b1 kont1 (mx1 + 1) i1 =
  bif decide (i1 < (ax1.Digits.length : Int)) then
   (ix ax1.Digits i1).bind fun ex1 =>
   (ix b1.Digits i1).bind fun ex2 =>
   bif ex1 != ex2 then
    some false
   else
    a6e n ax1 b1 kont1 mx1 (iadd .i64 i1 1)
  else
   kont1 := rfl
def a9n (n : Nat) (ax1 : Big) (b1 : Big) : Option Bool :=
 (bif ax1.Sign != b1.Sign then
  some true
 else
  some ((ax1.Digits.length : Int) != (b1.Digits.length : Int))).bind fun v1 =>
 bif v1 then
  some false
 else
  a6e n ax1 b1 (
   some true) n 0
set_option maxHeartbeats 1000000 in
set_option maxRecDepth 1000000 in
theorem c0g (n : Nat) (ax1 : Big) (b1 : Big) (r : Bool) (hm : a9n n ax1 b1 = some r) {w : World} {F : Frz} (hs : Sat F w) {as1 : Option Addr} {ns1 : Nat} {cs1 : Nat} {as2 : Option Addr} {ns2 : Nat} {cs2 : Nat} (hs1 : SlR (Rp.int .i64) F as1 ns1 cs1 ax1.Digits) (hs2 : SlR (Rp.int .i64) F as2 ns2 cs2 b1.Digits) :
  Calls Tryz.prog 96 #[.agg #[.int .i64 ax1.Sign, .slice as1 ns1 cs1], .agg #[.int .i64 b1.Sign, .slice as2 ns2 cs2]] w fun e w' => ∃ v F' O', e = .returned v ∧ HS F w [] F' O' w' ∧ (v = .bool r ∧ O' = []) := by
 unfold a9n at hm
 have h := HS.init hs
 refine a0x 38 Tryz.func96 rfl rfl rfl ?_
 refine a0f (a0a ?_)
 refine a2o rfl rfl rfl rfl h ?_
 intro b2 wx1 hx1
 refine a2o rfl rfl rfl rfl hx1 ?_
 intro b3 wx2 hx2
 refine a0b rfl rfl rfl (a0c (a0d (a0f (a0f (a0a ?_)))))
 refine a0h fa24_0 rfl rfl rfl ?_
 refine a0t ag3 rfl rfl hx2 rfl (i := 1) rfl rfl ?_
 refine a0h fa24_0 rfl rfl rfl ?_
 refine a0t ag3 rfl rfl hx2 rfl (i := 0) rfl rfl ?_
 refine a0v rfl rfl rfl rfl rfl ?_
 refine a0e rfl rfl rfl ?_
 obtain ⟨v1, hb1, hm⟩ := bind_some hm
 refine a2k 8 (fun a w' => wx2 = w' ∧ Has 38 a [(2, .pointer (some ⟨b2, 0, none⟩)), (3, .pointer (some ⟨b3, 0, none⟩)), (19, .bool v1)]) ?_ ?_
 ·rintro a wx3 ⟨rfl, hax1⟩
  refine a1a hax1 ?_
  refine a0c (a0d ?_)
  rcases a0i hm with ⟨hb2, hm⟩ | ⟨hb2, hm⟩
  ·refine a0u 19 rfl hb2 ?_
   refine a0z rfl (a0f (a0a (a0b rfl rfl rfl (a0c (a0d (a1d (a0n ?_)))))))
   refine a1p rfl rfl ?_
   obtain rfl := Option.some.inj hm
   exact ⟨_, _, _, rfl, hx2.pick [] (by decide) rfl, rfl, rfl⟩
  refine a0u 19 rfl hb2 ?_
  refine a0s rfl (a1b (a0d (a0f (a0f (a0a (a0b rfl rfl rfl (a0c (a0d (a1i ?_)))))))))
  intro a hax4
  obtain ⟨kont1, hkont1⟩ : ∃ kont1 : Option Bool, kont1 = (
      some true) := ⟨_, rfl⟩
  replace hm : (fun m (s : Int) => a6e n ax1 b1 kont1 m s) n 0 = some r := by rw [hkont1]; exact hm
  refine a5u (id := 0) (fun m (s : Int) => a6e n ax1 b1 kont1 m s) (fun (y : Unit) => kont1) r (fun (s : Int) a w' => ∃ (Fx1 : Frz), Frz.le F Fx1 ∧ HS F w [] Fx1 [.box b3 24 [.int .i64 b1.Sign, .slice as2 ns2 cs2], .box b2 24 [.int .i64 ax1.Sign, .slice as1 ns1 cs1]] w' ∧ Has 38 a [(2, .pointer (some ⟨b2, 0, none⟩)), (3, .pointer (some ⟨b3, 0, none⟩)), (5, .int .i64 s)]) (fun (y : Unit) a w' => ∃ (Fx2 : Frz), Frz.le F Fx2 ∧ HS F w [] Fx2 [] w' ∧ Has 38 a []) (fun _ => rfl) ?_ ?_ hm ⟨_, Frz.refl _, hx2.pick [0, 1] (by decide) rfl, hax4.cut (l := [2, 3, 5]) rfl⟩
  ·clear hm; rintro _u a wx4 hm ⟨Fx2, hF2, hx4, hax2⟩
   rw [hkont1] at hm
   refine a2d (e := .exit 0) hax2 ?_
   refine a1j (a0d (a0f (a0a (a0b rfl rfl rfl (a0c (a0d (a1d ?_)))))))
   refine a1p rfl rfl ?_
   obtain rfl := Option.some.inj hm
   exact ⟨_, _, _, rfl, hx4.pick [] (by decide) rfl, rfl, rfl⟩
  clear hm hkont1; intro hk1 mx1 K ihx1
  rintro i1 a wx5 hm ⟨Fx1, hF1, hx3, hax3⟩
  simp only [a9u] at hm
  refine a1l hax3 ?_
  refine a0f (a0f (a0a (a0e rfl rfl rfl ?_)))
  refine a0h fa24_1 rfl rfl rfl ?_
  refine a0t ag22 rfl rfl hx3 rfl (i := 1) rfl rfl ?_
  refine a1z hs1.len u22 rfl rfl rfl ?_
  refine a0v rfl rfl rfl rfl rfl ?_
  refine a0c (a0d ?_)
  rcases a0i hm with ⟨hb3, hm⟩ | ⟨hb3, hm⟩
  ·refine a0u 24 rfl hb3 ?_
   refine a0z rfl (a1b (a0d (a0f (a1i (a0f ?_)))))
   refine a4s (by kernel_rfl) (by kernel_rfl) hx3 ?_
   refine a1h rfl rfl rfl rfl (fun _ _ _ _ => a0h fa24_1 rfl rfl rfl (a0c (qq rfl))) ?_
   refine a1h rfl rfl rfl rfl (fun _ _ _ hq => a0t ag22 rfl rfl hq rfl (i := 1) rfl rfl (a0c (qq rfl))) ?_
   refine a1h rfl rfl rfl rfl (fun _ _ _ _ => a0e rfl rfl rfl (a0c (qq rfl))) ?_
   obtain ⟨ex1, he1, hm⟩ := bind_some hm
   obtain ⟨b4, o1, cs1, hf1, hr1, hrun1⟩ := a5c (P := Tryz.prog) (r := (Rp.int .i64)) u22 sz3 (hs1.mono hF1) he1
   have hc1 : cs1 = [.int .i64 ex1] := hr1
   subst hc1
   refine a4v rfl rfl rfl rfl hrun1 ?_
   refine a1h rfl rfl rfl rfl (fun _ _ hleq hq => a2h (j := 0) ag3 rfl rfl hq (hf1.mono hleq) rfl rfl (a0c (qq rfl))) ?_
   refine a1h rfl rfl rfl rfl (fun _ _ _ _ => a0h fa24_1 rfl rfl rfl (a0c (qq rfl))) ?_
   refine a1h rfl rfl rfl rfl (fun _ _ _ hq => a0t ag22 rfl rfl hq rfl (i := 0) rfl rfl (a0c (qq rfl))) ?_
   refine a1h rfl rfl rfl rfl (fun _ _ _ _ => a0e rfl rfl rfl (a0c (qq rfl))) ?_
   obtain ⟨ex2, he2, hm⟩ := bind_some hm
   obtain ⟨b5, o2, cs2, hf2, hr2, hrun2⟩ := a5c (P := Tryz.prog) (r := (Rp.int .i64)) u22 sz3 (hs2.mono hF1) he2
   have hc2 : cs2 = [.int .i64 ex2] := hr2
   subst hc2
   refine a4v rfl rfl rfl rfl hrun2 ?_
   refine a1h rfl rfl rfl rfl (fun _ _ hleq hq => a2h (j := 0) ag3 rfl rfl hq (hf2.mono hleq) rfl rfl (a0c (qq rfl))) ?_
   refine a1h rfl rfl rfl rfl (fun _ _ _ _ => a0v rfl rfl rfl rfl rfl (a0c (qq rfl))) ?_
   refine b3x ?_
   rintro wx6 ⟨Fx3, hF3, hx5⟩
   refine a0d ?_
   rcases a0i hm with ⟨hb4, hm⟩ | ⟨hb4, hm⟩
   ·refine a0u 37 rfl hb4 ?_
    refine a0z rfl (a0f (a0a (a0b rfl rfl rfl (a0c (a0d (a1d (a1n (a0n (a0n (a1n (a0n ?_)))))))))))
    refine a1p rfl rfl ?_
    obtain rfl := Option.some.inj hm
    exact ⟨_, _, _, rfl, hx5.pick [] (by decide) rfl, rfl, rfl⟩
   refine a0u 37 rfl hb4 ?_
   refine a0s rfl (a1b (a2a (a0d (a0a (a0e rfl rfl rfl ?_)))))
   refine a0v rfl rfl rfl rfl rfl ?_
   refine a0b rfl rfl rfl (a0c ?_)
   refine a0p (fun a ha => ihx1 (iadd .i64 i1 1) a _ hm ?_)
   exact ⟨_, (hF1.trans hF3), hx5.pick [0, 1] (by decide) rfl, ha.cut (l := [2, 3, 5]) rfl⟩
  refine a0u 24 rfl hb3 ?_
  refine a0s rfl (a3l (a0q (a0q ?_)))
  refine fun a ha => hk1 () a _ hm ?_
  exact ⟨_, hF1, hx3.pick [] (by decide) rfl, ha.cut (l := []) rfl⟩
 clear hm
 rcases a0i hb1 with ⟨hb5, hb1⟩ | ⟨hb5, hb1⟩
 ·refine a1e 11 rfl hb5 ?_
  refine a0r rfl (by decide) rfl (a0r rfl (by decide) rfl (a0r rfl (by decide) rfl (a0r rfl (by decide) rfl (a0r rfl (by decide) rfl (a0r rfl (by decide) rfl (a0r rfl (by decide) rfl (a0m rfl rfl rfl rfl (a0c ?_))))))))
  refine a0p (fun a ha => ?_)
  cases hb1
  exact ⟨rfl, ha.cut (l := [2, 3, 19]) rfl⟩
 refine a1e 11 rfl hb5 ?_
 refine a0h fa24_1 rfl rfl rfl ?_
 refine a0t ag22 rfl rfl hx2 rfl (i := 1) rfl rfl ?_
 refine a1z hs1.len u22 rfl rfl rfl ?_
 refine a0h fa24_1 rfl rfl rfl ?_
 refine a0t ag22 rfl rfl hx2 rfl (i := 0) rfl rfl ?_
 refine a1z hs2.len u22 rfl rfl rfl ?_
 refine a0v rfl rfl rfl rfl rfl ?_
 refine a0l rfl rfl rfl rfl (a0c ?_)
 refine a0p (fun a ha => ?_)
 cases hb1
 exact ⟨rfl, ha.cut (l := [2, 3, 19]) rfl⟩
theorem u4 : Tryz.prog.underlying 4 = some .bool := by kernel_rfl
def a4i (n : Nat) (ax1 : Big) (kont1 : Option Bool) : Nat → Int → Option Bool
 | 0, _ => none
 | mx1 + 1, i1 =>
  bif decide (i1 < (ax1.Digits.length : Int)) then
   (ix ax1.Digits i1).bind fun ex2 =>
   (bif decide (ex2 < 0) then
    some true
   else
    (ix ax1.Digits i1).bind fun ex3 =>
    some (decide (1048576 ≤ ex3))).bind fun v4 =>
   bif v4 then
    some false
   else
    a4i n ax1 kont1 mx1 (iadd .i64 i1 1)
  else
   kont1
theorem b6g (n : Nat) (ax1 : Big) (kont1 : Option Bool) (mx1 : Nat) (i1 : Int) : a4i n ax1 kont1 (mx1 + 1) i1 =
  bif decide (i1 < (ax1.Digits.length : Int)) then
   (ix ax1.Digits i1).bind fun ex2 =>
   (bif decide (ex2 < 0) then
    some true
   else
    (ix ax1.Digits i1).bind fun ex3 =>
    some (decide (1048576 ≤ ex3))).bind fun v4 =>
   bif v4 then
    some false
   else
    a4i n ax1 kont1 mx1 (iadd .i64 i1 1)
  else
   kont1 := rfl
def a2i (n : Nat) (ax1 : Big) : Option Bool :=
 a4i n ax1 (
  (bif decide (ax1.Sign < (-1)) then
   some true
  else
   some (decide (1 < ax1.Sign))).bind fun v1 =>
  (bif v1 then
   some true
  else
   some (!(((ax1.Digits.length : Int) == 0) == (ax1.Sign == 0)))).bind fun v2 =>
  bif v2 then
   some false
  else
   (bif (ax1.Digits.length : Int) == 0 then
    some true
   else
    (ix ax1.Digits (isub .i64 (ax1.Digits.length : Int) 1)).bind fun ex1 =>
    some (ex1 != 0)).bind fun v3 =>
   some v3) n 0
set_option maxHeartbeats 1000000 in
set_option maxRecDepth 1000000 in
theorem a2l (n : Nat) (ax1 : Big) (r : Bool) (hm : a2i n ax1 = some r) {w : World} {F : Frz} (hs : Sat F w) {as1 : Option Addr} {ns1 : Nat} {cs1 : Nat} (hs1 : SlR (Rp.int .i64) F as1 ns1 cs1 ax1.Digits) :
  Calls Tryz.prog 63 #[.agg #[.int .i64 ax1.Sign, .slice as1 ns1 cs1]] w fun e w' => ∃ v F' O', e = .returned v ∧ HS F w [] F' O' w' ∧ (v = .bool r ∧ O' = []) := by
 unfold a2i at hm
 have h := HS.init hs
 refine a0x 56 Tryz.func63 rfl rfl rfl ?_
 refine a0f (a0a ?_)
 refine a2o rfl rfl rfl rfl h ?_
 intro b1 wx1 hx1
 refine a0b rfl rfl rfl (a0c (a0d (a0f (a0f (a0a (a0b rfl rfl rfl (a0c (a0d (a1i ?_)))))))))
 intro a hax7
 obtain ⟨kont1, hkont1⟩ : ∃ kont1 : Option Bool, kont1 = (
       (bif decide (ax1.Sign < (-1)) then
        some true
       else
        some (decide (1 < ax1.Sign))).bind fun v1 =>
       (bif v1 then
        some true
       else
        some (!(((ax1.Digits.length : Int) == 0) == (ax1.Sign == 0)))).bind fun v2 =>
       bif v2 then
        some false
       else
        (bif (ax1.Digits.length : Int) == 0 then
         some true
        else
         (ix ax1.Digits (isub .i64 (ax1.Digits.length : Int) 1)).bind fun ex1 =>
         some (ex1 != 0)).bind fun v3 =>
        some v3) := ⟨_, rfl⟩
 replace hm : (fun m (s : Int) => a4i n ax1 kont1 m s) n 0 = some r := by rw [hkont1]; exact hm
 refine a5u (id := 0) (fun m (s : Int) => a4i n ax1 kont1 m s) (fun (y : Unit) => kont1) r (fun (s : Int) a w' => wx1 = w' ∧ Has 56 a [(1, .pointer (some ⟨b1, 0, none⟩)), (3, .int .i64 s)]) (fun (y : Unit) a w' => wx1 = w' ∧ Has 56 a [(1, .pointer (some ⟨b1, 0, none⟩))]) (fun _ => rfl) ?_ ?_ hm ⟨rfl, hax7.cut (l := [1, 3]) rfl⟩
 ·clear hm; rintro _u a wx2 hm ⟨rfl, hax1⟩
  rw [hkont1] at hm
  refine a2d (e := .exit 0) hax1 ?_
  refine a1j (a0d (a0f (a0a ?_)))
  refine a0h fa24_1 rfl rfl rfl ?_
  refine a0t ag22 rfl rfl hx1 rfl (i := 0) rfl rfl ?_
  refine a1z hs1.len u22 rfl rfl rfl ?_
  refine a0b rfl rfl rfl (a0c (a0d (a0f (a0f (a0a ?_)))))
  refine a0h fa24_0 rfl rfl rfl ?_
  refine a0t ag3 rfl rfl hx1 rfl (i := 0) rfl rfl ?_
  refine a0v rfl rfl rfl rfl rfl ?_
  refine a0e rfl rfl rfl ?_
  obtain ⟨v1, hb1, hm⟩ := bind_some hm
  refine a2k 4 (fun a w' => wx1 = w' ∧ Has 56 a [(1, .pointer (some ⟨b1, 0, none⟩)), (4, .int .i64 (ax1.Digits.length : Int)), (36, .bool v1)]) ?_ ?_
  ·rintro a wx3 ⟨rfl, hax2⟩
   refine a1a hax2 ?_
   refine a0e rfl rfl rfl ?_
   obtain ⟨v2, hb2, hm⟩ := bind_some hm
   refine a2k 7 (fun a w' => wx1 = w' ∧ Has 56 a [(1, .pointer (some ⟨b1, 0, none⟩)), (4, .int .i64 (ax1.Digits.length : Int)), (44, .bool v2)]) ?_ ?_
   ·rintro a wx4 ⟨rfl, hax3⟩
    refine a1a hax3 ?_
    refine a0c (a0d ?_)
    rcases a0i hm with ⟨hb3, hm⟩ | ⟨hb3, hm⟩
    ·refine a0u 44 rfl hb3 ?_
     refine a0z rfl (a0f (a0a (a0b rfl rfl rfl (a0c (a0d (a1d (a0n ?_)))))))
     refine a1p rfl rfl ?_
     obtain rfl := Option.some.inj hm
     exact ⟨_, _, _, rfl, hx1.pick [] (by decide) rfl, rfl, rfl⟩
    refine a0u 44 rfl hb3 ?_
    refine a0s rfl (a1b (a0d (a0f (a0a (a0e rfl rfl rfl ?_)))))
    refine a0v rfl rfl rfl rfl rfl ?_
    refine a0e rfl rfl rfl ?_
    obtain ⟨v3, hb4, hm⟩ := bind_some hm
    refine a2k 8 (fun a w' => wx1 = w' ∧ Has 56 a [(55, .bool v3)]) ?_ ?_
    ·rintro a wx5 ⟨rfl, hax4⟩
     refine a1a hax4 ?_
     refine a0b rfl rfl rfl (a0c (a0d (a1d ?_)))
     refine a1p rfl rfl ?_
     obtain rfl := Option.some.inj hm
     exact ⟨_, _, _, rfl, hx1.pick [] (by decide) rfl, rfl, rfl⟩
    clear hm
    rcases a0i hb4 with ⟨hb5, hb4⟩ | ⟨hb5, hb4⟩
    ·refine a1e 47 rfl hb5 ?_
     refine a0r rfl (by decide) rfl (a0r rfl (by decide) rfl (a0r rfl (by decide) rfl (a0r rfl (by decide) rfl (a0r rfl (by decide) rfl (a0r rfl (by decide) rfl (a0r rfl (by decide) rfl (a0m rfl rfl rfl rfl (a0c ?_))))))))
     refine a0p (fun a ha => ?_)
     cases hb4
     exact ⟨rfl, ha.cut (l := [55]) rfl⟩
    refine a1e 47 rfl hb5 ?_
    refine a0h fa24_1 rfl rfl rfl ?_
    refine a0t ag22 rfl rfl hx1 rfl (i := 0) rfl rfl ?_
    refine a0e rfl rfl rfl ?_
    refine a0v rfl rfl rfl rfl rfl ?_
    obtain ⟨ex1, he1, hb4⟩ := bind_some hb4
    refine a3w (r := (Rp.int .i64)) u22 sz3 rfl rfl rfl rfl hs1 he1 ?_
    intro b2 o1 cs1 hf1 hr1
    have hc1 : cs1 = [.int .i64 ex1] := hr1
    subst hc1
    refine a2h (j := 0) ag3 rfl rfl hx1 hf1 rfl rfl ?_
    refine a0v rfl rfl rfl rfl rfl ?_
    refine a0l rfl rfl rfl rfl (a0c ?_)
    refine a0p (fun a ha => ?_)
    cases hb4
    exact ⟨rfl, ha.cut (l := [55]) rfl⟩
   clear hm
   rcases a0i hb2 with ⟨hb6, hb2⟩ | ⟨hb6, hb2⟩
   ·refine a1e 37 rfl hb6 ?_
    refine a0r rfl (by decide) rfl (a0r rfl (by decide) rfl (a0r rfl (by decide) rfl (a0r rfl (by decide) rfl (a0r rfl (by decide) rfl (a0r rfl (by decide) rfl (a0m rfl rfl rfl rfl (a0c ?_)))))))
    refine a0p (fun a ha => ?_)
    cases hb2
    exact ⟨rfl, ha.cut (l := [1, 4, 44]) rfl⟩
   refine a1e 37 rfl hb6 ?_
   refine a0e rfl rfl rfl ?_
   refine a0v rfl rfl rfl rfl rfl ?_
   refine a0h fa24_0 rfl rfl rfl ?_
   refine a0t ag3 rfl rfl hx1 rfl (i := 0) rfl rfl ?_
   refine a0v rfl rfl rfl rfl rfl ?_
   refine d1j u4 rfl rfl rfl rfl ?_
   refine a0l rfl rfl rfl rfl (a0c ?_)
   refine a0p (fun a ha => ?_)
   cases hb2
   exact ⟨rfl, ha.cut (l := [1, 4, 44]) rfl⟩
  clear hm
  rcases a0i hb1 with ⟨hb7, hb1⟩ | ⟨hb7, hb1⟩
  ·refine a1e 32 rfl hb7 ?_
   refine a0r rfl (by decide) rfl (a0r rfl (by decide) rfl (a0r rfl (by decide) rfl (a0m rfl rfl rfl rfl (a0c ?_))))
   refine a0p (fun a ha => ?_)
   cases hb1
   exact ⟨rfl, ha.cut (l := [1, 4, 36]) rfl⟩
  refine a1e 32 rfl hb7 ?_
  refine a0h fa24_0 rfl rfl rfl ?_
  refine a0t ag3 rfl rfl hx1 rfl (i := 0) rfl rfl ?_
  refine a0v rfl rfl rfl rfl rfl ?_
  refine a0l rfl rfl rfl rfl (a0c ?_)
  refine a0p (fun a ha => ?_)
  cases hb1
  exact ⟨rfl, ha.cut (l := [1, 4, 36]) rfl⟩
 clear hm hkont1; intro hk1 mx1 K ihx1
 rintro i1 a wx6 hm ⟨rfl, hax5⟩
 simp only [b6g] at hm
 refine a1l hax5 ?_
 refine a0f (a0f (a0a (a0e rfl rfl rfl ?_)))
 refine a0h fa24_1 rfl rfl rfl ?_
 refine a0t ag22 rfl rfl hx1 rfl (i := 0) rfl rfl ?_
 refine a1z hs1.len u22 rfl rfl rfl ?_
 refine a0v rfl rfl rfl rfl rfl ?_
 refine a0c (a0d ?_)
 rcases a0i hm with ⟨hb8, hm⟩ | ⟨hb8, hm⟩
 ·refine a0u 9 rfl hb8 ?_
  refine a0z rfl (a1b (a0d (a0f (a1i (a0f (a0a ?_))))))
  refine a0h fa24_1 rfl rfl rfl ?_
  refine a0t ag22 rfl rfl hx1 rfl (i := 0) rfl rfl ?_
  refine a0e rfl rfl rfl ?_
  obtain ⟨ex2, he2, hm⟩ := bind_some hm
  refine a3w (r := (Rp.int .i64)) u22 sz3 rfl rfl rfl rfl hs1 he2 ?_
  intro b3 o2 cs2 hf2 hr2
  have hc2 : cs2 = [.int .i64 ex2] := hr2
  subst hc2
  refine a2h (j := 0) ag3 rfl rfl hx1 hf2 rfl rfl ?_
  refine a0v rfl rfl rfl rfl rfl ?_
  refine a0e rfl rfl rfl ?_
  obtain ⟨v4, hb9, hm⟩ := bind_some hm
  refine a2k 7 (fun a w' => wx1 = w' ∧ Has 56 a [(1, .pointer (some ⟨b1, 0, none⟩)), (3, .int .i64 i1), (25, .bool v4)]) ?_ ?_
  ·rintro a wx7 ⟨rfl, hax6⟩
   refine a1a hax6 ?_
   refine a0c (a0d ?_)
   rcases a0i hm with ⟨hb10, hm⟩ | ⟨hb10, hm⟩
   ·refine a0u 25 rfl hb10 ?_
    refine a0z rfl (a0f (a0a (a0b rfl rfl rfl (a0c (a0d (a1d (a1n (a0n (a0n (a1n (a0n ?_)))))))))))
    refine a1p rfl rfl ?_
    obtain rfl := Option.some.inj hm
    exact ⟨_, _, _, rfl, hx1.pick [] (by decide) rfl, rfl, rfl⟩
   refine a0u 25 rfl hb10 ?_
   refine a0s rfl (a1b (a2a (a0d (a0a (a0e rfl rfl rfl ?_)))))
   refine a0v rfl rfl rfl rfl rfl ?_
   refine a0b rfl rfl rfl (a0c ?_)
   refine a0p (fun a ha => ihx1 (iadd .i64 i1 1) a _ hm ?_)
   exact ⟨rfl, ha.cut (l := [1, 3]) rfl⟩
  clear hm
  rcases a0i hb9 with ⟨hb11, hb9⟩ | ⟨hb11, hb9⟩
  ·refine a1e 18 rfl hb11 ?_
   refine a0r rfl (by decide) rfl (a0r rfl (by decide) rfl (a0r rfl (by decide) rfl (a0r rfl (by decide) rfl (a0r rfl (by decide) rfl (a0r rfl (by decide) rfl (a0m rfl rfl rfl rfl (a0c ?_)))))))
   refine a0p (fun a ha => ?_)
   cases hb9
   exact ⟨rfl, ha.cut (l := [1, 3, 25]) rfl⟩
  refine a1e 18 rfl hb11 ?_
  refine a0h fa24_1 rfl rfl rfl ?_
  refine a0t ag22 rfl rfl hx1 rfl (i := 0) rfl rfl ?_
  refine a0e rfl rfl rfl ?_
  obtain ⟨ex3, he3, hb9⟩ := bind_some hb9
  refine a3w (r := (Rp.int .i64)) u22 sz3 rfl rfl rfl rfl hs1 he3 ?_
  intro b4 o3 cs3 hf3 hr3
  have hc3 : cs3 = [.int .i64 ex3] := hr3
  subst hc3
  refine a2h (j := 0) ag3 rfl rfl hx1 hf3 rfl rfl ?_
  refine a0v rfl rfl rfl rfl rfl ?_
  refine a0l rfl rfl rfl rfl (a0c ?_)
  refine a0p (fun a ha => ?_)
  cases hb9
  exact ⟨rfl, ha.cut (l := [1, 3, 25]) rfl⟩
 refine a0u 9 rfl hb8 ?_
 refine a0s rfl (a3l (a0q (a0q ?_)))
 refine fun a ha => hk1 () a _ hm ?_
 exact ⟨rfl, ha.cut (l := [1]) rfl⟩
def a4x (n : Nat) (l1 : (List Int)) (kont1 : Int → Option (List Int)) : Nat → Int → Option (List Int)
 | 0, _ => none
 | mx1 + 1, nx1 =>
  (bif decide (0 < nx1) then
   (ix l1 (isub .i64 nx1 1)).bind fun ex1 =>
   some (ex1 == 0)
  else
   some false).bind fun v1 =>
  bif v1 then
   a4x n l1 kont1 mx1 (isub .i64 nx1 1)
  else
   kont1 nx1
theorem b7x (n : Nat) (l1 : (List Int)) (kont1 : Int → Option (List Int)) (mx1 : Nat) (nx1 : Int) : a4x n l1 kont1 (mx1 + 1) nx1 =
  (bif decide (0 < nx1) then
   (ix l1 (isub .i64 nx1 1)).bind fun ex1 =>
   some (ex1 == 0)
  else
   some false).bind fun v1 =>
  bif v1 then
   a4x n l1 kont1 mx1 (isub .i64 nx1 1)
  else
   kont1 nx1 := rfl
def a1o (n : Nat) (l1 : (List Int)) : Option (List Int) :=
 a4x n l1 (fun (nx2 : Int) =>
  (lsl l1 0 nx2).bind fun l2 =>
  (app 8 [] l2).bind fun l3 =>
  some l3) n (l1.length : Int)
set_option maxHeartbeats 1000000 in
set_option maxRecDepth 1000000 in
theorem a4c (n : Nat) (l1 : (List Int)) (r : (List Int)) (hm : a1o n l1 = some r) {w : World} {F : Frz} (hs : Sat F w) {as1 : Option Addr} {ns1 : Nat} {cs1 : Nat} (hs1 : SlR (Rp.int .i64) F as1 ns1 cs1 l1) :
  Calls Tryz.prog 92 #[.slice as1 ns1 cs1] w fun e w' => ∃ v F' O', e = .returned v ∧ HS F w [] F' O' w' ∧ (∃ (a0_0 : Option Addr) (n0_0 : Nat) (c0_0 : Nat) (xs0_0 : List Value), v = .slice a0_0 n0_0 c0_0 ∧ O' = [.row 3 1 a0_0 n0_0 c0_0 xs0_0] ∧ RowN (Rp.int .i64) F' n0_0 xs0_0 r) := by
 unfold a1o at hm
 have h := HS.init hs
 refine a0x 23 Tryz.func92 rfl rfl rfl ?_
 refine a0f (a0a (a0b rfl rfl rfl (a0c (a0d (a0f (a0a (a0e rfl rfl rfl ?_)))))))
 refine a1z hs1.len u22 rfl rfl rfl ?_
 refine a0b rfl rfl rfl (a0c (a0d (a0f (a1i ?_))))
 intro a hax4
 obtain ⟨kont1, hkont1⟩ : ∃ kont1 : Int → Option (List Int), kont1 = (fun (nx2 : Int) =>
       (lsl l1 0 nx2).bind fun l2 =>
       (app 8 [] l2).bind fun l3 =>
       some l3) := ⟨_, rfl⟩
 replace hm : (fun m (s : Int) => a4x n l1 kont1 m s) n (l1.length : Int) = some r := by rw [hkont1]; exact hm
 refine a5u (id := 0) (fun m (s : Int) => a4x n l1 kont1 m s) (fun (y : Int) => kont1 y) r (fun (s : Int) a w' => w = w' ∧ Has 23 a [(0, .slice as1 ns1 cs1), (3, .int .i64 s)]) (fun (y : Int) a w' => w = w' ∧ Has 23 a [(0, .slice as1 ns1 cs1), (3, .int .i64 y)]) (fun _ => rfl) ?_ ?_ hm ⟨rfl, hax4.cut (l := [0, 3]) rfl⟩
 ·clear hm; rintro nx2 a wx1 hm ⟨rfl, hax1⟩
  rw [hkont1] at hm
  replace hm := hm
  refine a2d (e := .exit 0) hax1 ?_
  refine a1j (a0d (a0f (a0a ?_)))
  refine a1x (e := 3) (cs := []) (q := 1) rfl rfl h rfl (fun _ => by kernel_rfl) rfl rfl ?_
  intro b1 wx2 hx1
  refine a0e rfl rfl rfl (a0e rfl rfl rfl ?_)
  obtain ⟨l2, hc1, hm⟩ := bind_some hm
  refine c9l u22 (r := (Rp.int .i64)) sz3 rfl rfl rfl rfl hs1 hc1 ?_
  intro as2 ns2 cs2 hs2
  obtain ⟨l3, hr1, hm⟩ := bind_some hm
  refine b7d (r := (Rp.int .i64)) ap22 rfl rfl rfl hx1 rfl rfl (i := 0) rfl ((show RowN (Rp.int .i64) F 0 [] [] from ⟨rfl, (rfl : RowR (Rp.int .i64) _ [] [])⟩)) hs2 hr1 ?_
  intro as3 cs3 wx3 xss3 hx2 hs3
  refine a0b rfl rfl rfl (a0c (a0d (a1d ?_)))
  refine a1p rfl rfl ?_
  obtain rfl := Option.some.inj hm
  exact ⟨_, _, _, rfl, hx2.pick [0] (by decide) rfl, as3, (0 + ns2), cs3, xss3, rfl, rfl, hs3⟩
 clear hm hkont1; intro hk1 mx1 K ihx1
 rintro nx1 a wx4 hm ⟨rfl, hax2⟩
 simp only [b7x] at hm
 refine a1l hax2 ?_
 refine a0f (a0f (a0a (a0e rfl rfl rfl ?_)))
 refine a0v rfl rfl rfl rfl rfl ?_
 refine a0e rfl rfl rfl ?_
 obtain ⟨v1, hb1, hm⟩ := bind_some hm
 refine a2k 7 (fun a w' => w = w' ∧ Has 23 a [(0, .slice as1 ns1 cs1), (3, .int .i64 nx1), (15, .bool v1)]) ?_ ?_
 ·rintro a wx5 ⟨rfl, hax3⟩
  refine a1a hax3 ?_
  refine a0c (a0d ?_)
  rcases a0i hm with ⟨hb2, hm⟩ | ⟨hb2, hm⟩
  ·refine a0u 15 rfl hb2 ?_
   refine a0z rfl (a1b (a0d (a1i (a0a (a0e rfl rfl rfl ?_)))))
   refine a0v rfl rfl rfl rfl rfl ?_
   refine a0b rfl rfl rfl (a0c (a2a ?_))
   refine a0p (fun a ha => ihx1 (isub .i64 nx1 1) a _ hm ?_)
   exact ⟨rfl, ha.cut (l := [0, 3]) rfl⟩
  refine a0u 15 rfl hb2 ?_
  refine a0s rfl (a3l (a0q (a0q ?_)))
  refine fun a ha => hk1 nx1 a _ hm ?_
  exact ⟨rfl, ha.cut (l := [0, 3]) rfl⟩
 clear hm
 rcases a0i hb1 with ⟨hb3, hb1⟩ | ⟨hb3, hb1⟩
 ·refine a1e 8 rfl hb3 ?_
  refine a0e rfl rfl rfl (a0e rfl rfl rfl ?_)
  refine a0v rfl rfl rfl rfl rfl ?_
  obtain ⟨ex1, he1, hb1⟩ := bind_some hb1
  refine a3w (r := (Rp.int .i64)) u22 sz3 rfl rfl rfl rfl hs1 he1 ?_
  intro b2 o1 cs1 hf1 hr2
  have hc2 : cs1 = [.int .i64 ex1] := hr2
  subst hc2
  refine a2h (j := 0) ag3 rfl rfl h hf1 rfl rfl ?_
  refine a0v rfl rfl rfl rfl rfl ?_
  refine a0m rfl rfl rfl rfl (a0c ?_)
  refine a0p (fun a ha => ?_)
  cases hb1
  exact ⟨rfl, ha.cut (l := [0, 3, 15]) rfl⟩
 refine a1e 8 rfl hb3 ?_
 refine a0r rfl (by decide) rfl (a0r rfl (by decide) rfl (a0r rfl (by decide) rfl (a0r rfl (by decide) rfl (a0r rfl (by decide) rfl (a0r rfl (by decide) rfl (a0l rfl rfl rfl rfl (a0c ?_)))))))
 refine a0p (fun a ha => ?_)
 cases hb1
 exact ⟨rfl, ha.cut (l := [0, 3, 15]) rfl⟩
theorem ent92 : Ent Tryz.prog 92 := fun _ _ => by kernel_rfl
def a1t (n : Nat) (sign1 : Int) (l1 : (List Int)) : Option Big :=
 (a1o n l1).bind fun v1 =>
 bif (v1.length : Int) == 0 then
  some (⟨0, []⟩ : Big)
 else
  some (⟨sign1, v1⟩ : Big)
set_option maxHeartbeats 1000000 in
set_option maxRecDepth 1000000 in
theorem a3n (n : Nat) (sign1 : Int) (l1 : (List Int)) (r : Big) (hm : a1t n sign1 l1 = some r) {w : World} {F : Frz} (hs : Sat F w) {as1 : Option Addr} {ns1 : Nat} {cs1 : Nat} (hs1 : SlR (Rp.int .i64) F as1 ns1 cs1 l1) :
  Calls Tryz.prog 83 #[.int .i64 sign1, .slice as1 ns1 cs1] w fun e w' => ∃ v F' O', e = .returned v ∧ HS F w [] F' O' w' ∧ (∃ (a0_1 : Option Addr) (n0_1 : Nat) (c0_1 : Nat), v = .agg #[.int .i64 r.Sign, .slice a0_1 n0_1 c0_1] ∧ O' = [] ∧ SlR (Rp.int .i64) F' a0_1 n0_1 c0_1 r.Digits) := by
 unfold a1t at hm
 have h := HS.init hs
 refine a0x 15 Tryz.func83 rfl rfl rfl ?_
 refine a0f (a0a ?_)
 refine a0y ze24 rfl rfl rfl h ?_
 intro b1 wx1 hx1
 refine a0c (a0d (a0f (a0a (a0e rfl rfl rfl ?_))))
 obtain ⟨v1, hv1, hm⟩ := bind_some hm
 refine a0g ent92 rfl rfl rfl rfl hx1 (a4c _ _ _ hv1 hx1.sat hs1) ?_
 rintro _ Fx1 _ wx2 hF1 hx2 ⟨as2, ns2, cs2, xss2, rfl, rfl, hs2⟩
 refine a0b rfl rfl rfl (a0c (a0d (a0f (a0f (a0a (a0e rfl rfl rfl ?_))))))
 refine a1z hs2.len u22 rfl rfl rfl ?_
 refine a0v rfl rfl rfl rfl rfl ?_
 refine a0c (a0d ?_)
 rcases a0i hm with ⟨hb1, hm⟩ | ⟨hb1, hm⟩
 ·refine a0u 10 rfl hb1 ?_
  refine a0z rfl (a0f (a0a ?_))
  refine a1r (v := .agg #[.int .i64 0, .slice none 0 0]) rfl rfl rfl (fun _ => by kernel_rfl) ?_
  refine a0o sz24 rfl hx2 rfl rfl rfl rfl (i := 1) rfl rfl rfl rfl ?_
  intro wx3 hx3
  refine a0c (a0d (a1d (a0n ?_)))
  refine a6l rfl ag24 sz24 rfl hx3 rfl (i := 1) rfl ?_
  obtain rfl := Option.some.inj hm
  exact ⟨_, _, _, rfl, hx3.pick [] (by decide) rfl, none, 0, 0, rfl, rfl, SlR.nil _ _⟩
 refine a0u 10 rfl hb1 ?_
 refine a0s rfl (a1b (a0d (a0f (a0a (a0e rfl rfl rfl (a0e rfl rfl rfl ?_))))))
 obtain ⟨Fx2, hF2, hx4, hsx1⟩ := a1g hx2 (i := 0) rfl hs2
 refine a1r (v := .agg #[.int .i64 sign1, .slice as2 ns2 cs2]) rfl rfl rfl (fun _ => by kernel_rfl) ?_
 refine a0o sz24 rfl hx4 rfl rfl rfl rfl (i := 0) rfl rfl rfl rfl ?_
 intro wx4 hx5
 refine a0c (a0d (a1d ?_))
 refine a6l rfl ag24 sz24 rfl hx5 rfl (i := 0) rfl ?_
 obtain rfl := Option.some.inj hm
 exact ⟨_, _, _, rfl, hx5.pick [] (by decide) rfl, as2, ns2, cs2, rfl, rfl, hsx1⟩
theorem ent83 : Ent Tryz.prog 83 := fun _ _ => by kernel_rfl
def a6r (n : Nat) (kont1 : (List Int) → Option Big) : Nat → Int → (List Int) → Option Big
 | 0, _, _ => none
 | mx1 + 1, nx2, l1 =>
  bif nx2 != 0 then
   (rem nx2 1048576).bind fun q1 =>
   (bif decide (q1 < 0) then
    some (IntKind.i64.wrap (0 - q1))
   else
    some q1).bind fun d1 =>
   (app 8 l1 [d1]).bind fun l3 =>
   (quo .i64 nx2 1048576).bind fun q2 =>
   a6r n kont1 mx1 q2 l3
  else
   kont1 l1
theorem b9v (n : Nat) (kont1 : (List Int) → Option Big) (mx1 : Nat) (nx2 : Int) (l1 : List Int) : a6r n kont1 (mx1 + 1) nx2 l1 =
  bif nx2 != 0 then
   (rem nx2 1048576).bind fun q1 =>
   (bif decide (q1 < 0) then
    some (IntKind.i64.wrap (0 - q1))
   else
    some q1).bind fun d1 =>
   (app 8 l1 [d1]).bind fun l3 =>
   (quo .i64 nx2 1048576).bind fun q2 =>
   a6r n kont1 mx1 q2 l3
  else
   kont1 l1 := rfl
def b0z (n : Nat) (nx1 : Int) : Option Big :=
 bif nx1 == 0 then
  some (⟨0, []⟩ : Big)
 else
  (bif decide (nx1 < 0) then
   some (-1)
  else
   some 1).bind fun sign1 =>
  a6r n (fun (l2 : List Int) =>
   (a1t n sign1 l2).bind fun v1 =>
   some v1) n nx1 ([] : List Int)
set_option maxHeartbeats 1000000 in
set_option maxRecDepth 1000000 in
theorem b4g (n : Nat) (nx1 : Int) (r : Big) (hm : b0z n nx1 = some r) {w : World} {F : Frz} (hs : Sat F w)  :
  Calls Tryz.prog 56 #[.int .i64 nx1] w fun e w' => ∃ v F' O', e = .returned v ∧ HS F w [] F' O' w' ∧ (∃ (a0_1 : Option Addr) (n0_1 : Nat) (c0_1 : Nat), v = .agg #[.int .i64 r.Sign, .slice a0_1 n0_1 c0_1] ∧ O' = [] ∧ SlR (Rp.int .i64) F' a0_1 n0_1 c0_1 r.Digits) := by
 unfold b0z at hm
 have h := HS.init hs
 refine a0x 28 Tryz.func56 rfl rfl rfl ?_
 refine a0f (a0a ?_)
 refine a0y ze24 rfl rfl rfl h ?_
 intro b1 wx1 hx1
 refine a0c (a0d (a0f (a0f (a0a (a0e rfl rfl rfl ?_)))))
 refine a0v rfl rfl rfl rfl rfl ?_
 refine a0c (a0d ?_)
 rcases a0i hm with ⟨hb1, hm⟩ | ⟨hb1, hm⟩
 ·refine a0u 7 rfl hb1 ?_
  refine a0z rfl (a0f (a0a ?_))
  refine a1r (v := .agg #[.int .i64 0, .slice none 0 0]) rfl rfl rfl (fun _ => by kernel_rfl) ?_
  refine a0o sz24 rfl hx1 rfl rfl rfl rfl (i := 0) rfl rfl rfl rfl ?_
  intro wx2 hx2
  refine a0c (a0d (a1d (a0n ?_)))
  refine a6l rfl ag24 sz24 rfl hx2 rfl (i := 0) rfl ?_
  obtain rfl := Option.some.inj hm
  exact ⟨_, _, _, rfl, hx2.pick [] (by decide) rfl, none, 0, 0, rfl, rfl, SlR.nil _ _⟩
 refine a0u 7 rfl hb1 ?_
 refine a0s rfl (a1b (a0d (a0f (a0a (a0b rfl rfl rfl (a0c (a0d (a0f (a0f (a0a (a0e rfl rfl rfl ?_)))))))))))
 refine a0v rfl rfl rfl rfl rfl ?_
 refine a0c (a0d ?_)
 obtain ⟨sign1, hb2, hm⟩ := bind_some hm
 refine b0q (fun a w' => wx1 = w' ∧ Has 28 a [(0, .int .i64 nx1), (2, .pointer (some ⟨b1, 0, none⟩)), (3, .int .i64 sign1)]) ?_ ?_
 ·rintro a wx3 ⟨rfl, hax1⟩
  refine a1l hax1 ?_
  refine a0f (a0a (a0b rfl rfl rfl (a0c (a0d (a0f (a1i ?_))))))
  have hx3 := hx1.nilRow 3 1
  intro a hax5
  obtain ⟨kont1, hkont1⟩ : ∃ kont1 : (List Int) → Option Big, kont1 = (fun (l2 : List Int) =>
      (a1t n sign1 l2).bind fun v1 =>
      some v1) := ⟨_, rfl⟩
  replace hm : (fun m (s : Int × List Int) => a6r n kont1 m s.1 s.2) n (nx1, ([] : List Int)) = some r := by rw [hkont1]; exact hm
  refine a5u (id := 0) (fun m (s : Int × List Int) => a6r n kont1 m s.1 s.2) (fun (y : List Int) => kont1 y) r (fun (s : Int × List Int) a w' => ∃ (Fx1 : Frz) (as1 : Option Addr) (ns1 : Nat) (cs1 : Nat) (xss1 : List Value), Frz.le F Fx1 ∧ HS F w [] Fx1 [.row 3 1 as1 ns1 cs1 xss1, .box b1 24 [.int .i64 0, .slice none 0 0]] w' ∧ (RowN (Rp.int .i64) Fx1 ns1 xss1 s.2) ∧ Has 28 a [(0, .int .i64 s.1), (2, .pointer (some ⟨b1, 0, none⟩)), (3, .int .i64 sign1), (4, .slice as1 ns1 cs1)]) (fun (y : List Int) a w' => ∃ (Fx2 : Frz) (as2 : Option Addr) (ns2 : Nat) (cs2 : Nat) (xss2 : List Value), Frz.le F Fx2 ∧ HS F w [] Fx2 [.row 3 1 as2 ns2 cs2 xss2, .box b1 24 [.int .i64 0, .slice none 0 0]] w' ∧ (RowN (Rp.int .i64) Fx2 ns2 xss2 y) ∧ Has 28 a [(2, .pointer (some ⟨b1, 0, none⟩)), (3, .int .i64 sign1), (4, .slice as2 ns2 cs2)]) (fun _ => rfl) ?_ ?_ hm ⟨_, none, 0, 0, [], Frz.refl _, hx3.pick [0, 1] (by decide) rfl, ((show RowN (Rp.int .i64) _ 0 [] [] from ⟨rfl, rfl⟩)), hax5.cut (l := [0, 2, 3, 4]) rfl⟩
  ·clear hm; rintro l2 a wx4 hm ⟨Fx2, as2, ns2, cs2, xss2, hF2, hx5, hs2, hax2⟩
   rw [hkont1] at hm
   replace hm := hm
   refine a2d (e := .exit 0) hax2 ?_
   refine a1j (a0d (a0f (a0a (a0e rfl rfl rfl (a0e rfl rfl rfl ?_)))))
   obtain ⟨Fx3, hF3, hx6, hsx1⟩ := a1g hx5 (i := 0) rfl hs2
   obtain ⟨v1, hv1, hm⟩ := bind_some hm
   refine a0g ent83 rfl rfl rfl rfl hx6 (a3n _ _ _ _ hv1 hx6.sat hsx1) ?_
   rintro _ Fx4 _ wx5 hF4 hx7 ⟨as3, ns3, cs3, rfl, rfl, hs3⟩
   refine a0o sz24 rfl hx7 rfl rfl rfl rfl (i := 0) rfl rfl rfl rfl ?_
   intro wx6 hx8
   refine a0c (a0d (a1d ?_))
   refine a6l rfl ag24 sz24 rfl hx8 rfl (i := 0) rfl ?_
   obtain rfl := Option.some.inj hm
   exact ⟨_, _, _, rfl, hx8.pick [] (by decide) rfl, as3, ns3, cs3, rfl, rfl, hs3⟩
  clear hm hkont1; intro hk1 mx1 K ihx1
  rintro ⟨nx2, l1⟩ a wx7 hm ⟨Fx1, as1, ns1, cs1, xss1, hF1, hx4, hs1, hax3⟩
  simp only [b9v] at hm
  refine a1l hax3 ?_
  refine a0f (a0f (a0a (a0e rfl rfl rfl ?_)))
  refine a0v rfl rfl rfl rfl rfl ?_
  refine a0c (a0d ?_)
  rcases a0i hm with ⟨hb3, hm⟩ | ⟨hb3, hm⟩
  ·refine a0u 12 rfl hb3 ?_
   refine a0z rfl (a1b (a0d (a1i (a0f (a0a (a0e rfl rfl rfl ?_))))))
   obtain ⟨q1, hq1, hm⟩ := bind_some hm
   refine c3i rfl rfl rfl rfl hq1 ?_
   refine a0b rfl rfl rfl (a0c (a0d (a0f (a0f (a0a (a0e rfl rfl rfl ?_))))))
   refine a0v rfl rfl rfl rfl rfl ?_
   refine a0c (a0d ?_)
   obtain ⟨d1, hb4, hm⟩ := bind_some hm
   refine b0q (fun a w' => wx7 = w' ∧ Has 28 a [(0, .int .i64 nx2), (2, .pointer (some ⟨b1, 0, none⟩)), (3, .int .i64 sign1), (4, .slice as1 ns1 cs1), (5, .int .i64 d1)]) ?_ ?_
   ·rintro a wx8 ⟨rfl, hax4⟩
    refine a1l hax4 ?_
    refine a0f (a0a (a0e rfl rfl rfl (a0e rfl rfl rfl ?_)))
    refine a1x (e := 3) (cs := [.int .i64 d1]) (q := 1) rfl rfl hx4 rfl (fun _ => by kernel_rfl) rfl rfl ?_
    intro b2 wx9 hx9
    obtain ⟨l3, hr1, hm⟩ := bind_some hm
    refine a9q (r := (Rp.int .i64)) ap22 rfl rfl hx9 rfl rfl (i := 1) (j := 0) rfl rfl hs1 ((show RowN (Rp.int .i64) Fx1 1 [.int .i64 d1] [d1] from ⟨rfl, ⟨_, _, rfl, rfl, (rfl : RowR (Rp.int .i64) _ [] [])⟩⟩)) hr1 ?_
    intro as4 cs4 wx10 hx10 hs4
    refine a0b rfl rfl rfl (a0c (a0d (a0a (a0e rfl rfl rfl ?_))))
    obtain ⟨q2, hq2, hm⟩ := bind_some hm
    refine c2b rfl rfl rfl rfl hq2 ?_
    refine a0b rfl rfl rfl (a0c (a2a ?_))
    refine a0p (fun a ha => ihx1 (q2, l3) a _ hm ?_)
    exact ⟨_, as4, (ns1 + 1), cs4, (xss1 ++ [.int .i64 d1]), hF1, hx10.pick [1, 2] (by decide) rfl, hs4, ha.cut (l := [0, 2, 3, 4]) rfl⟩
   clear hm
   rcases a0i hb4 with ⟨hb5, hb4⟩ | ⟨hb5, hb4⟩
   ·refine a0u 16 rfl hb5 ?_
    refine a0z rfl (a0a (a0e rfl rfl rfl ?_))
    refine c3w rfl rfl rfl ?_
    refine a0b rfl rfl rfl (a0c ?_)
    refine a0p (fun a ha => ?_)
    cases hb4
    exact ⟨rfl, ha.cut (l := [0, 2, 3, 4, 5]) rfl⟩
   refine a0u 16 rfl hb5 ?_
   refine a0s rfl (a1b ?_)
   refine a0p (fun a ha => ?_)
   cases hb4
   exact ⟨rfl, ha.cut (l := [0, 2, 3, 4, 5]) rfl⟩
  refine a0u 12 rfl hb3 ?_
  refine a0s rfl (a3l (a0q (a0q ?_)))
  refine fun a ha => hk1 l1 a _ hm ?_
  exact ⟨_, as1, ns1, cs1, xss1, hF1, hx4.pick [0, 1] (by decide) rfl, hs1, ha.cut (l := [2, 3, 4]) rfl⟩
 clear hm
 rcases a0i hb2 with ⟨hb6, hb2⟩ | ⟨hb6, hb2⟩
 ·refine a0u 10 rfl hb6 ?_
  refine a0z rfl (a0a (a0b rfl rfl rfl (a0c ?_)))
  refine a0p (fun a ha => ?_)
  cases hb2
  exact ⟨rfl, ha.cut (l := [0, 2, 3]) rfl⟩
 refine a0u 10 rfl hb6 ?_
 refine a0s rfl (a1b ?_)
 refine a0p (fun a ha => ?_)
 cases hb2
 exact ⟨rfl, ha.cut (l := [0, 2, 3]) rfl⟩
def a2r (_n : Nat) (l1 : (List Int)) (i1 : Int) : Option Int :=
 bif decide (i1 < (l1.length : Int)) then
  (ix l1 i1).bind fun ex1 =>
  some ex1
 else
  some 0
set_option maxHeartbeats 1000000 in
set_option maxRecDepth 1000000 in
theorem a4z (n : Nat) (l1 : (List Int)) (i1 : Int) (r : Int) (hm : a2r n l1 i1 = some r) {w : World} {F : Frz} (hs : Sat F w) {as1 : Option Addr} {ns1 : Nat} {cs1 : Nat} (hs1 : SlR (Rp.int .i64) F as1 ns1 cs1 l1) :
  Calls Tryz.prog 105 #[.slice as1 ns1 cs1, .int .i64 i1] w fun e w' => e = .returned (.int .i64 r) ∧ w' = w := by
 unfold a2r at hm
 have h := HS.init hs
 refine a0x 13 Tryz.func105 rfl rfl rfl ?_
 refine a0f (a0a (a0b rfl rfl rfl (a0c (a0d (a0f (a0f (a0a (a0e rfl rfl rfl (a0e rfl rfl rfl ?_)))))))))
 refine a1z hs1.len u22 rfl rfl rfl ?_
 refine a0v rfl rfl rfl rfl rfl ?_
 refine a0c (a0d ?_)
 rcases a0i hm with ⟨hb1, hm⟩ | ⟨hb1, hm⟩
 ·refine a0u 8 rfl hb1 ?_
  refine a0z rfl (a0f (a0a (a0e rfl rfl rfl (a0e rfl rfl rfl ?_))))
  obtain ⟨ex1, he1, hm⟩ := bind_some hm
  refine a3w (r := (Rp.int .i64)) u22 sz3 rfl rfl rfl rfl hs1 he1 ?_
  intro b1 o1 cs1 hf1 hr1
  have hc1 : cs1 = [.int .i64 ex1] := hr1
  subst hc1
  refine a2h (j := 0) ag3 rfl rfl h hf1 rfl rfl ?_
  refine a0b rfl rfl rfl (a0c (a0d (a1d (a0n ?_))))
  refine a1p rfl rfl ?_
  obtain rfl := Option.some.inj hm
  exact ⟨rfl, rfl⟩
 refine a0u 8 rfl hb1 ?_
 refine a0s rfl (a1b (a0d (a0f (a0a (a0b rfl rfl rfl (a0c (a0d (a1d ?_))))))))
 refine a1p rfl rfl ?_
 obtain rfl := Option.some.inj hm
 exact ⟨rfl, rfl⟩
theorem ent105 : Ent Tryz.prog 105 := fun _ _ => by kernel_rfl
def a4y (n : Nat) (ax1 : (List Int)) (b1 : (List Int)) (kont1 : Option Bool) : Nat → Int → Option Bool
 | 0, _ => none
 | mx1 + 1, i1 =>
  bif decide (0 ≤ i1) then
   (a2r n ax1 i1).bind fun v1 =>
   (a2r n b1 i1).bind fun v2 =>
   bif v1 != v2 then
    (a2r n ax1 i1).bind fun v3 =>
    (a2r n b1 i1).bind fun v4 =>
    some (decide (v3 < v4))
   else
    a4y n ax1 b1 kont1 mx1 (isub .i64 i1 1)
  else
   kont1
theorem b7p (n : Nat) (ax1 : (List Int)) (b1 : (List Int)) (kont1 : Option Bool) (mx1 : Nat) (i1 : Int) : a4y n ax1 b1 kont1 (mx1 + 1) i1 =
  bif decide (0 ≤ i1) then
   (a2r n ax1 i1).bind fun v1 =>
   (a2r n b1 i1).bind fun v2 =>
   bif v1 != v2 then
    (a2r n ax1 i1).bind fun v3 =>
    (a2r n b1 i1).bind fun v4 =>
    some (decide (v3 < v4))
   else
    a4y n ax1 b1 kont1 mx1 (isub .i64 i1 1)
  else
   kont1 := rfl
def a5d (n : Nat) (ax1 : (List Int)) (b1 : (List Int)) : Option Bool :=
 a4y n ax1 b1 (
  some false) n (isub .i64 (imax (ax1.length : Int) (b1.length : Int)) 1)
set_option maxHeartbeats 1000000 in
set_option maxRecDepth 1000000 in
theorem b2c (n : Nat) (ax1 : (List Int)) (b1 : (List Int)) (r : Bool) (hm : a5d n ax1 b1 = some r) {w : World} {F : Frz} (hs : Sat F w) {as1 : Option Addr} {ns1 : Nat} {cs1 : Nat} {as2 : Option Addr} {ns2 : Nat} {cs2 : Nat} (hs1 : SlR (Rp.int .i64) F as1 ns1 cs1 ax1) (hs2 : SlR (Rp.int .i64) F as2 ns2 cs2 b1) :
  Calls Tryz.prog 86 #[.slice as1 ns1 cs1, .slice as2 ns2 cs2] w fun e w' => e = .returned (.bool r) ∧ w' = w := by
 unfold a5d at hm
 have h := HS.init hs
 refine a0x 30 Tryz.func86 rfl rfl rfl ?_
 refine a0f (a0a (a0b rfl rfl rfl (a0c (a0d (a0f (a0f (a0a (a0e rfl rfl rfl ?_))))))))
 refine a1z hs1.len u22 rfl rfl rfl ?_
 refine a0e rfl rfl rfl ?_
 refine a1z hs2.len u22 rfl rfl rfl ?_
 refine d1e rfl rfl rfl rfl ?_
 refine a0v rfl rfl rfl rfl rfl ?_
 refine a0b rfl rfl rfl (a0c (a0d (a1i ?_)))
 intro a hax3
 obtain ⟨kont1, hkont1⟩ : ∃ kont1 : Option Bool, kont1 = (
       some false) := ⟨_, rfl⟩
 replace hm : (fun m (s : Int) => a4y n ax1 b1 kont1 m s) n (isub .i64 (imax (ax1.length : Int) (b1.length : Int)) 1) = some r := by rw [hkont1]; exact hm
 refine a5u (id := 0) (fun m (s : Int) => a4y n ax1 b1 kont1 m s) (fun (y : Unit) => kont1) r (fun (s : Int) a w' => w = w' ∧ Has 30 a [(0, .slice as1 ns1 cs1), (1, .slice as2 ns2 cs2), (5, .int .i64 s)]) (fun (y : Unit) a w' => w = w' ∧ Has 30 a []) (fun _ => rfl) ?_ ?_ hm ⟨rfl, hax3.cut (l := [0, 1, 5]) rfl⟩
 ·clear hm; rintro _u a wx1 hm ⟨rfl, hax1⟩
  rw [hkont1] at hm
  refine a2d (e := .exit 0) hax1 ?_
  refine a1j (a0d (a0f (a0a (a0b rfl rfl rfl (a0c (a0d (a1d ?_)))))))
  refine a1p rfl rfl ?_
  obtain rfl := Option.some.inj hm
  exact ⟨rfl, rfl⟩
 clear hm hkont1; intro hk1 mx1 K ihx1
 rintro i1 a wx2 hm ⟨rfl, hax2⟩
 simp only [b7p] at hm
 refine a1l hax2 ?_
 refine a0f (a0f (a0a (a0e rfl rfl rfl ?_)))
 refine a0v rfl rfl rfl rfl rfl ?_
 refine a0c (a0d ?_)
 rcases a0i hm with ⟨hb1, hm⟩ | ⟨hb1, hm⟩
 ·refine a0u 13 rfl hb1 ?_
  refine a0z rfl (a1b (a0d (a0f (a1i (a0f (a0a (a0e rfl rfl rfl (a0e rfl rfl rfl ?_))))))))
  obtain ⟨v1, hv1, hm⟩ := bind_some hm
  refine a4e ent105 rfl rfl rfl rfl (a4z _ _ _ _ hv1 h.sat hs1) ?_
  refine a0e rfl rfl rfl (a0e rfl rfl rfl ?_)
  obtain ⟨v2, hv2, hm⟩ := bind_some hm
  refine a4e ent105 rfl rfl rfl rfl (a4z _ _ _ _ hv2 h.sat hs2) ?_
  refine a0v rfl rfl rfl rfl rfl ?_
  refine a0c (a0d ?_)
  rcases a0i hm with ⟨hb2, hm⟩ | ⟨hb2, hm⟩
  ·refine a0u 22 rfl hb2 ?_
   refine a0z rfl (a0f (a0a (a0e rfl rfl rfl (a0e rfl rfl rfl ?_))))
   obtain ⟨v3, hv3, hm⟩ := bind_some hm
   refine a4e ent105 rfl rfl rfl rfl (a4z _ _ _ _ hv3 h.sat hs1) ?_
   refine a0e rfl rfl rfl (a0e rfl rfl rfl ?_)
   obtain ⟨v4, hv4, hm⟩ := bind_some hm
   refine a4e ent105 rfl rfl rfl rfl (a4z _ _ _ _ hv4 h.sat hs2) ?_
   refine a0v rfl rfl rfl rfl rfl ?_
   refine a0b rfl rfl rfl (a0c (a0d (a1d (a1n (a0n (a0n (a1n (a0n ?_))))))))
   refine a1p rfl rfl ?_
   obtain rfl := Option.some.inj hm
   exact ⟨rfl, rfl⟩
  refine a0u 22 rfl hb2 ?_
  refine a0s rfl (a1b (a2a (a0d (a0a (a0e rfl rfl rfl ?_)))))
  refine a0v rfl rfl rfl rfl rfl ?_
  refine a0b rfl rfl rfl (a0c ?_)
  refine a0p (fun a ha => ihx1 (isub .i64 i1 1) a _ hm ?_)
  exact ⟨rfl, ha.cut (l := [0, 1, 5]) rfl⟩
 refine a0u 13 rfl hb1 ?_
 refine a0s rfl (a3l (a0q (a0q ?_)))
 refine fun a ha => hk1 () a _ hm ?_
 exact ⟨rfl, ha.cut (l := []) rfl⟩
def a5m (n : Nat) (ax1 : (List Int)) (b1 : (List Int)) (kont1 : (List Int) → Option (List Int)) : Nat → Int → Int → (List Int) → Option (List Int)
 | 0, _, _, _ => none
 | mx1 + 1, carry1, i1, l1 =>
  (bif decide (i1 < (ax1.length : Int)) then
   some true
  else
   some (decide (i1 < (b1.length : Int)))).bind fun v2 =>
  (bif v2 then
   some true
  else
   some (decide (0 < carry1))).bind fun v3 =>
  bif v3 then
   (a2r n ax1 i1).bind fun v4 =>
   (a2r n b1 i1).bind fun v5 =>
   (rem (iadd .i64 (iadd .i64 v4 v5) carry1) 1048576).bind fun q1 =>
   (app 8 l1 [q1]).bind fun l3 =>
   (quo .i64 (iadd .i64 (iadd .i64 v4 v5) carry1) 1048576).bind fun q2 =>
   a5m n ax1 b1 kont1 mx1 q2 (iadd .i64 i1 1) l3
  else
   kont1 l1
theorem b6u (n : Nat) (ax1 : (List Int)) (b1 : (List Int)) (kont1 : (List Int) → Option (List Int)) (mx1 : Nat) (carry1 : Int) (i1 : Int) (l1 : List Int) : a5m n ax1 b1 kont1 (mx1 + 1) carry1 i1 l1 =
  (bif decide (i1 < (ax1.length : Int)) then
   some true
  else
   some (decide (i1 < (b1.length : Int)))).bind fun v2 =>
  (bif v2 then
   some true
  else
   some (decide (0 < carry1))).bind fun v3 =>
  bif v3 then
   (a2r n ax1 i1).bind fun v4 =>
   (a2r n b1 i1).bind fun v5 =>
   (rem (iadd .i64 (iadd .i64 v4 v5) carry1) 1048576).bind fun q1 =>
   (app 8 l1 [q1]).bind fun l3 =>
   (quo .i64 (iadd .i64 (iadd .i64 v4 v5) carry1) 1048576).bind fun q2 =>
   a5m n ax1 b1 kont1 mx1 q2 (iadd .i64 i1 1) l3
  else
   kont1 l1 := rfl
def a4m (n : Nat) (ax1 : (List Int)) (b1 : (List Int)) : Option (List Int) :=
 a5m n ax1 b1 (fun (l2 : List Int) =>
  (a1o n l2).bind fun v1 =>
  some v1) n 0 0 ([] : List Int)
set_option maxHeartbeats 1000000 in
set_option maxRecDepth 1000000 in
theorem a8c (n : Nat) (ax1 : (List Int)) (b1 : (List Int)) (r : (List Int)) (hm : a4m n ax1 b1 = some r) {w : World} {F : Frz} (hs : Sat F w) {as1 : Option Addr} {ns1 : Nat} {cs1 : Nat} {as2 : Option Addr} {ns2 : Nat} {cs2 : Nat} (hs1 : SlR (Rp.int .i64) F as1 ns1 cs1 ax1) (hs2 : SlR (Rp.int .i64) F as2 ns2 cs2 b1) :
  Calls Tryz.prog 85 #[.slice as1 ns1 cs1, .slice as2 ns2 cs2] w fun e w' => ∃ v F' O', e = .returned v ∧ HS F w [] F' O' w' ∧ (∃ (a0_0 : Option Addr) (n0_0 : Nat) (c0_0 : Nat) (xs0_0 : List Value), v = .slice a0_0 n0_0 c0_0 ∧ O' = [.row 3 1 a0_0 n0_0 c0_0 xs0_0] ∧ RowN (Rp.int .i64) F' n0_0 xs0_0 r) := by
 unfold a4m at hm
 have h := HS.init hs
 refine a0x 43 Tryz.func85 rfl rfl rfl ?_
 refine a0f (a0a (a0b rfl rfl rfl (a0c (a0d (a0f (a0a (a0b rfl rfl rfl (a0c (a0d (a0f (a0a (a0b rfl rfl rfl (a0c (a0d (a0f (a0f (a0a (a0b rfl rfl rfl (a0c (a0d (a1i ?_)))))))))))))))))))))
 have hx1 := h.nilRow 3 1
 intro a hax5
 obtain ⟨kont1, hkont1⟩ : ∃ kont1 : (List Int) → Option (List Int), kont1 = (fun (l2 : List Int) =>
       (a1o n l2).bind fun v1 =>
       some v1) := ⟨_, rfl⟩
 replace hm : (fun m (s : Int × Int × List Int) => a5m n ax1 b1 kont1 m s.1 s.2.1 s.2.2) n (0, 0, ([] : List Int)) = some r := by rw [hkont1]; exact hm
 refine a5u (id := 0) (fun m (s : Int × Int × List Int) => a5m n ax1 b1 kont1 m s.1 s.2.1 s.2.2) (fun (y : List Int) => kont1 y) r (fun (s : Int × Int × List Int) a w' => ∃ (Fx1 : Frz) (as3 : Option Addr) (ns3 : Nat) (cs3 : Nat) (xss3 : List Value), Frz.le F Fx1 ∧ HS F w [] Fx1 [.row 3 1 as3 ns3 cs3 xss3] w' ∧ (RowN (Rp.int .i64) Fx1 ns3 xss3 s.2.2) ∧ Has 43 a [(0, .slice as1 ns1 cs1), (1, .slice as2 ns2 cs2), (5, .slice as3 ns3 cs3), (6, .int .i64 s.1), (7, .int .i64 s.2.1)]) (fun (y : List Int) a w' => ∃ (Fx2 : Frz) (as4 : Option Addr) (ns4 : Nat) (cs4 : Nat) (xss4 : List Value), Frz.le F Fx2 ∧ HS F w [] Fx2 [.row 3 1 as4 ns4 cs4 xss4] w' ∧ (RowN (Rp.int .i64) Fx2 ns4 xss4 y) ∧ Has 43 a [(5, .slice as4 ns4 cs4)]) (fun _ => rfl) ?_ ?_ hm ⟨_, none, 0, 0, [], Frz.refl _, hx1.pick [0] (by decide) rfl, ((show RowN (Rp.int .i64) _ 0 [] [] from ⟨rfl, rfl⟩)), hax5.cut (l := [0, 1, 5, 6, 7]) rfl⟩
 ·clear hm; rintro l2 a wx1 hm ⟨Fx2, as4, ns4, cs4, xss4, hF2, hx3, hs4, hax1⟩
  rw [hkont1] at hm
  replace hm := hm
  refine a2d (e := .exit 0) hax1 ?_
  refine a1j (a0d (a0f (a0a (a0e rfl rfl rfl ?_))))
  obtain ⟨Fx3, hF3, hx4, hsx1⟩ := a1g hx3 (i := 0) rfl hs4
  obtain ⟨v1, hv1, hm⟩ := bind_some hm
  refine a0g ent92 rfl rfl rfl rfl hx4 (a4c _ _ _ hv1 hx4.sat hsx1) ?_
  rintro _ Fx4 _ wx2 hF4 hx5 ⟨as5, ns5, cs5, xss5, rfl, rfl, hs5⟩
  refine a0b rfl rfl rfl (a0c (a0d (a1d ?_)))
  refine a1p rfl rfl ?_
  obtain rfl := Option.some.inj hm
  exact ⟨_, _, _, rfl, hx5.pick [0] (by decide) rfl, as5, ns5, cs5, xss5, rfl, rfl, hs5⟩
 clear hm hkont1; intro hk1 mx1 K ihx1
 rintro ⟨carry1, i1, l1⟩ a wx3 hm ⟨Fx1, as3, ns3, cs3, xss3, hF1, hx2, hs3, hax2⟩
 simp only [b6u] at hm
 refine a1l hax2 ?_
 refine a0f (a0f (a0a (a0e rfl rfl rfl (a0e rfl rfl rfl ?_))))
 refine a1z hs1.len u22 rfl rfl rfl ?_
 refine a0v rfl rfl rfl rfl rfl ?_
 refine a0e rfl rfl rfl ?_
 obtain ⟨v2, hb1, hm⟩ := bind_some hm
 refine a2k 5 (fun a w' => wx3 = w' ∧ Has 43 a [(0, .slice as1 ns1 cs1), (1, .slice as2 ns2 cs2), (5, .slice as3 ns3 cs3), (6, .int .i64 carry1), (7, .int .i64 i1), (18, .bool v2)]) ?_ ?_
 ·rintro a wx4 ⟨rfl, hax3⟩
  refine a1a hax3 ?_
  refine a0e rfl rfl rfl ?_
  obtain ⟨v3, hb2, hm⟩ := bind_some hm
  refine a2k 3 (fun a w' => wx3 = w' ∧ Has 43 a [(0, .slice as1 ns1 cs1), (1, .slice as2 ns2 cs2), (5, .slice as3 ns3 cs3), (6, .int .i64 carry1), (7, .int .i64 i1), (22, .bool v3)]) ?_ ?_
  ·rintro a wx5 ⟨rfl, hax4⟩
   refine a1a hax4 ?_
   refine a0c (a0d ?_)
   rcases a0i hm with ⟨hb3, hm⟩ | ⟨hb3, hm⟩
   ·refine a0u 22 rfl hb3 ?_
    refine a0z rfl (a1b (a0d (a0f (a1i (a0f (a0a (a0e rfl rfl rfl (a0e rfl rfl rfl ?_))))))))
    obtain ⟨v4, hv2, hm⟩ := bind_some hm
    refine a4e ent105 rfl rfl rfl rfl (a4z _ _ _ _ hv2 hx2.sat (hs1.mono hF1)) ?_
    refine a0e rfl rfl rfl (a0e rfl rfl rfl ?_)
    obtain ⟨v5, hv3, hm⟩ := bind_some hm
    refine a4e ent105 rfl rfl rfl rfl (a4z _ _ _ _ hv3 hx2.sat (hs2.mono hF1)) ?_
    refine a0v rfl rfl rfl rfl rfl ?_
    refine a0e rfl rfl rfl ?_
    refine a0v rfl rfl rfl rfl rfl ?_
    refine a0b rfl rfl rfl (a0c (a0d (a0f (a0a (a0e rfl rfl rfl (a0e rfl rfl rfl ?_))))))
    obtain ⟨q1, hq1, hm⟩ := bind_some hm
    refine c3i rfl rfl rfl rfl hq1 ?_
    refine a1x (e := 3) (cs := [.int .i64 q1]) (q := 1) rfl rfl hx2 rfl (fun _ => by kernel_rfl) rfl rfl ?_
    intro b2 wx6 hx6
    obtain ⟨l3, hr1, hm⟩ := bind_some hm
    refine a9q (r := (Rp.int .i64)) ap22 rfl rfl hx6 rfl rfl (i := 1) (j := 0) rfl rfl hs3 ((show RowN (Rp.int .i64) Fx1 1 [.int .i64 q1] [q1] from ⟨rfl, ⟨_, _, rfl, rfl, (rfl : RowR (Rp.int .i64) _ [] [])⟩⟩)) hr1 ?_
    intro as6 cs6 wx7 hx7 hs6
    refine a0b rfl rfl rfl (a0c (a0d (a0a (a0e rfl rfl rfl ?_))))
    obtain ⟨q2, hq2, hm⟩ := bind_some hm
    refine c2b rfl rfl rfl rfl hq2 ?_
    refine a0b rfl rfl rfl (a0c (a2a (a0d (a0a (a0e rfl rfl rfl ?_)))))
    refine a0v rfl rfl rfl rfl rfl ?_
    refine a0b rfl rfl rfl (a0c ?_)
    refine a0p (fun a ha => ihx1 (q2, (iadd .i64 i1 1), l3) a _ hm ?_)
    exact ⟨_, as6, (ns3 + 1), cs6, (xss3 ++ [.int .i64 q1]), hF1, hx7.pick [1] (by decide) rfl, hs6, ha.cut (l := [0, 1, 5, 6, 7]) rfl⟩
   refine a0u 22 rfl hb3 ?_
   refine a0s rfl (a3l (a0q (a0q ?_)))
   refine fun a ha => hk1 l1 a _ hm ?_
   exact ⟨_, as3, ns3, cs3, xss3, hF1, hx2.pick [0] (by decide) rfl, hs3, ha.cut (l := [5]) rfl⟩
  clear hm
  rcases a0i hb2 with ⟨hb4, hb2⟩ | ⟨hb4, hb2⟩
  ·refine a1e 19 rfl hb4 ?_
   refine a0r rfl (by decide) rfl (a0r rfl (by decide) rfl (a0m rfl rfl rfl rfl (a0c ?_)))
   refine a0p (fun a ha => ?_)
   cases hb2
   exact ⟨rfl, ha.cut (l := [0, 1, 5, 6, 7, 22]) rfl⟩
  refine a1e 19 rfl hb4 ?_
  refine a0e rfl rfl rfl ?_
  refine a0v rfl rfl rfl rfl rfl ?_
  refine a0l rfl rfl rfl rfl (a0c ?_)
  refine a0p (fun a ha => ?_)
  cases hb2
  exact ⟨rfl, ha.cut (l := [0, 1, 5, 6, 7, 22]) rfl⟩
 clear hm
 rcases a0i hb1 with ⟨hb5, hb1⟩ | ⟨hb5, hb1⟩
 ·refine a1e 13 rfl hb5 ?_
  refine a0r rfl (by decide) rfl (a0r rfl (by decide) rfl (a0r rfl (by decide) rfl (a0r rfl (by decide) rfl (a0m rfl rfl rfl rfl (a0c ?_)))))
  refine a0p (fun a ha => ?_)
  cases hb1
  exact ⟨rfl, ha.cut (l := [0, 1, 5, 6, 7, 18]) rfl⟩
 refine a1e 13 rfl hb5 ?_
 refine a0e rfl rfl rfl (a0e rfl rfl rfl ?_)
 refine a1z hs2.len u22 rfl rfl rfl ?_
 refine a0v rfl rfl rfl rfl rfl ?_
 refine a0l rfl rfl rfl rfl (a0c ?_)
 refine a0p (fun a ha => ?_)
 cases hb1
 exact ⟨rfl, ha.cut (l := [0, 1, 5, 6, 7, 18]) rfl⟩
def a3x (n : Nat) (ax1 : (List Int)) (b1 : (List Int)) (kont1 : (List Int) → Option (List Int)) : Nat → Int → Int → (List Int) → Option (List Int)
 | 0, _, _, _ => none
 | mx1 + 1, borrow1, i1, l1 =>
  bif decide (i1 < (ax1.length : Int)) then
   (ix ax1 i1).bind fun ex1 =>
   (a2r n b1 i1).bind fun v2 =>
   (bif decide ((isub .i64 (isub .i64 ex1 v2) borrow1) < 0) then
    some (1, iadd .i64 (isub .i64 (isub .i64 ex1 v2) borrow1) 1048576)
   else
    some (0, isub .i64 (isub .i64 ex1 v2) borrow1)).bind fun (borrow2, nx1) =>
   (app 8 l1 [nx1]).bind fun l3 =>
   a3x n ax1 b1 kont1 mx1 borrow2 (iadd .i64 i1 1) l3
  else
   kont1 l1
theorem b6b (n : Nat) (ax1 : (List Int)) (b1 : (List Int)) (kont1 : (List Int) → Option (List Int)) (mx1 : Nat) (borrow1 : Int) (i1 : Int) (l1 : List Int) : a3x n ax1 b1 kont1 (mx1 + 1) borrow1 i1 l1 =
  bif decide (i1 < (ax1.length : Int)) then
   (ix ax1 i1).bind fun ex1 =>
   (a2r n b1 i1).bind fun v2 =>
   (bif decide ((isub .i64 (isub .i64 ex1 v2) borrow1) < 0) then
    some (1, iadd .i64 (isub .i64 (isub .i64 ex1 v2) borrow1) 1048576)
   else
    some (0, isub .i64 (isub .i64 ex1 v2) borrow1)).bind fun (borrow2, nx1) =>
   (app 8 l1 [nx1]).bind fun l3 =>
   a3x n ax1 b1 kont1 mx1 borrow2 (iadd .i64 i1 1) l3
  else
   kont1 l1 := rfl
def a2w (n : Nat) (ax1 : (List Int)) (b1 : (List Int)) : Option (List Int) :=
 a3x n ax1 b1 (fun (l2 : List Int) =>
  (a1o n l2).bind fun v1 =>
  some v1) n 0 0 ([] : List Int)
set_option maxHeartbeats 1000000 in
set_option maxRecDepth 1000000 in
theorem a8t (n : Nat) (ax1 : (List Int)) (b1 : (List Int)) (r : (List Int)) (hm : a2w n ax1 b1 = some r) {w : World} {F : Frz} (hs : Sat F w) {as1 : Option Addr} {ns1 : Nat} {cs1 : Nat} {as2 : Option Addr} {ns2 : Nat} {cs2 : Nat} (hs1 : SlR (Rp.int .i64) F as1 ns1 cs1 ax1) (hs2 : SlR (Rp.int .i64) F as2 ns2 cs2 b1) :
  Calls Tryz.prog 87 #[.slice as1 ns1 cs1, .slice as2 ns2 cs2] w fun e w' => ∃ v F' O', e = .returned v ∧ HS F w [] F' O' w' ∧ (∃ (a0_0 : Option Addr) (n0_0 : Nat) (c0_0 : Nat) (xs0_0 : List Value), v = .slice a0_0 n0_0 c0_0 ∧ O' = [.row 3 1 a0_0 n0_0 c0_0 xs0_0] ∧ RowN (Rp.int .i64) F' n0_0 xs0_0 r) := by
 unfold a2w at hm
 have h := HS.init hs
 refine a0x 35 Tryz.func87 rfl rfl rfl ?_
 refine a0f (a0a (a0b rfl rfl rfl (a0c (a0d (a0f (a0a (a0b rfl rfl rfl (a0c (a0d (a0f (a0a (a0b rfl rfl rfl (a0c (a0d (a0f (a0f (a0a (a0b rfl rfl rfl (a0c (a0d (a1i ?_)))))))))))))))))))))
 have hx1 := h.nilRow 3 1
 intro a hax4
 obtain ⟨kont1, hkont1⟩ : ∃ kont1 : (List Int) → Option (List Int), kont1 = (fun (l2 : List Int) =>
       (a1o n l2).bind fun v1 =>
       some v1) := ⟨_, rfl⟩
 replace hm : (fun m (s : Int × Int × List Int) => a3x n ax1 b1 kont1 m s.1 s.2.1 s.2.2) n (0, 0, ([] : List Int)) = some r := by rw [hkont1]; exact hm
 refine a5u (id := 0) (fun m (s : Int × Int × List Int) => a3x n ax1 b1 kont1 m s.1 s.2.1 s.2.2) (fun (y : List Int) => kont1 y) r (fun (s : Int × Int × List Int) a w' => ∃ (Fx1 : Frz) (as3 : Option Addr) (ns3 : Nat) (cs3 : Nat) (xss3 : List Value), Frz.le F Fx1 ∧ HS F w [] Fx1 [.row 3 1 as3 ns3 cs3 xss3] w' ∧ (RowN (Rp.int .i64) Fx1 ns3 xss3 s.2.2) ∧ Has 35 a [(0, .slice as1 ns1 cs1), (1, .slice as2 ns2 cs2), (5, .slice as3 ns3 cs3), (6, .int .i64 s.1), (7, .int .i64 s.2.1)]) (fun (y : List Int) a w' => ∃ (Fx2 : Frz) (as4 : Option Addr) (ns4 : Nat) (cs4 : Nat) (xss4 : List Value), Frz.le F Fx2 ∧ HS F w [] Fx2 [.row 3 1 as4 ns4 cs4 xss4] w' ∧ (RowN (Rp.int .i64) Fx2 ns4 xss4 y) ∧ Has 35 a [(5, .slice as4 ns4 cs4)]) (fun _ => rfl) ?_ ?_ hm ⟨_, none, 0, 0, [], Frz.refl _, hx1.pick [0] (by decide) rfl, ((show RowN (Rp.int .i64) _ 0 [] [] from ⟨rfl, rfl⟩)), hax4.cut (l := [0, 1, 5, 6, 7]) rfl⟩
 ·clear hm; rintro l2 a wx1 hm ⟨Fx2, as4, ns4, cs4, xss4, hF2, hx3, hs4, hax1⟩
  rw [hkont1] at hm
  replace hm := hm
  refine a2d (e := .exit 0) hax1 ?_
  refine a1j (a0d (a0f (a0a (a0e rfl rfl rfl ?_))))
  obtain ⟨Fx3, hF3, hx4, hsx1⟩ := a1g hx3 (i := 0) rfl hs4
  obtain ⟨v1, hv1, hm⟩ := bind_some hm
  refine a0g ent92 rfl rfl rfl rfl hx4 (a4c _ _ _ hv1 hx4.sat hsx1) ?_
  rintro _ Fx4 _ wx2 hF4 hx5 ⟨as5, ns5, cs5, xss5, rfl, rfl, hs5⟩
  refine a0b rfl rfl rfl (a0c (a0d (a1d ?_)))
  refine a1p rfl rfl ?_
  obtain rfl := Option.some.inj hm
  exact ⟨_, _, _, rfl, hx5.pick [0] (by decide) rfl, as5, ns5, cs5, xss5, rfl, rfl, hs5⟩
 clear hm hkont1; intro hk1 mx1 K ihx1
 rintro ⟨borrow1, i1, l1⟩ a wx3 hm ⟨Fx1, as3, ns3, cs3, xss3, hF1, hx2, hs3, hax2⟩
 simp only [b6b] at hm
 refine a1l hax2 ?_
 refine a0f (a0f (a0a (a0e rfl rfl rfl (a0e rfl rfl rfl ?_))))
 refine a1z hs1.len u22 rfl rfl rfl ?_
 refine a0v rfl rfl rfl rfl rfl ?_
 refine a0c (a0d ?_)
 rcases a0i hm with ⟨hb1, hm⟩ | ⟨hb1, hm⟩
 ·refine a0u 12 rfl hb1 ?_
  refine a0z rfl (a1b (a0d (a0f (a1i (a0f ?_)))))
  refine a4s (by kernel_rfl) (by kernel_rfl) hx2 ?_
  refine a1h rfl rfl rfl rfl (fun _ _ _ _ => a0e rfl rfl rfl (a0c (qq rfl))) ?_
  refine a1h rfl rfl rfl rfl (fun _ _ _ _ => a0e rfl rfl rfl (a0c (qq rfl))) ?_
  obtain ⟨ex1, he1, hm⟩ := bind_some hm
  obtain ⟨b2, o1, cs1, hf1, hr1, hrun1⟩ := a5c (P := Tryz.prog) (r := (Rp.int .i64)) u22 sz3 (hs1.mono hF1) he1
  have hc1 : cs1 = [.int .i64 ex1] := hr1
  subst hc1
  refine a4v rfl rfl rfl rfl hrun1 ?_
  refine a1h rfl rfl rfl rfl (fun _ _ hleq hq => a2h (j := 0) ag3 rfl rfl hq (hf1.mono hleq) rfl rfl (a0c (qq rfl))) ?_
  refine a1h rfl rfl rfl rfl (fun _ _ _ _ => a0e rfl rfl rfl (a0c (qq rfl))) ?_
  refine a1h rfl rfl rfl rfl (fun _ _ _ _ => a0e rfl rfl rfl (a0c (qq rfl))) ?_
  obtain ⟨v2, hv2, hm⟩ := bind_some hm
  refine b6p ent105 rfl rfl rfl rfl (fun _ _ hleq hq => a4z _ _ _ _ hv2 hq.sat ((hs2.mono hF1).mono hleq)) ?_
  refine a1h rfl rfl rfl rfl (fun _ _ _ _ => a0v rfl rfl rfl rfl rfl (a0c (qq rfl))) ?_
  refine a1h rfl rfl rfl rfl (fun _ _ _ _ => a0e rfl rfl rfl (a0c (qq rfl))) ?_
  refine a1h rfl rfl rfl rfl (fun _ _ _ _ => a0v rfl rfl rfl rfl rfl (a0c (qq rfl))) ?_
  refine a1h rfl rfl rfl rfl (fun _ _ _ _ => a0b rfl rfl rfl (a0c (qq rfl))) ?_
  refine b3x ?_
  rintro wx4 ⟨Fx5, hF5, hx6⟩
  refine a0d (a0f (a0a (a0b rfl rfl rfl (a0c (a0d (a0f (a0f (a0a (a0e rfl rfl rfl ?_)))))))))
  refine a0v rfl rfl rfl rfl rfl ?_
  refine a0c (a0d ?_)
  obtain ⟨⟨borrow2, nx1⟩, hb2, hm⟩ := bind_some hm
  refine b0q (fun a w' => wx4 = w' ∧ Has 35 a [(0, .slice as1 ns1 cs1), (1, .slice as2 ns2 cs2), (5, .slice as3 ns3 cs3), (6, .int .i64 borrow2), (7, .int .i64 i1), (8, .int .i64 nx1)]) ?_ ?_
  ·rintro a wx5 ⟨rfl, hax3⟩
   refine a1l hax3 ?_
   refine a0a (a0e rfl rfl rfl (a0e rfl rfl rfl ?_))
   refine a1x (e := 3) (cs := [.int .i64 nx1]) (q := 1) rfl rfl hx6 rfl (fun _ => by kernel_rfl) rfl rfl ?_
   intro b3 wx6 hx7
   obtain ⟨l3, hr2, hm⟩ := bind_some hm
   refine a9q (r := (Rp.int .i64)) ap22 rfl rfl hx7 rfl rfl (i := 1) (j := 0) rfl rfl (hs3.mono hF5) ((show RowN (Rp.int .i64) Fx5 1 [.int .i64 nx1] [nx1] from ⟨rfl, ⟨_, _, rfl, rfl, (rfl : RowR (Rp.int .i64) _ [] [])⟩⟩)) hr2 ?_
   intro as6 cs6 wx7 hx8 hs6
   refine a0b rfl rfl rfl (a0c (a2a (a0d (a0a (a0e rfl rfl rfl ?_)))))
   refine a0v rfl rfl rfl rfl rfl ?_
   refine a0b rfl rfl rfl (a0c ?_)
   refine a0p (fun a ha => ihx1 (borrow2, (iadd .i64 i1 1), l3) a _ hm ?_)
   exact ⟨_, as6, (ns3 + 1), cs6, (xss3 ++ [.int .i64 nx1]), (hF1.trans hF5), hx8.pick [1] (by decide) rfl, hs6, ha.cut (l := [0, 1, 5, 6, 7]) rfl⟩
  clear hm
  rcases a0i hb2 with ⟨hb3, hb2⟩ | ⟨hb3, hb2⟩
  ·refine a0u 26 rfl hb3 ?_
   refine a0z rfl (a0f (a0a (a0e rfl rfl rfl ?_)))
   refine a0v rfl rfl rfl rfl rfl ?_
   refine a0b rfl rfl rfl (a0c (a0d (a0a (a0b rfl rfl rfl (a0c ?_)))))
   refine a0p (fun a ha => ?_)
   cases hb2
   exact ⟨rfl, ha.cut (l := [0, 1, 5, 6, 7, 8]) rfl⟩
  refine a0u 26 rfl hb3 ?_
  refine a0s rfl (a1b ?_)
  refine a0p (fun a ha => ?_)
  cases hb2
  exact ⟨rfl, ha.cut (l := [0, 1, 5, 6, 7, 8]) rfl⟩
 refine a0u 12 rfl hb1 ?_
 refine a0s rfl (a3l (a0q (a0q ?_)))
 refine fun a ha => hk1 l1 a _ hm ?_
 exact ⟨_, as3, ns3, cs3, xss3, hF1, hx2.pick [0] (by decide) rfl, hs3, ha.cut (l := [5]) rfl⟩
def a4h (n : Nat) (ax1 : (List Int)) (b1 : (List Int)) (i1 : Int) (kont2 : (List Int) → Option (List Int)) : Nat → Int → Int → (List Int) → Option (List Int)
 | 0, _, _, _ => none
 | mx2 + 1, carry1, k1, l4 =>
  (bif decide (k1 < (b1.length : Int)) then
   some true
  else
   some (decide (0 < carry1))).bind fun v2 =>
  bif v2 then
   (ix l4 (iadd .i64 i1 k1)).bind fun ex1 =>
   (ix ax1 i1).bind fun ex2 =>
   (a2r n b1 k1).bind fun v3 =>
   (rem (iadd .i64 (iadd .i64 ex1 (imul .i64 ex2 v3)) carry1) 1048576).bind fun q1 =>
   (ix l4 (iadd .i64 i1 k1)).bind fun _ =>
   (lset l4 (iadd .i64 i1 k1) q1).bind fun l6 =>
   (quo .i64 (iadd .i64 (iadd .i64 ex1 (imul .i64 ex2 v3)) carry1) 1048576).bind fun q2 =>
   a4h n ax1 b1 i1 kont2 mx2 q2 (iadd .i64 k1 1) l6
  else
   kont2 l4
theorem b6f (n : Nat) (ax1 : (List Int)) (b1 : (List Int)) (i1 : Int) (kont2 : (List Int) → Option (List Int)) (mx2 : Nat) (carry1 : Int) (k1 : Int) (l4 : List Int) : a4h n ax1 b1 i1 kont2 (mx2 + 1) carry1 k1 l4 =
  (bif decide (k1 < (b1.length : Int)) then
   some true
  else
   some (decide (0 < carry1))).bind fun v2 =>
  bif v2 then
   (ix l4 (iadd .i64 i1 k1)).bind fun ex1 =>
   (ix ax1 i1).bind fun ex2 =>
   (a2r n b1 k1).bind fun v3 =>
   (rem (iadd .i64 (iadd .i64 ex1 (imul .i64 ex2 v3)) carry1) 1048576).bind fun q1 =>
   (ix l4 (iadd .i64 i1 k1)).bind fun _ =>
   (lset l4 (iadd .i64 i1 k1) q1).bind fun l6 =>
   (quo .i64 (iadd .i64 (iadd .i64 ex1 (imul .i64 ex2 v3)) carry1) 1048576).bind fun q2 =>
   a4h n ax1 b1 i1 kont2 mx2 q2 (iadd .i64 k1 1) l6
  else
   kont2 l4 := rfl
def a3b (n : Nat) (ax1 : (List Int)) (b1 : (List Int)) (kont1 : (List Int) → Option (List Int)) : Nat → Int → (List Int) → Option (List Int)
 | 0, _, _ => none
 | mx1 + 1, i1, l2 =>
  bif decide (i1 < (ax1.length : Int)) then
   a4h n ax1 b1 i1 (fun (l5 : List Int) =>
    a3b n ax1 b1 kont1 mx1 (iadd .i64 i1 1) l5) n 0 0 l2
  else
   kont1 l2
theorem b6a (n : Nat) (ax1 : (List Int)) (b1 : (List Int)) (kont1 : (List Int) → Option (List Int)) (mx1 : Nat) (i1 : Int) (l2 : List Int) : a3b n ax1 b1 kont1 (mx1 + 1) i1 l2 =
  bif decide (i1 < (ax1.length : Int)) then
   a4h n ax1 b1 i1 (fun (l5 : List Int) =>
    a3b n ax1 b1 kont1 mx1 (iadd .i64 i1 1) l5) n 0 0 l2
  else
   kont1 l2 := rfl
def a2v (n : Nat) (ax1 : (List Int)) (b1 : (List Int)) : Option (List Int) :=
 (mks 8 0 (iadd .i64 (ax1.length : Int) (b1.length : Int))).bind fun l1 =>
 a3b n ax1 b1 (fun (l3 : List Int) =>
  (a1o n l3).bind fun v1 =>
  some v1) n 0 l1
set_option maxHeartbeats 1000000 in
set_option maxRecDepth 1000000 in
theorem a6i (n : Nat) (ax1 : (List Int)) (b1 : (List Int)) (r : (List Int)) (hm : a2v n ax1 b1 = some r) {w : World} {F : Frz} (hs : Sat F w) {as1 : Option Addr} {ns1 : Nat} {cs1 : Nat} {as2 : Option Addr} {ns2 : Nat} {cs2 : Nat} (hs1 : SlR (Rp.int .i64) F as1 ns1 cs1 ax1) (hs2 : SlR (Rp.int .i64) F as2 ns2 cs2 b1) :
  Calls Tryz.prog 84 #[.slice as1 ns1 cs1, .slice as2 ns2 cs2] w fun e w' => ∃ v F' O', e = .returned v ∧ HS F w [] F' O' w' ∧ (∃ (a0_0 : Option Addr) (n0_0 : Nat) (c0_0 : Nat) (xs0_0 : List Value), v = .slice a0_0 n0_0 c0_0 ∧ O' = [.row 3 1 a0_0 n0_0 c0_0 xs0_0] ∧ RowN (Rp.int .i64) F' n0_0 xs0_0 r) := by
 unfold a2v at hm
 have h := HS.init hs
 refine a0x 60 Tryz.func84 rfl rfl rfl ?_
 refine a0f (a0a (a0b rfl rfl rfl (a0c (a0d (a0f (a0a (a0e rfl rfl rfl ?_)))))))
 refine a1z hs1.len u22 rfl rfl rfl ?_
 refine a0e rfl rfl rfl ?_
 refine a1z hs2.len u22 rfl rfl rfl ?_
 refine a0v rfl rfl rfl rfl rfl ?_
 obtain ⟨l1, hl1, hm⟩ := bind_some hm
 refine b6x (r := (Rp.int .i64)) ap22 zi3 (fun _ => rfl) rfl rfl rfl h rfl rfl hl1 ?_
 intro b2 wx1 xs1 hx1 hr1
 refine a0b rfl rfl rfl (a0c (a0d (a0f (a0f (a0a (a0b rfl rfl rfl (a0c (a0d (a1i ?_)))))))))
 intro a hax9
 obtain ⟨kont1, hkont1⟩ : ∃ kont1 : (List Int) → Option (List Int), kont1 = (fun (l3 : List Int) =>
       (a1o n l3).bind fun v1 =>
       some v1) := ⟨_, rfl⟩
 replace hm : (fun m (s : Int × List Int) => a3b n ax1 b1 kont1 m s.1 s.2) n (0, l1) = some r := by rw [hkont1]; exact hm
 refine a5u (id := 0) (fun m (s : Int × List Int) => a3b n ax1 b1 kont1 m s.1 s.2) (fun (y : List Int) => kont1 y) r (fun (s : Int × List Int) a w' => ∃ (Fx1 : Frz) (as3 : Option Addr) (ns3 : Nat) (cs3 : Nat) (xss3 : List Value), Frz.le F Fx1 ∧ HS F w [] Fx1 [.row 3 1 as3 ns3 cs3 xss3] w' ∧ (RowN (Rp.int .i64) Fx1 ns3 xss3 s.2) ∧ Has 60 a [(0, .slice as1 ns1 cs1), (1, .slice as2 ns2 cs2), (5, .slice as3 ns3 cs3), (6, .int .i64 s.1)]) (fun (y : List Int) a w' => ∃ (Fx2 : Frz) (as4 : Option Addr) (ns4 : Nat) (cs4 : Nat) (xss4 : List Value), Frz.le F Fx2 ∧ HS F w [] Fx2 [.row 3 1 as4 ns4 cs4 xss4] w' ∧ (RowN (Rp.int .i64) Fx2 ns4 xss4 y) ∧ Has 60 a [(5, .slice as4 ns4 cs4)]) (fun _ => rfl) ?_ ?_ hm ⟨_, (some ⟨b2, 0, none⟩), ((iadd .i64 (ax1.length : Int) (b1.length : Int)).toNat), ((iadd .i64 (ax1.length : Int) (b1.length : Int)).toNat), xs1, Frz.refl _, hx1.pick [0] (by decide) rfl, hr1, hax9.cut (l := [0, 1, 5, 6]) rfl⟩
 ·clear hm; rintro l3 a wx2 hm ⟨Fx2, as4, ns4, cs4, xss4, hF2, hx3, hs4, hax1⟩
  rw [hkont1] at hm
  replace hm := hm
  refine a2d (e := .exit 0) hax1 ?_
  refine a1j (a0d (a0f (a0a (a0e rfl rfl rfl ?_))))
  obtain ⟨Fx3, hF3, hx4, hsx1⟩ := a1g hx3 (i := 0) rfl hs4
  obtain ⟨v1, hv1, hm⟩ := bind_some hm
  refine a0g ent92 rfl rfl rfl rfl hx4 (a4c _ _ _ hv1 hx4.sat hsx1) ?_
  rintro _ Fx4 _ wx3 hF4 hx5 ⟨as5, ns5, cs5, xss5, rfl, rfl, hs5⟩
  refine a0b rfl rfl rfl (a0c (a0d (a1d ?_)))
  refine a1p rfl rfl ?_
  obtain rfl := Option.some.inj hm
  exact ⟨_, _, _, rfl, hx5.pick [0] (by decide) rfl, as5, ns5, cs5, xss5, rfl, rfl, hs5⟩
 clear hm hkont1; intro hk1 mx1 K ihx1
 rintro ⟨i1, l2⟩ a wx4 hm ⟨Fx1, as3, ns3, cs3, xss3, hF1, hx2, hs3, hax2⟩
 simp only [b6a] at hm
 refine a1l hax2 ?_
 refine a0f (a0f (a0a (a0e rfl rfl rfl (a0e rfl rfl rfl ?_))))
 refine a1z hs1.len u22 rfl rfl rfl ?_
 refine a0v rfl rfl rfl rfl rfl ?_
 refine a0c (a0d ?_)
 rcases a0i hm with ⟨hb1, hm⟩ | ⟨hb1, hm⟩
 ·refine a0u 19 rfl hb1 ?_
  refine a0z rfl (a1b (a0d (a0f (a1i (a0f (a0a (a0b rfl rfl rfl (a0c (a0d (a0f (a0a (a0b rfl rfl rfl (a0c (a0d (a1i ?_)))))))))))))))
  intro a hax8
  obtain ⟨kont2, hkont2⟩ : ∃ kont2 : (List Int) → Option (List Int), kont2 = (fun (l5 : List Int) =>
      a3b n ax1 b1 kont1 mx1 (iadd .i64 i1 1) l5) := ⟨_, rfl⟩
  replace hm : (fun m (s : Int × Int × List Int) => a4h n ax1 b1 i1 kont2 m s.1 s.2.1 s.2.2) n (0, 0, l2) = some r := by rw [hkont2]; exact hm
  refine a5u (id := 2) (fun m (s : Int × Int × List Int) => a4h n ax1 b1 i1 kont2 m s.1 s.2.1 s.2.2) (fun (y : List Int) => kont2 y) r (fun (s : Int × Int × List Int) a w' => ∃ (Fx5 : Frz) (as6 : Option Addr) (ns6 : Nat) (cs6 : Nat) (xss6 : List Value), Frz.le Fx1 Fx5 ∧ HS F w [] Fx5 [.row 3 1 as6 ns6 cs6 xss6] w' ∧ (RowN (Rp.int .i64) Fx5 ns6 xss6 s.2.2) ∧ Has 60 a [(0, .slice as1 ns1 cs1), (1, .slice as2 ns2 cs2), (5, .slice as6 ns6 cs6), (6, .int .i64 i1), (7, .int .i64 s.1), (8, .int .i64 s.2.1)]) (fun (y : List Int) a w' => ∃ (Fx6 : Frz) (as7 : Option Addr) (ns7 : Nat) (cs7 : Nat) (xss7 : List Value), Frz.le Fx1 Fx6 ∧ HS F w [] Fx6 [.row 3 1 as7 ns7 cs7 xss7] w' ∧ (RowN (Rp.int .i64) Fx6 ns7 xss7 y) ∧ Has 60 a [(0, .slice as1 ns1 cs1), (1, .slice as2 ns2 cs2), (5, .slice as7 ns7 cs7), (6, .int .i64 i1)]) (fun _ => rfl) ?_ ?_ hm ⟨_, as3, ns3, cs3, xss3, Frz.refl _, hx2.pick [0] (by decide) rfl, hs3, hax8.cut (l := [0, 1, 5, 6, 7, 8]) rfl⟩
  ·clear hm; rintro l5 a wx5 hm ⟨Fx6, as7, ns7, cs7, xss7, hF6, hx7, hs7, hax3⟩
   rw [hkont2] at hm
   replace hm := hm
   refine a2d (e := .exit 2) hax3 ?_
   refine a1j (a2a (a0d (a0a (a0e rfl rfl rfl ?_))))
   refine a0v rfl rfl rfl rfl rfl ?_
   refine a0b rfl rfl rfl (a0c ?_)
   refine a0p (fun a ha => ihx1 ((iadd .i64 i1 1), l5) a _ hm ?_)
   exact ⟨_, as7, ns7, cs7, xss7, (hF1.trans hF6), hx7.pick [0] (by decide) rfl, hs7, ha.cut (l := [0, 1, 5, 6]) rfl⟩
  clear hm hkont2; intro hk2 mx2 K ihx2
  rintro ⟨carry1, k1, l4⟩ a wx6 hm ⟨Fx5, as6, ns6, cs6, xss6, hF5, hx6, hs6, hax4⟩
  simp only [b6f] at hm
  refine a1l hax4 ?_
  refine a0f (a0f (a0a (a0e rfl rfl rfl (a0e rfl rfl rfl ?_))))
  refine a1z hs2.len u22 rfl rfl rfl ?_
  refine a0v rfl rfl rfl rfl rfl ?_
  refine a0e rfl rfl rfl ?_
  obtain ⟨v2, hb2, hm⟩ := bind_some hm
  refine a2k 3 (fun a w' => wx6 = w' ∧ Has 60 a [(0, .slice as1 ns1 cs1), (1, .slice as2 ns2 cs2), (5, .slice as6 ns6 cs6), (6, .int .i64 i1), (7, .int .i64 carry1), (8, .int .i64 k1), (29, .bool v2)]) ?_ ?_
  ·rintro a wx7 ⟨rfl, hax5⟩
   refine a1a hax5 ?_
   refine a0c (a0d ?_)
   rcases a0i hm with ⟨hb3, hm⟩ | ⟨hb3, hm⟩
   ·refine a0u 29 rfl hb3 ?_
    refine a0z rfl (a1b (a0d (a0f (a1i (a0f ?_)))))
    refine a4s (by kernel_rfl) (by kernel_rfl) hx6 ?_
    refine a1h rfl rfl rfl rfl (fun _ _ _ _ => a0e rfl rfl rfl (a0c (qq rfl))) ?_
    refine a1h rfl rfl rfl rfl (fun _ _ _ _ => a0e rfl rfl rfl (a0c (qq rfl))) ?_
    refine a1h rfl rfl rfl rfl (fun _ _ _ _ => a0e rfl rfl rfl (a0c (qq rfl))) ?_
    refine a1h rfl rfl rfl rfl (fun _ _ _ _ => a0v rfl rfl rfl rfl rfl (a0c (qq rfl))) ?_
    obtain ⟨ex1, he1, hm⟩ := bind_some hm
    obtain ⟨b3, o1, cs1, hax6, ho1, hr2, hp1, hrun1⟩ := a7j (P := Tryz.prog) (r := (Rp.int .i64)) u22 sz3 hx6 (p := 0) rfl rfl hs6 he1
    have hc1 : cs1 = [.int .i64 ex1] := hr2
    subst hc1
    refine a4v rfl rfl rfl rfl hrun1 ?_
    refine a1h rfl rfl rfl rfl (fun _ _ _ hq => a6z (j := 0) ag3 rfl rfl hq rfl (p := 0) rfl rfl hax6 ho1 hp1 rfl (a0c (qq rfl))) ?_
    refine a1h rfl rfl rfl rfl (fun _ _ _ _ => a0e rfl rfl rfl (a0c (qq rfl))) ?_
    refine a1h rfl rfl rfl rfl (fun _ _ _ _ => a0e rfl rfl rfl (a0c (qq rfl))) ?_
    obtain ⟨ex2, he2, hm⟩ := bind_some hm
    obtain ⟨b4, o2, cs2, hf1, hr3, hrun2⟩ := a5c (P := Tryz.prog) (r := (Rp.int .i64)) u22 sz3 ((hs1.mono hF1).mono hF5) he2
    have hc2 : cs2 = [.int .i64 ex2] := hr3
    subst hc2
    refine a4v rfl rfl rfl rfl hrun2 ?_
    refine a1h rfl rfl rfl rfl (fun _ _ hleq hq => a2h (j := 0) ag3 rfl rfl hq (hf1.mono hleq) rfl rfl (a0c (qq rfl))) ?_
    refine a1h rfl rfl rfl rfl (fun _ _ _ _ => a0e rfl rfl rfl (a0c (qq rfl))) ?_
    refine a1h rfl rfl rfl rfl (fun _ _ _ _ => a0e rfl rfl rfl (a0c (qq rfl))) ?_
    obtain ⟨v3, hv2, hm⟩ := bind_some hm
    refine b6p ent105 rfl rfl rfl rfl (fun _ _ hleq hq => a4z _ _ _ _ hv2 hq.sat (((hs2.mono hF1).mono hF5).mono hleq)) ?_
    refine a1h rfl rfl rfl rfl (fun _ _ _ _ => a0v rfl rfl rfl rfl rfl (a0c (qq rfl))) ?_
    refine a1h rfl rfl rfl rfl (fun _ _ _ _ => a0v rfl rfl rfl rfl rfl (a0c (qq rfl))) ?_
    refine a1h rfl rfl rfl rfl (fun _ _ _ _ => a0e rfl rfl rfl (a0c (qq rfl))) ?_
    refine a1h rfl rfl rfl rfl (fun _ _ _ _ => a0v rfl rfl rfl rfl rfl (a0c (qq rfl))) ?_
    refine a1h rfl rfl rfl rfl (fun _ _ _ _ => a0b rfl rfl rfl (a0c (qq rfl))) ?_
    refine b3x ?_
    rintro wx8 ⟨Fx7, hF7, hx8⟩
    refine a0d (a0f (a0a (a0e rfl rfl rfl (a0e rfl rfl rfl (a0e rfl rfl rfl ?_)))))
    refine a0v rfl rfl rfl rfl rfl ?_
    refine a0e rfl rfl rfl ?_
    obtain ⟨q1, hq1, hm⟩ := bind_some hm
    refine c3i rfl rfl rfl rfl hq1 ?_
    obtain ⟨ex3, he3, hm⟩ := bind_some hm
    refine a5h (r := (Rp.int .i64)) u22 sz3 rfl rfl hx8 rfl rfl (p := 0) rfl rfl (hs6.mono hF7) he3 ?_
    intro b5 o3 cs3 hax7 ho2 hr4 hp2
    have hc3 : cs3 = [.int .i64 ex3] := hr4
    subst hc3
    obtain ⟨l6, hl2, hm⟩ := bind_some hm
    refine a4r (r := (Rp.int .i64)) sz3 rfl hx8 rfl rfl rfl rfl rfl (p := 0) rfl rfl hax7 ho2 (hs6.mono hF7) rfl rfl hl2 ?_
    intro wx9 xs2 hx9 hr5
    refine a0c (a0d (a0a (a0e rfl rfl rfl ?_)))
    obtain ⟨q2, hq2, hm⟩ := bind_some hm
    refine c2b rfl rfl rfl rfl hq2 ?_
    refine a0b rfl rfl rfl (a0c (a2a (a0d (a0a (a0e rfl rfl rfl ?_)))))
    refine a0v rfl rfl rfl rfl rfl ?_
    refine a0b rfl rfl rfl (a0c ?_)
    refine a0p (fun a ha => ihx2 (q2, (iadd .i64 k1 1), l6) a _ hm ?_)
    exact ⟨_, as6, ns6, cs6, xs2, (hF5.trans hF7), hx9.pick [0] (by decide) rfl, hr5, ha.cut (l := [0, 1, 5, 6, 7, 8]) rfl⟩
   refine a0u 29 rfl hb3 ?_
   refine a0s rfl (a3l (a0q (a0q ?_)))
   refine fun a ha => hk2 l4 a _ hm ?_
   exact ⟨_, as6, ns6, cs6, xss6, hF5, hx6.pick [0] (by decide) rfl, hs6, ha.cut (l := [0, 1, 5, 6]) rfl⟩
  clear hm
  rcases a0i hb2 with ⟨hb4, hb2⟩ | ⟨hb4, hb2⟩
  ·refine a1e 26 rfl hb4 ?_
   refine a0r rfl (by decide) rfl (a0r rfl (by decide) rfl (a0m rfl rfl rfl rfl (a0c ?_)))
   refine a0p (fun a ha => ?_)
   cases hb2
   exact ⟨rfl, ha.cut (l := [0, 1, 5, 6, 7, 8, 29]) rfl⟩
  refine a1e 26 rfl hb4 ?_
  refine a0e rfl rfl rfl ?_
  refine a0v rfl rfl rfl rfl rfl ?_
  refine a0l rfl rfl rfl rfl (a0c ?_)
  refine a0p (fun a ha => ?_)
  cases hb2
  exact ⟨rfl, ha.cut (l := [0, 1, 5, 6, 7, 8, 29]) rfl⟩
 refine a0u 19 rfl hb1 ?_
 refine a0s rfl (a3l (a0q (a0q ?_)))
 refine fun a ha => hk1 l2 a _ hm ?_
 exact ⟨_, as3, ns3, cs3, xss3, hF1, hx2.pick [0] (by decide) rfl, hs3, ha.cut (l := [5]) rfl⟩
theorem ent84 : Ent Tryz.prog 84 := fun _ _ => by kernel_rfl
theorem ent87 : Ent Tryz.prog 87 := fun _ _ => by kernel_rfl
theorem ent86 : Ent Tryz.prog 86 := fun _ _ => by kernel_rfl
def a4b (n : Nat) (b1 : (List Int)) (v2 : (List Int)) (kont2 : Int → Option ((List Int) × (List Int))) : Nat → Int → Int → Option ((List Int) × (List Int))
 | 0, _, _ => none
 | mx2 + 1, lo1, hi1 =>
  bif decide (1 < (isub .i64 hi1 lo1)) then
   (quo .i64 (iadd .i64 lo1 hi1) 2).bind fun q1 =>
   (a2v n b1 [q1]).bind fun v6 =>
   (a5d n v2 v6).bind fun v7 =>
   bif v7 then
    a4b n b1 v2 kont2 mx2 lo1 q1
   else
    a4b n b1 v2 kont2 mx2 q1 hi1
  else
   kont2 lo1
theorem b8q (n : Nat) (b1 : (List Int)) (v2 : (List Int)) (kont2 : Int → Option ((List Int) × (List Int))) (mx2 : Nat) (lo1 : Int) (hi1 : Int) : a4b n b1 v2 kont2 (mx2 + 1) lo1 hi1 =
  bif decide (1 < (isub .i64 hi1 lo1)) then
   (quo .i64 (iadd .i64 lo1 hi1) 2).bind fun q1 =>
   (a2v n b1 [q1]).bind fun v6 =>
   (a5d n v2 v6).bind fun v7 =>
   bif v7 then
    a4b n b1 v2 kont2 mx2 lo1 q1
   else
    a4b n b1 v2 kont2 mx2 q1 hi1
  else
   kont2 lo1 := rfl
def a4a (n : Nat) (ax1 : (List Int)) (b1 : (List Int)) (kont1 : (List Int) → (List Int) → Option ((List Int) × (List Int))) : Nat → (List Int) → Int → (List Int) → Option ((List Int) × (List Int))
 | 0, _, _, _ => none
 | mx1 + 1, rx1, i1, l2 =>
  bif decide (0 ≤ i1) then
   (ix ax1 i1).bind fun ex1 =>
   (app 8 [ex1] rx1).bind fun l4 =>
   (a1o n l4).bind fun v2 =>
   a4b n b1 v2 (fun (lo2 : Int) =>
    (ix l2 i1).bind fun _ =>
    (lset l2 i1 lo2).bind fun l5 =>
    (a1o n [lo2]).bind fun v3 =>
    (a2v n b1 v3).bind fun v4 =>
    (a2w n v2 v4).bind fun v5 =>
    a4a n ax1 b1 kont1 mx1 v5 (isub .i64 i1 1) l5) n 0 1048576
  else
   kont1 rx1 l2
theorem b8c (n : Nat) (ax1 : (List Int)) (b1 : (List Int)) (kont1 : (List Int) → (List Int) → Option ((List Int) × (List Int))) (mx1 : Nat) (rx1 : (List Int)) (i1 : Int) (l2 : List Int) : a4a n ax1 b1 kont1 (mx1 + 1) rx1 i1 l2 =
  bif decide (0 ≤ i1) then
   (ix ax1 i1).bind fun ex1 =>
   (app 8 [ex1] rx1).bind fun l4 =>
   (a1o n l4).bind fun v2 =>
   a4b n b1 v2 (fun (lo2 : Int) =>
    (ix l2 i1).bind fun _ =>
    (lset l2 i1 lo2).bind fun l5 =>
    (a1o n [lo2]).bind fun v3 =>
    (a2v n b1 v3).bind fun v4 =>
    (a2w n v2 v4).bind fun v5 =>
    a4a n ax1 b1 kont1 mx1 v5 (isub .i64 i1 1) l5) n 0 1048576
  else
   kont1 rx1 l2 := rfl
def a7f (n : Nat) (ax1 : (List Int)) (b1 : (List Int)) : Option ((List Int) × (List Int)) :=
 (mks 8 0 (ax1.length : Int)).bind fun l1 =>
 a4a n ax1 b1 (fun (rx2 : (List Int)) (l3 : List Int) =>
  (a1o n l3).bind fun v1 =>
  some (v1, rx2)) n [] (isub .i64 (ax1.length : Int) 1) l1
set_option maxHeartbeats 1000000 in
set_option maxRecDepth 1000000 in
theorem b5a (n : Nat) (ax1 : (List Int)) (b1 : (List Int)) (r : ((List Int) × (List Int))) (hm : a7f n ax1 b1 = some r) {w : World} {F : Frz} (hs : Sat F w) {as1 : Option Addr} {ns1 : Nat} {cs1 : Nat} {as2 : Option Addr} {ns2 : Nat} {cs2 : Nat} (hs1 : SlR (Rp.int .i64) F as1 ns1 cs1 ax1) (hs2 : SlR (Rp.int .i64) F as2 ns2 cs2 b1) :
  Calls Tryz.prog 94 #[.slice as1 ns1 cs1, .slice as2 ns2 cs2] w fun e w' => ∃ v F' O', e = .returned v ∧ HS F w [] F' O' w' ∧ (∃ (a0_0 : Option Addr) (n0_0 : Nat) (c0_0 : Nat) (xs0_0 : List Value) (a1_0 : Option Addr) (n1_0 : Nat) (c1_0 : Nat), v = .tuple #[.slice a0_0 n0_0 c0_0, .slice a1_0 n1_0 c1_0] ∧ O' = [.row 3 1 a0_0 n0_0 c0_0 xs0_0] ∧ RowN (Rp.int .i64) F' n0_0 xs0_0 r.1 ∧ SlR (Rp.int .i64) F' a1_0 n1_0 c1_0 r.2) := by
 unfold a7f at hm
 have h := HS.init hs
 refine a0x 60 Tryz.func94 rfl rfl rfl ?_
 refine a0f (a0a (a0b rfl rfl rfl (a0b rfl rfl rfl (a0c (a0d (a0f (a0a (a0e rfl rfl rfl ?_))))))))
 refine a1z hs1.len u22 rfl rfl rfl ?_
 obtain ⟨l1, hl1, hm⟩ := bind_some hm
 refine b6x (r := (Rp.int .i64)) ap22 zi3 (fun _ => rfl) rfl rfl rfl h rfl rfl hl1 ?_
 intro b2 wx1 xs1 hx1 hr1
 refine a0b rfl rfl rfl (a0c (a0d (a0f (a0a (a0b rfl rfl rfl (a0c (a0d (a0f (a0f (a0a (a0e rfl rfl rfl ?_)))))))))))
 refine a1z hs1.len u22 rfl rfl rfl ?_
 refine a0v rfl rfl rfl rfl rfl ?_
 refine a0b rfl rfl rfl (a0c (a0d (a1i ?_)))
 intro a hax7
 obtain ⟨kont1, hkont1⟩ : ∃ kont1 : (List Int) → (List Int) → Option ((List Int) × (List Int)), kont1 = (fun (rx2 : (List Int)) (l3 : List Int) =>
       (a1o n l3).bind fun v1 =>
       some (v1, rx2)) := ⟨_, rfl⟩
 replace hm : (fun m (s : (List Int) × Int × List Int) => a4a n ax1 b1 kont1 m s.1 s.2.1 s.2.2) n ([], (isub .i64 (ax1.length : Int) 1), l1) = some r := by rw [hkont1]; exact hm
 refine a5u (id := 0) (fun m (s : (List Int) × Int × List Int) => a4a n ax1 b1 kont1 m s.1 s.2.1 s.2.2) (fun (y : (List Int) × List Int) => kont1 y.1 y.2) r (fun (s : (List Int) × Int × List Int) a w' => ∃ (Fx1 : Frz) (as3 : Option Addr) (ns3 : Nat) (cs3 : Nat) (as4 : Option Addr) (ns4 : Nat) (cs4 : Nat) (xss4 : List Value), Frz.le F Fx1 ∧ HS F w [] Fx1 [.row 3 1 as4 ns4 cs4 xss4] w' ∧ (SlR (Rp.int .i64) Fx1 as3 ns3 cs3 s.1) ∧ (RowN (Rp.int .i64) Fx1 ns4 xss4 s.2.2) ∧ Has 60 a [(0, .slice as1 ns1 cs1), (1, .slice as2 ns2 cs2), (6, .slice as4 ns4 cs4), (7, .slice as3 ns3 cs3), (8, .int .i64 s.2.1)]) (fun (y : (List Int) × List Int) a w' => ∃ (Fx2 : Frz) (as5 : Option Addr) (ns5 : Nat) (cs5 : Nat) (as6 : Option Addr) (ns6 : Nat) (cs6 : Nat) (xss6 : List Value), Frz.le F Fx2 ∧ HS F w [] Fx2 [.row 3 1 as6 ns6 cs6 xss6] w' ∧ (SlR (Rp.int .i64) Fx2 as5 ns5 cs5 y.1) ∧ (RowN (Rp.int .i64) Fx2 ns6 xss6 y.2) ∧ Has 60 a [(6, .slice as6 ns6 cs6), (7, .slice as5 ns5 cs5)]) (fun _ => rfl) ?_ ?_ hm ⟨_, none, 0, 0, (some ⟨b2, 0, none⟩), ((ax1.length : Int).toNat), ((ax1.length : Int).toNat), xs1, Frz.refl _, hx1.pick [0] (by decide) rfl, SlR.nil _ _, hr1, hax7.cut (l := [0, 1, 6, 7, 8]) rfl⟩
 ·clear hm; rintro ⟨rx2, l3⟩ a wx2 hm ⟨Fx2, as5, ns5, cs5, as6, ns6, cs6, xss6, hF2, hx3, hs5, hs6, hax1⟩
  rw [hkont1] at hm
  replace hm := hm
  refine a2d (e := .exit 0) hax1 ?_
  refine a1j (a0d (a0f (a0a (a0e rfl rfl rfl ?_))))
  obtain ⟨Fx3, hF3, hx4, hsx1⟩ := a1g hx3 (i := 0) rfl hs6
  obtain ⟨v1, hv1, hm⟩ := bind_some hm
  refine a0g ent92 rfl rfl rfl rfl hx4 (a4c _ _ _ hv1 hx4.sat hsx1) ?_
  rintro _ Fx4 _ wx3 hF4 hx5 ⟨as7, ns7, cs7, xss7, rfl, rfl, hs7⟩
  refine a0e rfl rfl rfl (a0b rfl rfl rfl (a0b rfl rfl rfl (a0c (a0d (a1d ?_)))))
  refine a1k (vl := [.slice as7 ns7 cs7, .slice as5 ns5 cs5]) rfl ⟨a1w rfl, a1w rfl, trivial⟩ (by simp) ?_
  obtain rfl := Option.some.inj hm
  exact ⟨_, _, _, rfl, hx5.pick [0] (by decide) rfl, as7, ns7, cs7, xss7, as5, ns5, cs5, rfl, rfl, hs7, ((hs5.mono hF3).mono hF4)⟩
 clear hm hkont1; intro hk1 mx1 K ihx1
 rintro ⟨rx1, i1, l2⟩ a wx4 hm ⟨Fx1, as3, ns3, cs3, as4, ns4, cs4, xss4, hF1, hx2, hs3, hs4, hax2⟩
 simp only [b8c] at hm
 refine a1l hax2 ?_
 refine a0f (a0f (a0a (a0e rfl rfl rfl ?_)))
 refine a0v rfl rfl rfl rfl rfl ?_
 refine a0c (a0d ?_)
 rcases a0i hm with ⟨hb1, hm⟩ | ⟨hb1, hm⟩
 ·refine a0u 19 rfl hb1 ?_
  refine a0z rfl (a1b (a0d (a0f (a1i (a0f (a0a (a0e rfl rfl rfl (a0e rfl rfl rfl ?_))))))))
  obtain ⟨ex1, he1, hm⟩ := bind_some hm
  refine a3w (r := (Rp.int .i64)) u22 sz3 rfl rfl rfl rfl (hs1.mono hF1) he1 ?_
  intro b3 o1 cs1 hf1 hr2
  have hc1 : cs1 = [.int .i64 ex1] := hr2
  subst hc1
  refine a2h (j := 0) ag3 rfl rfl hx2 hf1 rfl rfl ?_
  refine a1x (e := 3) (cs := [.int .i64 ex1]) (q := 1) rfl rfl hx2 rfl (fun _ => by kernel_rfl) rfl rfl ?_
  intro b4 wx5 hx6
  refine a0e rfl rfl rfl ?_
  obtain ⟨l4, hr3, hm⟩ := bind_some hm
  refine b7d (r := (Rp.int .i64)) ap22 rfl rfl rfl hx6 rfl rfl (i := 0) rfl ((show RowN (Rp.int .i64) Fx1 1 [.int .i64 ex1] [ex1] from ⟨rfl, ⟨_, _, rfl, rfl, (rfl : RowR (Rp.int .i64) _ [] [])⟩⟩)) hs3 hr3 ?_
  intro as8 cs8 wx6 xss8 hx7 hs8
  obtain ⟨Fx5, hF5, hx8, hsx2⟩ := a1g hx7 (i := 0) rfl hs8
  obtain ⟨v2, hv2, hm⟩ := bind_some hm
  refine a0g ent92 rfl rfl rfl rfl hx8 (a4c _ _ _ hv2 hx8.sat hsx2) ?_
  rintro _ Fx6 _ wx7 hF6 hx9 ⟨as9, ns9, cs9, xss9, rfl, rfl, hs9⟩
  refine a0b rfl rfl rfl (a0c (a0d (a0f (a0a (a0b rfl rfl rfl (a0c (a0d (a0f (a0a (a0b rfl rfl rfl (a0c (a0d (a0f (a1i ?_))))))))))))))
  intro a hax6
  obtain ⟨kont2, hkont2⟩ : ∃ kont2 : Int → Option ((List Int) × (List Int)), kont2 = (fun (lo2 : Int) =>
      (ix l2 i1).bind fun ex2 =>
      (lset l2 i1 lo2).bind fun l5 =>
      (a1o n [lo2]).bind fun v3 =>
      (a2v n b1 v3).bind fun v4 =>
      (a2w n v2 v4).bind fun v5 =>
      a4a n ax1 b1 kont1 mx1 v5 (isub .i64 i1 1) l5) := ⟨_, rfl⟩
  replace hm : (fun m (s : Int × Int) => a4b n b1 v2 kont2 m s.1 s.2) n (0, 1048576) = some r := by rw [hkont2]; exact hm
  refine a5u (id := 2) (fun m (s : Int × Int) => a4b n b1 v2 kont2 m s.1 s.2) (fun (y : Int) => kont2 y) r (fun (s : Int × Int) a w' => ∃ (Fx7 : Frz), Frz.le Fx6 Fx7 ∧ HS F w [] Fx7 [.row 3 1 as9 ns9 cs9 xss9, .row 3 1 as4 ns4 cs4 xss4] w' ∧ Has 60 a [(0, .slice as1 ns1 cs1), (1, .slice as2 ns2 cs2), (6, .slice as4 ns4 cs4), (7, .slice as9 ns9 cs9), (8, .int .i64 i1), (9, .int .i64 s.1), (10, .int .i64 s.2)]) (fun (y : Int) a w' => ∃ (Fx8 : Frz), Frz.le Fx6 Fx8 ∧ HS F w [] Fx8 [.row 3 1 as9 ns9 cs9 xss9, .row 3 1 as4 ns4 cs4 xss4] w' ∧ Has 60 a [(0, .slice as1 ns1 cs1), (1, .slice as2 ns2 cs2), (6, .slice as4 ns4 cs4), (7, .slice as9 ns9 cs9), (8, .int .i64 i1), (9, .int .i64 y)]) (fun _ => rfl) ?_ ?_ hm ⟨_, Frz.refl _, hx9.pick [0, 1] (by decide) rfl, hax6.cut (l := [0, 1, 6, 7, 8, 9, 10]) rfl⟩
  ·clear hm; rintro lo2 a wx8 hm ⟨Fx8, hF8, hx11, hax3⟩
   rw [hkont2] at hm
   replace hm := hm
   refine a2d (e := .exit 2) hax3 ?_
   refine a1j (a0d (a0f (a0a (a0e rfl rfl rfl (a0e rfl rfl rfl (a0e rfl rfl rfl ?_))))))
   obtain ⟨ex2, he2, hm⟩ := bind_some hm
   refine a5h (r := (Rp.int .i64)) u22 sz3 rfl rfl hx11 rfl rfl (p := 1) rfl rfl (((hs4.mono hF5).mono hF6).mono hF8) he2 ?_
   intro b5 o2 cs2 hax4 ho1 hr4 hp1
   have hc2 : cs2 = [.int .i64 ex2] := hr4
   subst hc2
   obtain ⟨l5, hl2, hm⟩ := bind_some hm
   refine a4r (r := (Rp.int .i64)) sz3 rfl hx11 rfl rfl rfl rfl rfl (p := 1) rfl rfl hax4 ho1 (((hs4.mono hF5).mono hF6).mono hF8) rfl rfl hl2 ?_
   intro wx9 xs2 hx12 hr5
   refine a0c (a0d (a0a (a0e rfl rfl rfl (a0e rfl rfl rfl (a0e rfl rfl rfl ?_)))))
   refine a1x (e := 3) (cs := [.int .i64 lo2]) (q := 1) rfl rfl hx12 rfl (fun _ => by kernel_rfl) rfl rfl ?_
   intro b6 wx10 hx13
   obtain ⟨Fx9, hF9, hx14, hsx3⟩ := a1g hx13 (i := 0) rfl ((show RowN (Rp.int .i64) Fx8 1 [.int .i64 lo2] [lo2] from ⟨rfl, ⟨_, _, rfl, rfl, (rfl : RowR (Rp.int .i64) _ [] [])⟩⟩))
   obtain ⟨v3, hv3, hm⟩ := bind_some hm
   refine a0g ent92 rfl rfl rfl rfl hx14 (a4c _ _ _ hv3 hx14.sat hsx3) ?_
   rintro _ Fx10 _ wx11 hF10 hx15 ⟨as10, ns10, cs10, xss10, rfl, rfl, hs10⟩
   obtain ⟨Fx11, hF11, hx16, hsx4⟩ := a1g hx15 (i := 0) rfl hs10
   have hG1 := (((((hF1.trans hF5).trans hF6).trans hF8).trans hF9).trans hF10).trans hF11
   obtain ⟨v4, hv4, hm⟩ := bind_some hm
   refine a0g ent84 rfl rfl rfl rfl hx16 (a6i _ _ _ _ hv4 hx16.sat (hs2.mono hG1) hsx4) ?_
   rintro _ Fx12 _ wx12 hF12 hx17 ⟨as11, ns11, cs11, xss11, rfl, rfl, hs11⟩
   obtain ⟨Fx13, hF13, hx18, hsx5⟩ := a1g hx17 (i := 1) rfl (((((hs9.mono hF8).mono hF9).mono hF10).mono hF11).mono hF12)
   obtain ⟨Fx14, hF14, hx19, hsx6⟩ := a1g hx18 (i := 0) rfl (hs11.mono hF13)
   obtain ⟨v5, hv5, hm⟩ := bind_some hm
   refine a0g ent87 rfl rfl rfl rfl hx19 (a8t _ _ _ _ hv5 hx19.sat (hsx5.mono hF14) hsx6) ?_
   rintro _ Fx15 _ wx13 hF15 hx20 ⟨as12, ns12, cs12, xss12, rfl, rfl, hs12⟩
   refine a0b rfl rfl rfl (a0c (a2a (a0d (a0a (a0e rfl rfl rfl ?_)))))
   refine a0v rfl rfl rfl rfl rfl ?_
   refine a0b rfl rfl rfl (a0c ?_)
   obtain ⟨Fx16, hF16, hx21, hsx7⟩ := a1g hx20 (i := 0) rfl hs12
   refine a0p (fun a ha => ihx1 (v5, (isub .i64 i1 1), l5) a _ hm ?_)
   exact ⟨_, as12, ns12, cs12, as4, ns4, cs4, xs2, (((((((((((hF1.trans hF5).trans hF6).trans hF8).trans hF9).trans hF10).trans hF11).trans hF12).trans hF13).trans hF14).trans hF15).trans hF16), hx21.pick [0] (by decide) rfl, hsx7, ((((((((hr5.mono hF9).mono hF10).mono hF11).mono hF12).mono hF13).mono hF14).mono hF15).mono hF16), ha.cut (l := [0, 1, 6, 7, 8]) rfl⟩
  clear hm hkont2; intro hk2 mx2 K ihx2
  rintro ⟨lo1, hi1⟩ a wx14 hm ⟨Fx7, hF7, hx10, hax5⟩
  simp only [b8q] at hm
  refine a1l hax5 ?_
  refine a0f (a0f (a0a (a0e rfl rfl rfl (a0e rfl rfl rfl ?_))))
  refine a0v rfl rfl rfl rfl rfl ?_
  refine a0v rfl rfl rfl rfl rfl ?_
  refine a0c (a0d ?_)
  rcases a0i hm with ⟨hb2, hm⟩ | ⟨hb2, hm⟩
  ·refine a0u 33 rfl hb2 ?_
   refine a0z rfl (a1b (a0d (a1i (a0f (a0a (a0e rfl rfl rfl (a0e rfl rfl rfl ?_)))))))
   refine a0v rfl rfl rfl rfl rfl ?_
   obtain ⟨q1, hq1, hm⟩ := bind_some hm
   refine c2b rfl rfl rfl rfl hq1 ?_
   refine a0b rfl rfl rfl (a0c (a0d (a0f (a0a (a0e rfl rfl rfl (a0e rfl rfl rfl (a0e rfl rfl rfl ?_)))))))
   refine a1x (e := 3) (cs := [.int .i64 q1]) (q := 1) rfl rfl hx10 rfl (fun _ => by kernel_rfl) rfl rfl ?_
   intro b7 wx15 hx22
   obtain ⟨Fx17, hF17, hx23, hsx8⟩ := a1g hx22 (i := 0) rfl ((show RowN (Rp.int .i64) Fx7 1 [.int .i64 q1] [q1] from ⟨rfl, ⟨_, _, rfl, rfl, (rfl : RowR (Rp.int .i64) _ [] [])⟩⟩))
   have hG2 := (((hF1.trans hF5).trans hF6).trans hF7).trans hF17
   obtain ⟨v6, hv6, hm⟩ := bind_some hm
   refine a0g ent84 rfl rfl rfl rfl hx23 (a6i _ _ _ _ hv6 hx23.sat (hs2.mono hG2) hsx8) ?_
   rintro _ Fx18 _ wx16 hF18 hx24 ⟨as13, ns13, cs13, xss13, rfl, rfl, hs13⟩
   obtain ⟨v7, hv7, hm⟩ := bind_some hm
   refine a4e ent86 rfl rfl rfl rfl (b2c _ _ _ _ hv7 (a7l _) (hx24.viewRow (p := 1) rfl rfl (((hs9.mono hF7).mono hF17).mono hF18)) (hx24.viewRow (p := 0) rfl rfl hs13)) ?_
   refine a0c (a0d ?_)
   rcases a0i hm with ⟨hb3, hm⟩ | ⟨hb3, hm⟩
   ·refine a0u 43 rfl hb3 ?_
    refine a0z rfl (a0a (a0e rfl rfl rfl (a0b rfl rfl rfl (a0c (a2a ?_)))))
    refine a0p (fun a ha => ihx2 (lo1, q1) a _ hm ?_)
    exact ⟨_, ((hF7.trans hF17).trans hF18), hx24.pick [1, 2] (by decide) rfl, ha.cut (l := [0, 1, 6, 7, 8, 9, 10]) rfl⟩
   refine a0u 43 rfl hb3 ?_
   refine a0s rfl (a0a (a0e rfl rfl rfl (a0b rfl rfl rfl (a0c (a2a ?_)))))
   refine a0p (fun a ha => ihx2 (q1, hi1) a _ hm ?_)
   exact ⟨_, ((hF7.trans hF17).trans hF18), hx24.pick [1, 2] (by decide) rfl, ha.cut (l := [0, 1, 6, 7, 8, 9, 10]) rfl⟩
  refine a0u 33 rfl hb2 ?_
  refine a0s rfl (a3l (a0q (a0q ?_)))
  refine fun a ha => hk2 lo1 a _ hm ?_
  exact ⟨_, hF7, hx10.pick [0, 1] (by decide) rfl, ha.cut (l := [0, 1, 6, 7, 8, 9]) rfl⟩
 refine a0u 19 rfl hb1 ?_
 refine a0s rfl (a3l (a0q (a0q ?_)))
 refine fun a ha => hk1 (rx1, l2) a _ hm ?_
 exact ⟨_, as3, ns3, cs3, as4, ns4, cs4, xss4, hF1, hx2.pick [0] (by decide) rfl, hs3, hs4, ha.cut (l := [6, 7]) rfl⟩
theorem ent63 : Ent Tryz.prog 63 := fun _ _ => by kernel_rfl
theorem ent96 : Ent Tryz.prog 96 := fun _ _ => by kernel_rfl
def a7c (n : Nat) (ax1 : Big) (b1 : Big) : Option Int :=
 (a2i n ax1).bind fun v1 =>
 (bif !v1 then
  some true
 else
  (a2i n b1).bind fun v6 =>
  some (!v6)).bind fun v2 =>
 (bif v2 then
  some true
 else
  (a9n n ax1 b1).bind fun v5 =>
  some v5).bind fun v3 =>
 bif v3 then
  some 0
 else
  bif ax1.Sign != b1.Sign then
   bif decide (ax1.Sign < b1.Sign) then
    some (-1)
   else
    some 1
  else
   (a5d n ax1.Digits b1.Digits).bind fun v4 =>
   bif v4 == (decide (0 < ax1.Sign)) then
    some (-1)
   else
    some 1
set_option maxHeartbeats 1000000 in
set_option maxRecDepth 1000000 in
theorem b2g (n : Nat) (ax1 : Big) (b1 : Big) (r : Int) (hm : a7c n ax1 b1 = some r) {w : World} {F : Frz} (hs : Sat F w) {as1 : Option Addr} {ns1 : Nat} {cs1 : Nat} {as2 : Option Addr} {ns2 : Nat} {cs2 : Nat} (hs1 : SlR (Rp.int .i64) F as1 ns1 cs1 ax1.Digits) (hs2 : SlR (Rp.int .i64) F as2 ns2 cs2 b1.Digits) :
  Calls Tryz.prog 68 #[.agg #[.int .i64 ax1.Sign, .slice as1 ns1 cs1], .agg #[.int .i64 b1.Sign, .slice as2 ns2 cs2]] w fun e w' => ∃ v F' O', e = .returned v ∧ HS F w [] F' O' w' ∧ (v = .int .i64 r ∧ O' = []) := by
 unfold a7c at hm
 have h := HS.init hs
 refine a0x 37 Tryz.func68 rfl rfl rfl ?_
 refine a0f (a0a ?_)
 refine a2o rfl rfl rfl rfl h ?_
 intro b2 wx1 hx1
 refine a2o rfl rfl rfl rfl hx1 ?_
 intro b3 wx2 hx2
 refine a0b rfl rfl rfl (a0c (a0d (a0f (a0f (a0a ?_)))))
 refine a0k ag24 sz24 rfl rfl hx2 rfl (i := 1) rfl rfl ?_
 obtain ⟨v1, hv1, hm⟩ := bind_some hm
 refine a0g ent63 rfl rfl rfl rfl hx2 (a2l _ _ _ hv1 hx2.sat hs1) ?_
 rintro _ Fx1 _ wx3 hF1 hx3 ⟨rfl, rfl⟩
 refine a2x rfl rfl rfl (a0e rfl rfl rfl ?_)
 obtain ⟨v2, hb1, hm⟩ := bind_some hm
 refine a2k 4 (fun a w' => ∃ (Fx2 : Frz), Frz.le Fx1 Fx2 ∧ HS F w [] Fx2 [.box b3 24 [.int .i64 b1.Sign, .slice as2 ns2 cs2], .box b2 24 [.int .i64 ax1.Sign, .slice as1 ns1 cs1]] w' ∧ Has 37 a [(2, .pointer (some ⟨b2, 0, none⟩)), (3, .pointer (some ⟨b3, 0, none⟩)), (12, .bool v2)]) ?_ ?_
 ·rintro a wx4 ⟨Fx2, hF2, hx4, hax1⟩
  refine a1a hax1 ?_
  refine a0e rfl rfl rfl ?_
  obtain ⟨v3, hb2, hm⟩ := bind_some hm
  refine a2k 4 (fun a w' => ∃ (Fx3 : Frz), Frz.le Fx2 Fx3 ∧ HS F w [] Fx3 [.box b3 24 [.int .i64 b1.Sign, .slice as2 ns2 cs2], .box b2 24 [.int .i64 ax1.Sign, .slice as1 ns1 cs1]] w' ∧ Has 37 a [(2, .pointer (some ⟨b2, 0, none⟩)), (3, .pointer (some ⟨b3, 0, none⟩)), (17, .bool v3)]) ?_ ?_
  ·rintro a wx5 ⟨Fx3, hF3, hx5, hax2⟩
   refine a1a hax2 ?_
   refine a0c (a0d ?_)
   rcases a0i hm with ⟨hb3, hm⟩ | ⟨hb3, hm⟩
   ·refine a0u 17 rfl hb3 ?_
    refine a0z rfl (a0f (a0a (a0b rfl rfl rfl (a0c (a0d (a1d (a0n ?_)))))))
    refine a1p rfl rfl ?_
    obtain rfl := Option.some.inj hm
    exact ⟨_, _, _, rfl, hx5.pick [] (by decide) rfl, rfl, rfl⟩
   refine a0u 17 rfl hb3 ?_
   refine a0s rfl (a1b (a0d (a0f (a0f (a0a ?_)))))
   refine a0h fa24_0 rfl rfl rfl ?_
   refine a0t ag3 rfl rfl hx5 rfl (i := 1) rfl rfl ?_
   refine a0h fa24_0 rfl rfl rfl ?_
   refine a0t ag3 rfl rfl hx5 rfl (i := 0) rfl rfl ?_
   refine a0v rfl rfl rfl rfl rfl ?_
   refine a0c (a0d ?_)
   rcases a0i hm with ⟨hb4, hm⟩ | ⟨hb4, hm⟩
   ·refine a0u 22 rfl hb4 ?_
    refine a0z rfl (a0f (a0f (a0a ?_)))
    refine a0h fa24_0 rfl rfl rfl ?_
    refine a0t ag3 rfl rfl hx5 rfl (i := 1) rfl rfl ?_
    refine a0h fa24_0 rfl rfl rfl ?_
    refine a0t ag3 rfl rfl hx5 rfl (i := 0) rfl rfl ?_
    refine a0v rfl rfl rfl rfl rfl ?_
    refine a0c (a0d ?_)
    rcases a0i hm with ⟨hb5, hm⟩ | ⟨hb5, hm⟩
    ·refine a0u 27 rfl hb5 ?_
     refine a0z rfl (a0f (a0a (a0b rfl rfl rfl (a0c (a0d (a1d (a0n (a0n ?_))))))))
     refine a1p rfl rfl ?_
     obtain rfl := Option.some.inj hm
     exact ⟨_, _, _, rfl, hx5.pick [] (by decide) rfl, rfl, rfl⟩
    refine a0u 27 rfl hb5 ?_
    refine a0s rfl (a1b (a0d (a0f (a0a (a0b rfl rfl rfl (a0c (a0d (a1d (a0n ?_)))))))))
    refine a1p rfl rfl ?_
    obtain rfl := Option.some.inj hm
    exact ⟨_, _, _, rfl, hx5.pick [] (by decide) rfl, rfl, rfl⟩
   refine a0u 22 rfl hb4 ?_
   refine a0s rfl (a1b (a0d (a0f (a0f ?_))))
   refine a4s (by kernel_rfl) (by kernel_rfl) hx5 ?_
   refine a1h rfl rfl rfl rfl (fun _ _ _ _ => a0h fa24_1 rfl rfl rfl (a0c (qq rfl))) ?_
   refine a1h rfl rfl rfl rfl (fun _ _ _ hq => a0t ag22 rfl rfl hq rfl (i := 1) rfl rfl (a0c (qq rfl))) ?_
   refine a1h rfl rfl rfl rfl (fun _ _ _ _ => a0h fa24_1 rfl rfl rfl (a0c (qq rfl))) ?_
   refine a1h rfl rfl rfl rfl (fun _ _ _ hq => a0t ag22 rfl rfl hq rfl (i := 0) rfl rfl (a0c (qq rfl))) ?_
   obtain ⟨v4, hv2, hm⟩ := bind_some hm
   refine b6p ent86 rfl rfl rfl rfl (fun _ _ hleq hq => b2c _ _ _ _ hv2 hq.sat ((((hs1.mono hF1).mono hF2).mono hF3).mono hleq) ((((hs2.mono hF1).mono hF2).mono hF3).mono hleq)) ?_
   refine a1h rfl rfl rfl rfl (fun _ _ _ _ => a0h fa24_0 rfl rfl rfl (a0c (qq rfl))) ?_
   refine a1h rfl rfl rfl rfl (fun _ _ _ hq => a0t ag3 rfl rfl hq rfl (i := 1) rfl rfl (a0c (qq rfl))) ?_
   refine a1h rfl rfl rfl rfl (fun _ _ _ _ => a0v rfl rfl rfl rfl rfl (a0c (qq rfl))) ?_
   refine a1h rfl rfl rfl rfl (fun _ _ _ _ => c9r u4 rfl rfl rfl rfl (a0c (qq rfl))) ?_
   refine b3x ?_
   rintro wx6 ⟨Fx4, hF4, hx6⟩
   refine a0d ?_
   rcases a0i hm with ⟨hb6, hm⟩ | ⟨hb6, hm⟩
   ·refine a0u 36 rfl hb6 ?_
    refine a0z rfl (a0f (a0a (a0b rfl rfl rfl (a0c (a0d (a1d (a0n ?_)))))))
    refine a1p rfl rfl ?_
    obtain rfl := Option.some.inj hm
    exact ⟨_, _, _, rfl, hx6.pick [] (by decide) rfl, rfl, rfl⟩
   refine a0u 36 rfl hb6 ?_
   refine a0s rfl (a1b (a0d (a0f (a0a (a0b rfl rfl rfl (a0c (a0d (a1d ?_))))))))
   refine a1p rfl rfl ?_
   obtain rfl := Option.some.inj hm
   exact ⟨_, _, _, rfl, hx6.pick [] (by decide) rfl, rfl, rfl⟩
  clear hm
  rcases a0i hb2 with ⟨hb7, hb2⟩ | ⟨hb7, hb2⟩
  ·refine a1e 13 rfl hb7 ?_
   refine a0r rfl (by decide) rfl (a0r rfl (by decide) rfl (a0r rfl (by decide) rfl (a0m rfl rfl rfl rfl (a0c ?_))))
   refine a0p (fun a ha => ?_)
   cases hb2
   exact ⟨_, Frz.refl _, hx4.pick [0, 1] (by decide) rfl, ha.cut (l := [2, 3, 17]) rfl⟩
  refine a1e 13 rfl hb7 ?_
  refine a0k ag24 sz24 rfl rfl hx4 rfl (i := 1) rfl rfl ?_
  refine a0k ag24 sz24 rfl rfl hx4 rfl (i := 0) rfl rfl ?_
  obtain ⟨v5, hv3, hb2⟩ := bind_some hb2
  refine a0g ent96 rfl rfl rfl rfl hx4 (c0g _ _ _ _ hv3 hx4.sat ((hs1.mono hF1).mono hF2) ((hs2.mono hF1).mono hF2)) ?_
  rintro _ Fx5 _ wx7 hF5 hx7 ⟨rfl, rfl⟩
  refine a0l rfl rfl rfl rfl (a0c ?_)
  refine a0p (fun a ha => ?_)
  cases hb2
  exact ⟨_, hF5, hx7.pick [0, 1] (by decide) rfl, ha.cut (l := [2, 3, 17]) rfl⟩
 clear hm
 rcases a0i hb1 with ⟨hb8, hb1⟩ | ⟨hb8, hb1⟩
 ·refine a1e 8 rfl hb8 ?_
  refine a0r rfl (by decide) rfl (a0r rfl (by decide) rfl (a0r rfl (by decide) rfl (a0m rfl rfl rfl rfl (a0c ?_))))
  refine a0p (fun a ha => ?_)
  cases hb1
  exact ⟨_, Frz.refl _, hx3.pick [0, 1] (by decide) rfl, ha.cut (l := [2, 3, 12]) rfl⟩
 refine a1e 8 rfl hb8 ?_
 refine a0k ag24 sz24 rfl rfl hx3 rfl (i := 0) rfl rfl ?_
 obtain ⟨v6, hv4, hb1⟩ := bind_some hb1
 refine a0g ent63 rfl rfl rfl rfl hx3 (a2l _ _ _ hv4 hx3.sat (hs2.mono hF1)) ?_
 rintro _ Fx6 _ wx8 hF6 hx8 ⟨rfl, rfl⟩
 refine a2x rfl rfl rfl (a0l rfl rfl rfl rfl (a0c ?_))
 refine a0p (fun a ha => ?_)
 cases hb1
 exact ⟨_, hF6, hx8.pick [0, 1] (by decide) rfl, ha.cut (l := [2, 3, 12]) rfl⟩
def a9a (n : Nat) (ax1 : Big) : Option Big :=
 (a2i n ax1).bind fun v1 =>
 bif !v1 then
  some (⟨0, []⟩ : Big)
 else
  (a1t n (IntKind.i64.wrap (0 - ax1.Sign)) ax1.Digits).bind fun v2 =>
  some v2
set_option maxHeartbeats 1000000 in
set_option maxRecDepth 1000000 in
theorem a8w (n : Nat) (ax1 : Big) (r : Big) (hm : a9a n ax1 = some r) {w : World} {F : Frz} (hs : Sat F w) {as1 : Option Addr} {ns1 : Nat} {cs1 : Nat} (hs1 : SlR (Rp.int .i64) F as1 ns1 cs1 ax1.Digits) :
  Calls Tryz.prog 64 #[.agg #[.int .i64 ax1.Sign, .slice as1 ns1 cs1]] w fun e w' => ∃ v F' O', e = .returned v ∧ HS F w [] F' O' w' ∧ (∃ (a0_1 : Option Addr) (n0_1 : Nat) (c0_1 : Nat), v = .agg #[.int .i64 r.Sign, .slice a0_1 n0_1 c0_1] ∧ O' = [] ∧ SlR (Rp.int .i64) F' a0_1 n0_1 c0_1 r.Digits) := by
 unfold a9a at hm
 have h := HS.init hs
 refine a0x 13 Tryz.func64 rfl rfl rfl ?_
 refine a0f (a0a ?_)
 refine a2o rfl rfl rfl rfl h ?_
 intro b1 wx1 hx1
 refine a0y ze24 rfl rfl rfl hx1 ?_
 intro b2 wx2 hx2
 refine a0c (a0d (a0f (a0f (a0a ?_))))
 refine a0k ag24 sz24 rfl rfl hx2 rfl (i := 1) rfl rfl ?_
 obtain ⟨v1, hv1, hm⟩ := bind_some hm
 refine a0g ent63 rfl rfl rfl rfl hx2 (a2l _ _ _ hv1 hx2.sat hs1) ?_
 rintro _ Fx1 _ wx3 hF1 hx3 ⟨rfl, rfl⟩
 refine a2x rfl rfl rfl (a0c (a0d ?_))
 rcases a0i hm with ⟨hb1, hm⟩ | ⟨hb1, hm⟩
 ·refine a0u 5 rfl hb1 ?_
  refine a0z rfl (a0f (a0a ?_))
  refine a1r (v := .agg #[.int .i64 0, .slice none 0 0]) rfl rfl rfl (fun _ => by kernel_rfl) ?_
  refine a0o sz24 rfl hx3 rfl rfl rfl rfl (i := 0) rfl rfl rfl rfl ?_
  intro wx4 hx4
  refine a0c (a0d (a1d (a0n ?_)))
  refine a6l rfl ag24 sz24 rfl hx4 rfl (i := 0) rfl ?_
  obtain rfl := Option.some.inj hm
  exact ⟨_, _, _, rfl, hx4.pick [] (by decide) rfl, none, 0, 0, rfl, rfl, SlR.nil _ _⟩
 refine a0u 5 rfl hb1 ?_
 refine a0s rfl (a1b (a0d (a0f (a0a ?_))))
 refine a0h fa24_0 rfl rfl rfl ?_
 refine a0t ag3 rfl rfl hx3 rfl (i := 1) rfl rfl ?_
 refine c3w rfl rfl rfl ?_
 refine a0h fa24_1 rfl rfl rfl ?_
 refine a0t ag22 rfl rfl hx3 rfl (i := 1) rfl rfl ?_
 obtain ⟨v2, hv2, hm⟩ := bind_some hm
 refine a0g ent83 rfl rfl rfl rfl hx3 (a3n _ _ _ _ hv2 hx3.sat (hs1.mono hF1)) ?_
 rintro _ Fx2 _ wx5 hF2 hx5 ⟨as2, ns2, cs2, rfl, rfl, hs2⟩
 refine a0o sz24 rfl hx5 rfl rfl rfl rfl (i := 0) rfl rfl rfl rfl ?_
 intro wx6 hx6
 refine a0c (a0d (a1d ?_))
 refine a6l rfl ag24 sz24 rfl hx6 rfl (i := 0) rfl ?_
 obtain rfl := Option.some.inj hm
 exact ⟨_, _, _, rfl, hx6.pick [] (by decide) rfl, as2, ns2, cs2, rfl, rfl, hs2⟩
theorem ent85 : Ent Tryz.prog 85 := fun _ _ => by kernel_rfl
def b1l (n : Nat) (ax1 : Big) (b1 : Big) : Option (Big × Int) :=
 (a2i n ax1).bind fun v1 =>
 (bif !v1 then
  some true
 else
  (a2i n b1).bind fun v12 =>
  some (!v12)).bind fun v2 =>
 bif v2 then
  some ((⟨0, []⟩ : Big), 1)
 else
  (bif ax1.Sign == 0 then
   some true
  else
   some (b1.Sign == 0)).bind fun v3 =>
  (bif v3 then
   some true
  else
   some (ax1.Sign == b1.Sign)).bind fun v4 =>
  bif v4 then
   (a4m n ax1.Digits b1.Digits).bind fun v5 =>
   (a1t n (ior .i64 ax1.Sign b1.Sign) v5).bind fun v6 =>
   some (v6, 0)
  else
   (a5d n ax1.Digits b1.Digits).bind fun v7 =>
   bif v7 then
    (a2w n b1.Digits ax1.Digits).bind fun v8 =>
    (a1t n b1.Sign v8).bind fun v9 =>
    some (v9, 0)
   else
    (a2w n ax1.Digits b1.Digits).bind fun v10 =>
    (a1t n ax1.Sign v10).bind fun v11 =>
    some (v11, 0)
set_option maxHeartbeats 1000000 in
set_option maxRecDepth 1000000 in
theorem b0s (n : Nat) (ax1 : Big) (b1 : Big) (r : (Big × Int)) (hm : b1l n ax1 b1 = some r) {w : World} {F : Frz} (hs : Sat F w) {as1 : Option Addr} {ns1 : Nat} {cs1 : Nat} {as2 : Option Addr} {ns2 : Nat} {cs2 : Nat} (hs1 : SlR (Rp.int .i64) F as1 ns1 cs1 ax1.Digits) (hs2 : SlR (Rp.int .i64) F as2 ns2 cs2 b1.Digits) :
  Calls Tryz.prog 54 #[.agg #[.int .i64 ax1.Sign, .slice as1 ns1 cs1], .agg #[.int .i64 b1.Sign, .slice as2 ns2 cs2]] w fun e w' => ∃ v F' O', e = .returned v ∧ HS F w [] F' O' w' ∧ (∃ (a0_1 : Option Addr) (n0_1 : Nat) (c0_1 : Nat), v = .tuple #[.agg #[.int .i64 r.1.Sign, .slice a0_1 n0_1 c0_1], .int .i64 r.2] ∧ O' = [] ∧ SlR (Rp.int .i64) F' a0_1 n0_1 c0_1 r.1.Digits) := by
 unfold b1l at hm
 have h := HS.init hs
 refine a0x 62 Tryz.func54 rfl rfl rfl ?_
 refine a0f (a0a ?_)
 refine a2o rfl rfl rfl rfl h ?_
 intro b2 wx1 hx1
 refine a2o rfl rfl rfl rfl hx1 ?_
 intro b3 wx2 hx2
 refine a0y ze24 rfl rfl rfl hx2 ?_
 intro b4 wx3 hx3
 refine a0b rfl rfl rfl (a0c (a0d (a0f (a0f (a0a ?_)))))
 refine a0k ag24 sz24 rfl rfl hx3 rfl (i := 2) rfl rfl ?_
 obtain ⟨v1, hv1, hm⟩ := bind_some hm
 refine a0g ent63 rfl rfl rfl rfl hx3 (a2l _ _ _ hv1 hx3.sat hs1) ?_
 rintro _ Fx1 _ wx4 hF1 hx4 ⟨rfl, rfl⟩
 refine a2x rfl rfl rfl (a0e rfl rfl rfl ?_)
 obtain ⟨v2, hb1, hm⟩ := bind_some hm
 refine a2k 4 (fun a w' => ∃ (Fx2 : Frz), Frz.le Fx1 Fx2 ∧ HS F w [] Fx2 [.box b4 24 [.int .i64 0, .slice none 0 0], .box b3 24 [.int .i64 b1.Sign, .slice as2 ns2 cs2], .box b2 24 [.int .i64 ax1.Sign, .slice as1 ns1 cs1]] w' ∧ Has 62 a [(2, .pointer (some ⟨b2, 0, none⟩)), (3, .pointer (some ⟨b3, 0, none⟩)), (4, .pointer (some ⟨b4, 0, none⟩)), (13, .bool v2)]) ?_ ?_
 ·rintro a wx5 ⟨Fx2, hF2, hx5, hax1⟩
  refine a1a hax1 ?_
  refine a0c (a0d ?_)
  rcases a0i hm with ⟨hb2, hm⟩ | ⟨hb2, hm⟩
  ·refine a0u 13 rfl hb2 ?_
   refine a0z rfl (a0f (a0a ?_))
   refine a1r (v := .agg #[.int .i64 0, .slice none 0 0]) rfl rfl rfl (fun _ => by kernel_rfl) ?_
   refine a0o sz24 rfl hx5 rfl rfl rfl rfl (i := 0) rfl rfl rfl rfl ?_
   intro wx6 hx6
   refine a0b rfl rfl rfl (a0c (a0d (a1d (a0n ?_))))
   refine a1k (vl := [.agg #[.int .i64 0, .slice none 0 0], .int .i64 1]) rfl ⟨a1q ag24 sz24 rfl hx6 rfl (i := 0) rfl, a1w rfl, trivial⟩ (by simp) ?_
   obtain rfl := Option.some.inj hm
   exact ⟨_, _, _, rfl, hx6.pick [] (by decide) rfl, none, 0, 0, rfl, rfl, SlR.nil _ _⟩
  refine a0u 13 rfl hb2 ?_
  refine a0s rfl (a1b (a0d (a0f (a0f (a0a ?_)))))
  refine a0h fa24_0 rfl rfl rfl ?_
  refine a0t ag3 rfl rfl hx5 rfl (i := 2) rfl rfl ?_
  refine a0v rfl rfl rfl rfl rfl ?_
  refine a0e rfl rfl rfl ?_
  obtain ⟨v3, hb3, hm⟩ := bind_some hm
  refine a2k 4 (fun a w' => wx5 = w' ∧ Has 62 a [(2, .pointer (some ⟨b2, 0, none⟩)), (3, .pointer (some ⟨b3, 0, none⟩)), (4, .pointer (some ⟨b4, 0, none⟩)), (22, .bool v3)]) ?_ ?_
  ·rintro a wx7 ⟨rfl, hax2⟩
   refine a1a hax2 ?_
   refine a0e rfl rfl rfl ?_
   obtain ⟨v4, hb4, hm⟩ := bind_some hm
   refine a2k 6 (fun a w' => wx5 = w' ∧ Has 62 a [(2, .pointer (some ⟨b2, 0, none⟩)), (3, .pointer (some ⟨b3, 0, none⟩)), (4, .pointer (some ⟨b4, 0, none⟩)), (29, .bool v4)]) ?_ ?_
   ·rintro a wx8 ⟨rfl, hax3⟩
    refine a1a hax3 ?_
    refine a0c (a0d ?_)
    rcases a0i hm with ⟨hb5, hm⟩ | ⟨hb5, hm⟩
    ·refine a0u 29 rfl hb5 ?_
     refine a0z rfl (a0f ?_)
     refine a2m (SH Fx2 [.box b3 24 [.int .i64 b1.Sign, .slice as2 ns2 cs2], .box b2 24 [.int .i64 ax1.Sign, .slice as1 ns1 cs1]]) 13 rfl (by kernel_rfl) hx5 ?_
     intro wx9 hx7
     refine d_tk 0 rfl (by kernel_rfl) rfl rfl rfl rfl (hx7.sh (Frz.refl _) [1, 2] (by decide) rfl) (fun _ _ _ _ _ => a0h fa24_0 rfl rfl rfl (a0c (qq rfl))) ?_
     refine d_tk 1 rfl (by kernel_rfl) rfl rfl rfl rfl (hx7.sh (Frz.refl _) [1, 2] (by decide) rfl) (fun _ _ _ _ hq => a0t ag3 rfl rfl hq rfl (i := 1) rfl rfl (a0c (qq rfl))) ?_
     refine d_tk 2 rfl (by kernel_rfl) rfl rfl rfl rfl (hx7.sh (Frz.refl _) [1, 2] (by decide) rfl) (fun _ _ _ _ _ => a0h fa24_0 rfl rfl rfl (a0c (qq rfl))) ?_
     refine d_tk 3 rfl (by kernel_rfl) rfl rfl rfl rfl (hx7.sh (Frz.refl _) [1, 2] (by decide) rfl) (fun _ _ _ _ hq => a0t ag3 rfl rfl hq rfl (i := 0) rfl rfl (a0c (qq rfl))) ?_
     refine d_tk 4 rfl (by kernel_rfl) rfl rfl rfl rfl (hx7.sh (Frz.refl _) [1, 2] (by decide) rfl) (fun _ _ _ _ _ => a0v rfl rfl rfl rfl rfl (a0c (qq rfl))) ?_
     refine d_tk 5 rfl (by kernel_rfl) rfl rfl rfl rfl (hx7.sh (Frz.refl _) [1, 2] (by decide) rfl) (fun _ _ _ _ _ => a0h fa24_1 rfl rfl rfl (a0c (qq rfl))) ?_
     refine d_tk 6 rfl (by kernel_rfl) rfl rfl rfl rfl (hx7.sh (Frz.refl _) [1, 2] (by decide) rfl) (fun _ _ _ _ hq => a0t ag22 rfl rfl hq rfl (i := 1) rfl rfl (a0c (qq rfl))) ?_
     refine d_tk 7 rfl (by kernel_rfl) rfl rfl rfl rfl (hx7.sh (Frz.refl _) [1, 2] (by decide) rfl) (fun _ _ _ _ _ => a0h fa24_1 rfl rfl rfl (a0c (qq rfl))) ?_
     refine d_tk 8 rfl (by kernel_rfl) rfl rfl rfl rfl (hx7.sh (Frz.refl _) [1, 2] (by decide) rfl) (fun _ _ _ _ hq => a0t ag22 rfl rfl hq rfl (i := 0) rfl rfl (a0c (qq rfl))) ?_
     refine a1c 9 rfl (by kernel_rfl) ?_
     obtain ⟨v5, hv2, hm⟩ := bind_some hm
     refine a0g ent85 rfl rfl rfl rfl hx7 (a8c _ _ _ _ hv2 hx7.sat ((hs1.mono hF1).mono hF2) ((hs2.mono hF1).mono hF2)) ?_
     rintro _ Fx3 _ wx10 hF3 hx8 ⟨as3, ns3, cs3, xss3, rfl, rfl, hs3⟩
     refine a0w (hx8.sh hF3 [2, 3] (by decide) rfl) ?_
     refine a1c 10 rfl (by kernel_rfl) ?_
     obtain ⟨Fx4, hF4, hx9, hsx1⟩ := a1g hx8 (i := 0) rfl hs3
     obtain ⟨v6, hv3, hm⟩ := bind_some hm
     refine a0g ent83 rfl rfl rfl rfl hx9 (a3n _ _ _ _ hv3 hx9.sat hsx1) ?_
     rintro _ Fx5 _ wx11 hF5 hx10 ⟨as4, ns4, cs4, rfl, rfl, hs4⟩
     refine a0w (hx10.sh ((hF3.trans hF4).trans hF5) [1, 2] (by decide) rfl) ?_
     refine a1c 11 rfl (by kernel_rfl) ?_
     refine a0o sz24 rfl hx10 rfl rfl rfl rfl (i := 0) rfl rfl rfl rfl ?_
     intro wx12 hx11
     refine a0w (hx11.sh ((hF3.trans hF4).trans hF5) [1, 2] (by decide) rfl) ?_
     refine d_tk 12 rfl (by kernel_rfl) rfl rfl rfl rfl (hx11.sh ((hF3.trans hF4).trans hF5) [1, 2] (by decide) rfl) (fun _ _ _ _ _ => a0b rfl rfl rfl (a0c (qq rfl))) ?_
     refine a3v (by kernel_rfl) ?_
     refine a0d (a1d (a0n ?_))
     refine a1k (vl := [.agg #[.int .i64 v6.Sign, .slice as4 ns4 cs4], .int .i64 0]) rfl ⟨a1q ag24 sz24 rfl hx11 rfl (i := 0) rfl, a1w rfl, trivial⟩ (by simp) ?_
     obtain rfl := Option.some.inj hm
     exact ⟨_, _, _, rfl, hx11.pick [] (by decide) rfl, as4, ns4, cs4, rfl, rfl, hs4⟩
    refine a0u 29 rfl hb5 ?_
    refine a0s rfl (a1b (a0d (a0f (a0f (a0a ?_)))))
    refine a0h fa24_1 rfl rfl rfl ?_
    refine a0t ag22 rfl rfl hx5 rfl (i := 2) rfl rfl ?_
    refine a0h fa24_1 rfl rfl rfl ?_
    refine a0t ag22 rfl rfl hx5 rfl (i := 1) rfl rfl ?_
    obtain ⟨v7, hv4, hm⟩ := bind_some hm
    refine a4e ent86 rfl rfl rfl rfl (b2c _ _ _ _ hv4 hx5.sat ((hs1.mono hF1).mono hF2) ((hs2.mono hF1).mono hF2)) ?_
    refine a0c (a0d ?_)
    rcases a0i hm with ⟨hb6, hm⟩ | ⟨hb6, hm⟩
    ·refine a0u 45 rfl hb6 ?_
     refine a0z rfl (a0f ?_)
     refine a2m (SH Fx2 [.box b3 24 [.int .i64 b1.Sign, .slice as2 ns2 cs2], .box b2 24 [.int .i64 ax1.Sign, .slice as1 ns1 cs1]]) 10 rfl (by kernel_rfl) hx5 ?_
     intro wx13 hx12
     refine d_tk 0 rfl (by kernel_rfl) rfl rfl rfl rfl (hx12.sh (Frz.refl _) [1, 2] (by decide) rfl) (fun _ _ _ _ _ => a0h fa24_0 rfl rfl rfl (a0c (qq rfl))) ?_
     refine d_tk 1 rfl (by kernel_rfl) rfl rfl rfl rfl (hx12.sh (Frz.refl _) [1, 2] (by decide) rfl) (fun _ _ _ _ hq => a0t ag3 rfl rfl hq rfl (i := 0) rfl rfl (a0c (qq rfl))) ?_
     refine d_tk 2 rfl (by kernel_rfl) rfl rfl rfl rfl (hx12.sh (Frz.refl _) [1, 2] (by decide) rfl) (fun _ _ _ _ _ => a0h fa24_1 rfl rfl rfl (a0c (qq rfl))) ?_
     refine d_tk 3 rfl (by kernel_rfl) rfl rfl rfl rfl (hx12.sh (Frz.refl _) [1, 2] (by decide) rfl) (fun _ _ _ _ hq => a0t ag22 rfl rfl hq rfl (i := 0) rfl rfl (a0c (qq rfl))) ?_
     refine d_tk 4 rfl (by kernel_rfl) rfl rfl rfl rfl (hx12.sh (Frz.refl _) [1, 2] (by decide) rfl) (fun _ _ _ _ _ => a0h fa24_1 rfl rfl rfl (a0c (qq rfl))) ?_
     refine d_tk 5 rfl (by kernel_rfl) rfl rfl rfl rfl (hx12.sh (Frz.refl _) [1, 2] (by decide) rfl) (fun _ _ _ _ hq => a0t ag22 rfl rfl hq rfl (i := 1) rfl rfl (a0c (qq rfl))) ?_
     refine a1c 6 rfl (by kernel_rfl) ?_
     obtain ⟨v8, hv5, hm⟩ := bind_some hm
     refine a0g ent87 rfl rfl rfl rfl hx12 (a8t _ _ _ _ hv5 hx12.sat ((hs2.mono hF1).mono hF2) ((hs1.mono hF1).mono hF2)) ?_
     rintro _ Fx6 _ wx14 hF6 hx13 ⟨as5, ns5, cs5, xss5, rfl, rfl, hs5⟩
     refine a0w (hx13.sh hF6 [2, 3] (by decide) rfl) ?_
     refine a1c 7 rfl (by kernel_rfl) ?_
     obtain ⟨Fx7, hF7, hx14, hsx2⟩ := a1g hx13 (i := 0) rfl hs5
     obtain ⟨v9, hv6, hm⟩ := bind_some hm
     refine a0g ent83 rfl rfl rfl rfl hx14 (a3n _ _ _ _ hv6 hx14.sat hsx2) ?_
     rintro _ Fx8 _ wx15 hF8 hx15 ⟨as6, ns6, cs6, rfl, rfl, hs6⟩
     refine a0w (hx15.sh ((hF6.trans hF7).trans hF8) [1, 2] (by decide) rfl) ?_
     refine a1c 8 rfl (by kernel_rfl) ?_
     refine a0o sz24 rfl hx15 rfl rfl rfl rfl (i := 0) rfl rfl rfl rfl ?_
     intro wx16 hx16
     refine a0w (hx16.sh ((hF6.trans hF7).trans hF8) [1, 2] (by decide) rfl) ?_
     refine d_tk 9 rfl (by kernel_rfl) rfl rfl rfl rfl (hx16.sh ((hF6.trans hF7).trans hF8) [1, 2] (by decide) rfl) (fun _ _ _ _ _ => a0b rfl rfl rfl (a0c (qq rfl))) ?_
     refine a3v (by kernel_rfl) ?_
     refine a0d (a1d (a0n ?_))
     refine a1k (vl := [.agg #[.int .i64 v9.Sign, .slice as6 ns6 cs6], .int .i64 0]) rfl ⟨a1q ag24 sz24 rfl hx16 rfl (i := 0) rfl, a1w rfl, trivial⟩ (by simp) ?_
     obtain rfl := Option.some.inj hm
     exact ⟨_, _, _, rfl, hx16.pick [] (by decide) rfl, as6, ns6, cs6, rfl, rfl, hs6⟩
    refine a0u 45 rfl hb6 ?_
    refine a0s rfl (a1b (a0d (a0f ?_)))
    refine a2m (SH Fx2 [.box b3 24 [.int .i64 b1.Sign, .slice as2 ns2 cs2], .box b2 24 [.int .i64 ax1.Sign, .slice as1 ns1 cs1]]) 10 rfl (by kernel_rfl) hx5 ?_
    intro wx17 hx17
    refine d_tk 0 rfl (by kernel_rfl) rfl rfl rfl rfl (hx17.sh (Frz.refl _) [1, 2] (by decide) rfl) (fun _ _ _ _ _ => a0h fa24_0 rfl rfl rfl (a0c (qq rfl))) ?_
    refine d_tk 1 rfl (by kernel_rfl) rfl rfl rfl rfl (hx17.sh (Frz.refl _) [1, 2] (by decide) rfl) (fun _ _ _ _ hq => a0t ag3 rfl rfl hq rfl (i := 1) rfl rfl (a0c (qq rfl))) ?_
    refine d_tk 2 rfl (by kernel_rfl) rfl rfl rfl rfl (hx17.sh (Frz.refl _) [1, 2] (by decide) rfl) (fun _ _ _ _ _ => a0h fa24_1 rfl rfl rfl (a0c (qq rfl))) ?_
    refine d_tk 3 rfl (by kernel_rfl) rfl rfl rfl rfl (hx17.sh (Frz.refl _) [1, 2] (by decide) rfl) (fun _ _ _ _ hq => a0t ag22 rfl rfl hq rfl (i := 1) rfl rfl (a0c (qq rfl))) ?_
    refine d_tk 4 rfl (by kernel_rfl) rfl rfl rfl rfl (hx17.sh (Frz.refl _) [1, 2] (by decide) rfl) (fun _ _ _ _ _ => a0h fa24_1 rfl rfl rfl (a0c (qq rfl))) ?_
    refine d_tk 5 rfl (by kernel_rfl) rfl rfl rfl rfl (hx17.sh (Frz.refl _) [1, 2] (by decide) rfl) (fun _ _ _ _ hq => a0t ag22 rfl rfl hq rfl (i := 0) rfl rfl (a0c (qq rfl))) ?_
    refine a1c 6 rfl (by kernel_rfl) ?_
    obtain ⟨v10, hv7, hm⟩ := bind_some hm
    refine a0g ent87 rfl rfl rfl rfl hx17 (a8t _ _ _ _ hv7 hx17.sat ((hs1.mono hF1).mono hF2) ((hs2.mono hF1).mono hF2)) ?_
    rintro _ Fx9 _ wx18 hF9 hx18 ⟨as7, ns7, cs7, xss7, rfl, rfl, hs7⟩
    refine a0w (hx18.sh hF9 [2, 3] (by decide) rfl) ?_
    refine a1c 7 rfl (by kernel_rfl) ?_
    obtain ⟨Fx10, hF10, hx19, hsx3⟩ := a1g hx18 (i := 0) rfl hs7
    obtain ⟨v11, hv8, hm⟩ := bind_some hm
    refine a0g ent83 rfl rfl rfl rfl hx19 (a3n _ _ _ _ hv8 hx19.sat hsx3) ?_
    rintro _ Fx11 _ wx19 hF11 hx20 ⟨as8, ns8, cs8, rfl, rfl, hs8⟩
    refine a0w (hx20.sh ((hF9.trans hF10).trans hF11) [1, 2] (by decide) rfl) ?_
    refine a1c 8 rfl (by kernel_rfl) ?_
    refine a0o sz24 rfl hx20 rfl rfl rfl rfl (i := 0) rfl rfl rfl rfl ?_
    intro wx20 hx21
    refine a0w (hx21.sh ((hF9.trans hF10).trans hF11) [1, 2] (by decide) rfl) ?_
    refine d_tk 9 rfl (by kernel_rfl) rfl rfl rfl rfl (hx21.sh ((hF9.trans hF10).trans hF11) [1, 2] (by decide) rfl) (fun _ _ _ _ _ => a0b rfl rfl rfl (a0c (qq rfl))) ?_
    refine a3v (by kernel_rfl) ?_
    refine a0d (a1d ?_)
    refine a1k (vl := [.agg #[.int .i64 v11.Sign, .slice as8 ns8 cs8], .int .i64 0]) rfl ⟨a1q ag24 sz24 rfl hx21 rfl (i := 0) rfl, a1w rfl, trivial⟩ (by simp) ?_
    obtain rfl := Option.some.inj hm
    exact ⟨_, _, _, rfl, hx21.pick [] (by decide) rfl, as8, ns8, cs8, rfl, rfl, hs8⟩
   clear hm
   rcases a0i hb4 with ⟨hb7, hb4⟩ | ⟨hb7, hb4⟩
   ·refine a1e 23 rfl hb7 ?_
    refine a0r rfl (by decide) rfl (a0r rfl (by decide) rfl (a0r rfl (by decide) rfl (a0r rfl (by decide) rfl (a0r rfl (by decide) rfl (a0m rfl rfl rfl rfl (a0c ?_))))))
    refine a0p (fun a ha => ?_)
    cases hb4
    exact ⟨rfl, ha.cut (l := [2, 3, 4, 29]) rfl⟩
   refine a1e 23 rfl hb7 ?_
   refine a0h fa24_0 rfl rfl rfl ?_
   refine a0t ag3 rfl rfl hx5 rfl (i := 2) rfl rfl ?_
   refine a0h fa24_0 rfl rfl rfl ?_
   refine a0t ag3 rfl rfl hx5 rfl (i := 1) rfl rfl ?_
   refine a0v rfl rfl rfl rfl rfl ?_
   refine a0l rfl rfl rfl rfl (a0c ?_)
   refine a0p (fun a ha => ?_)
   cases hb4
   exact ⟨rfl, ha.cut (l := [2, 3, 4, 29]) rfl⟩
  clear hm
  rcases a0i hb3 with ⟨hb8, hb3⟩ | ⟨hb8, hb3⟩
  ·refine a1e 18 rfl hb8 ?_
   refine a0r rfl (by decide) rfl (a0r rfl (by decide) rfl (a0r rfl (by decide) rfl (a0m rfl rfl rfl rfl (a0c ?_))))
   refine a0p (fun a ha => ?_)
   cases hb3
   exact ⟨rfl, ha.cut (l := [2, 3, 4, 22]) rfl⟩
  refine a1e 18 rfl hb8 ?_
  refine a0h fa24_0 rfl rfl rfl ?_
  refine a0t ag3 rfl rfl hx5 rfl (i := 1) rfl rfl ?_
  refine a0v rfl rfl rfl rfl rfl ?_
  refine a0l rfl rfl rfl rfl (a0c ?_)
  refine a0p (fun a ha => ?_)
  cases hb3
  exact ⟨rfl, ha.cut (l := [2, 3, 4, 22]) rfl⟩
 clear hm
 rcases a0i hb1 with ⟨hb9, hb1⟩ | ⟨hb9, hb1⟩
 ·refine a1e 9 rfl hb9 ?_
  refine a0r rfl (by decide) rfl (a0r rfl (by decide) rfl (a0r rfl (by decide) rfl (a0m rfl rfl rfl rfl (a0c ?_))))
  refine a0p (fun a ha => ?_)
  cases hb1
  exact ⟨_, Frz.refl _, hx4.pick [0, 1, 2] (by decide) rfl, ha.cut (l := [2, 3, 4, 13]) rfl⟩
 refine a1e 9 rfl hb9 ?_
 refine a0k ag24 sz24 rfl rfl hx4 rfl (i := 1) rfl rfl ?_
 obtain ⟨v12, hv9, hb1⟩ := bind_some hb1
 refine a0g ent63 rfl rfl rfl rfl hx4 (a2l _ _ _ hv9 hx4.sat (hs2.mono hF1)) ?_
 rintro _ Fx12 _ wx21 hF12 hx22 ⟨rfl, rfl⟩
 refine a2x rfl rfl rfl (a0l rfl rfl rfl rfl (a0c ?_))
 refine a0p (fun a ha => ?_)
 cases hb1
 exact ⟨_, hF12, hx22.pick [0, 1, 2] (by decide) rfl, ha.cut (l := [2, 3, 4, 13]) rfl⟩
theorem ent64 : Ent Tryz.prog 64 := fun _ _ => by kernel_rfl
theorem ent54 : Ent Tryz.prog 54 := fun _ _ => by kernel_rfl
def b2x (n : Nat) (ax1 : Big) (b1 : Big) : Option (Big × Int) :=
 (a2i n b1).bind fun v1 =>
 bif !v1 then
  some ((⟨0, []⟩ : Big), 1)
 else
  ((a9a n b1).bind fun v2 =>
  (b1l n ax1 v2).bind fun v3 =>
  some (v3.1.Sign, v3.1.Digits, v3.2)).bind fun (f1, f2, ex1) =>
  some ((⟨f1, f2⟩ : Big), ex1)
set_option maxHeartbeats 1000000 in
set_option maxRecDepth 1000000 in
theorem c0w (n : Nat) (ax1 : Big) (b1 : Big) (r : (Big × Int)) (hm : b2x n ax1 b1 = some r) {w : World} {F : Frz} (hs : Sat F w) {as1 : Option Addr} {ns1 : Nat} {cs1 : Nat} {as2 : Option Addr} {ns2 : Nat} {cs2 : Nat} (hs1 : SlR (Rp.int .i64) F as1 ns1 cs1 ax1.Digits) (hs2 : SlR (Rp.int .i64) F as2 ns2 cs2 b1.Digits) :
  Calls Tryz.prog 55 #[.agg #[.int .i64 ax1.Sign, .slice as1 ns1 cs1], .agg #[.int .i64 b1.Sign, .slice as2 ns2 cs2]] w fun e w' => ∃ v F' O', e = .returned v ∧ HS F w [] F' O' w' ∧ (∃ (a0_1 : Option Addr) (n0_1 : Nat) (c0_1 : Nat), v = .tuple #[.agg #[.int .i64 r.1.Sign, .slice a0_1 n0_1 c0_1], .int .i64 r.2] ∧ O' = [] ∧ SlR (Rp.int .i64) F' a0_1 n0_1 c0_1 r.1.Digits) := by
 unfold b2x at hm
 have h := HS.init hs
 refine a0x 21 Tryz.func55 rfl rfl rfl ?_
 refine a0f (a0a ?_)
 refine a2o rfl rfl rfl rfl h ?_
 intro b2 wx1 hx1
 refine a2o rfl rfl rfl rfl hx1 ?_
 intro b3 wx2 hx2
 refine a0y ze24 rfl rfl rfl hx2 ?_
 intro b4 wx3 hx3
 refine a0b rfl rfl rfl (a0c (a0d (a0f (a0f (a0a ?_)))))
 refine a0k ag24 sz24 rfl rfl hx3 rfl (i := 1) rfl rfl ?_
 obtain ⟨v1, hv1, hm⟩ := bind_some hm
 refine a0g ent63 rfl rfl rfl rfl hx3 (a2l _ _ _ hv1 hx3.sat hs2) ?_
 rintro _ Fx1 _ wx4 hF1 hx4 ⟨rfl, rfl⟩
 refine a2x rfl rfl rfl (a0c (a0d ?_))
 rcases a0i hm with ⟨hb1, hm⟩ | ⟨hb1, hm⟩
 ·refine a0u 10 rfl hb1 ?_
  refine a0z rfl (a0f (a0a ?_))
  refine a1r (v := .agg #[.int .i64 0, .slice none 0 0]) rfl rfl rfl (fun _ => by kernel_rfl) ?_
  refine a0o sz24 rfl hx4 rfl rfl rfl rfl (i := 0) rfl rfl rfl rfl ?_
  intro wx5 hx5
  refine a0b rfl rfl rfl (a0c (a0d (a1d (a0n ?_))))
  refine a1k (vl := [.agg #[.int .i64 0, .slice none 0 0], .int .i64 1]) rfl ⟨a1q ag24 sz24 rfl hx5 rfl (i := 0) rfl, a1w rfl, trivial⟩ (by simp) ?_
  obtain rfl := Option.some.inj hm
  exact ⟨_, _, _, rfl, hx5.pick [] (by decide) rfl, none, 0, 0, rfl, rfl, SlR.nil _ _⟩
 refine a0u 10 rfl hb1 ?_
 refine a0s rfl (a1b (a0d ?_))
 obtain ⟨⟨f1, f2, ex1⟩, hb2, hm⟩ := bind_some hm
 refine d0h (fun a w' => ∃ (Fx2 : Frz) (b5 : Nat) (as3 : Option Addr) (ns3 : Nat) (cs3 : Nat), Frz.le Fx1 Fx2 ∧ HS F w [] Fx2 [.box b5 24 [.int .i64 f1, .slice as3 ns3 cs3], .box b4 24 [.int .i64 0, .slice none 0 0], .box b3 24 [.int .i64 b1.Sign, .slice as2 ns2 cs2], .box b2 24 [.int .i64 ax1.Sign, .slice as1 ns1 cs1]] w' ∧ (SlR (Rp.int .i64) Fx2 as3 ns3 cs3 f2) ∧ Has 21 a [(4, .pointer (some ⟨b4, 0, none⟩)), (6, .pointer (some ⟨b5, 0, none⟩)), (7, .int .i64 ex1)]) ?_ ?_
 ·rintro a wx6 ⟨Fx2, b5, as3, ns3, cs3, hF2, hx6, hs3, hax1⟩
  refine a1l hax1 ?_
  refine a0f (a0a ?_)
  refine a0k ag24 sz24 rfl rfl hx6 rfl (i := 0) rfl rfl ?_
  refine a0e rfl rfl rfl ?_
  refine a0o sz24 rfl hx6 rfl rfl rfl rfl (i := 1) rfl rfl rfl rfl ?_
  intro wx7 hx7
  refine a0b rfl rfl rfl (a0c (a0d (a1d ?_)))
  refine a1k (vl := [.agg #[.int .i64 f1, .slice as3 ns3 cs3], .int .i64 ex1]) rfl ⟨a1q ag24 sz24 rfl hx7 rfl (i := 1) rfl, a1w rfl, trivial⟩ (by simp) ?_
  obtain rfl := Option.some.inj hm
  exact ⟨_, _, _, rfl, hx7.pick [] (by decide) rfl, as3, ns3, cs3, rfl, rfl, hs3⟩
 clear hm
 refine a2m (SH Fx1 [.box b4 24 [.int .i64 0, .slice none 0 0], .box b3 24 [.int .i64 b1.Sign, .slice as2 ns2 cs2], .box b2 24 [.int .i64 ax1.Sign, .slice as1 ns1 cs1]]) 10 rfl (by kernel_rfl) hx4 ?_
 intro wx8 hx8
 refine d_tk 0 rfl (by kernel_rfl) rfl rfl rfl rfl (hx8.sh (Frz.refl _) [0, 1, 2] (by decide) rfl) (fun _ _ _ _ hq => a0k ag24 sz24 rfl rfl hq rfl (i := 2) rfl rfl (a0c (qq rfl))) ?_
 refine d_tk 1 rfl (by kernel_rfl) rfl rfl rfl rfl (hx8.sh (Frz.refl _) [0, 1, 2] (by decide) rfl) (fun _ _ _ _ hq => a0k ag24 sz24 rfl rfl hq rfl (i := 1) rfl rfl (a0c (qq rfl))) ?_
 refine b8r 2 7 rfl rfl (by kernel_rfl) ?_ ?_
 ·obtain ⟨v2, hv2, hb2⟩ := bind_some hb2
  refine a0g ent64 rfl rfl rfl rfl hx8 (a8w _ _ _ hv2 hx8.sat (hs2.mono hF1)) ?_
  rintro _ Fx3 _ wx9 hF3 hx9 ⟨as4, ns4, cs4, rfl, rfl, hs4⟩
  refine a0w (hx9.sh hF3 [0, 1, 2] (by decide) rfl) ?_
  refine b8r 3 7 rfl rfl (by kernel_rfl) ?_ ?_
  ·obtain ⟨v3, hv3, hb2⟩ := bind_some hb2
   refine a0g ent54 rfl rfl rfl rfl hx9 (b0s _ _ _ _ hv3 hx9.sat ((hs1.mono hF1).mono hF3) hs4) ?_
   rintro _ Fx4 _ wx10 hF4 hx10 ⟨as5, ns5, cs5, rfl, rfl, hs5⟩
   refine a0w (hx10.sh (hF3.trans hF4) [0, 1, 2] (by decide) rfl) ?_
   refine d_tk 4 rfl (by kernel_rfl) rfl rfl rfl rfl (hx10.sh (hF3.trans hF4) [0, 1, 2] (by decide) rfl) (fun _ _ _ _ _ => a0e rfl rfl rfl (a0c (qq rfl))) ?_
   refine d_tk 5 rfl (by kernel_rfl) rfl rfl rfl rfl (hx10.sh (hF3.trans hF4) [0, 1, 2] (by decide) rfl) (fun _ _ _ _ _ => a0j rfl rfl rfl rfl (a0c (qq rfl))) ?_
   refine d_tk 6 rfl (by kernel_rfl) rfl rfl rfl rfl (hx10.sh (hF3.trans hF4) [0, 1, 2] (by decide) rfl) (fun _ _ _ _ _ => a0j rfl rfl rfl rfl (a0c (qq rfl))) ?_
   refine a1c 7 rfl (by kernel_rfl) ?_
   refine a0y ze24 rfl rfl rfl hx10 ?_
   intro b6 wx11 hx11
   refine a0w (hx11.sh (hF3.trans hF4) [1, 2, 3] (by decide) rfl) ?_
   refine a1c 8 rfl (by kernel_rfl) ?_
   refine a0o sz24 rfl hx11 rfl rfl rfl rfl (i := 0) rfl rfl rfl rfl ?_
   intro wx12 hx12
   refine a0w (hx12.sh (hF3.trans hF4) [1, 2, 3] (by decide) rfl) ?_
   refine d_tk 9 rfl (by kernel_rfl) rfl rfl rfl rfl (hx12.sh (hF3.trans hF4) [1, 2, 3] (by decide) rfl) (fun _ _ _ _ _ => a0b rfl rfl rfl (a0c (qq rfl))) ?_
   refine a3v (by kernel_rfl) ?_
   refine a0p (fun a ha => ?_)
   cases hb2
   exact ⟨_, b6, as5, ns5, cs5, (hF3.trans hF4), hx12.pick [0, 1, 2, 3] (by decide) rfl, hs5, ha.cut (l := [4, 6, 7]) rfl⟩
  refine a0y ze24 rfl rfl rfl hx9 ?_
  intro b6 wx10 hx10
  refine a0w (hx10.sh hF3 [1, 2, 3] (by decide) rfl) ?_
  refine a1c 3 rfl (by kernel_rfl) ?_
  obtain ⟨v3, hv3, hb2⟩ := bind_some hb2
  refine a0g ent54 rfl rfl rfl rfl hx10 (b0s _ _ _ _ hv3 hx10.sat ((hs1.mono hF1).mono hF3) hs4) ?_
  rintro _ Fx4 _ wx11 hF4 hx11 ⟨as5, ns5, cs5, rfl, rfl, hs5⟩
  refine a0w (hx11.sh (hF3.trans hF4) [1, 2, 3] (by decide) rfl) ?_
  refine d_tk 4 rfl (by kernel_rfl) rfl rfl rfl rfl (hx11.sh (hF3.trans hF4) [1, 2, 3] (by decide) rfl) (fun _ _ _ _ _ => a0e rfl rfl rfl (a0c (qq rfl))) ?_
  refine d_tk 5 rfl (by kernel_rfl) rfl rfl rfl rfl (hx11.sh (hF3.trans hF4) [1, 2, 3] (by decide) rfl) (fun _ _ _ _ _ => a0j rfl rfl rfl rfl (a0c (qq rfl))) ?_
  refine d_tk 6 rfl (by kernel_rfl) rfl rfl rfl rfl (hx11.sh (hF3.trans hF4) [1, 2, 3] (by decide) rfl) (fun _ _ _ _ _ => a0j rfl rfl rfl rfl (a0c (qq rfl))) ?_
  refine a1c 8 rfl (by kernel_rfl) ?_
  refine a0o sz24 rfl hx11 rfl rfl rfl rfl (i := 0) rfl rfl rfl rfl ?_
  intro wx12 hx12
  refine a0w (hx12.sh (hF3.trans hF4) [1, 2, 3] (by decide) rfl) ?_
  refine d_tk 9 rfl (by kernel_rfl) rfl rfl rfl rfl (hx12.sh (hF3.trans hF4) [1, 2, 3] (by decide) rfl) (fun _ _ _ _ _ => a0b rfl rfl rfl (a0c (qq rfl))) ?_
  refine a3v (by kernel_rfl) ?_
  refine a0p (fun a ha => ?_)
  cases hb2
  exact ⟨_, b6, as5, ns5, cs5, (hF3.trans hF4), hx12.pick [0, 1, 2, 3] (by decide) rfl, hs5, ha.cut (l := [4, 6, 7]) rfl⟩
 refine a0y ze24 rfl rfl rfl hx8 ?_
 intro b6 wx9 hx9
 refine a0w (hx9.sh (Frz.refl _) [1, 2, 3] (by decide) rfl) ?_
 refine a1c 2 rfl (by kernel_rfl) ?_
 obtain ⟨v2, hv2, hb2⟩ := bind_some hb2
 refine a0g ent64 rfl rfl rfl rfl hx9 (a8w _ _ _ hv2 hx9.sat (hs2.mono hF1)) ?_
 rintro _ Fx3 _ wx10 hF3 hx10 ⟨as4, ns4, cs4, rfl, rfl, hs4⟩
 refine a0w (hx10.sh hF3 [1, 2, 3] (by decide) rfl) ?_
 refine a1c 3 rfl (by kernel_rfl) ?_
 obtain ⟨v3, hv3, hb2⟩ := bind_some hb2
 refine a0g ent54 rfl rfl rfl rfl hx10 (b0s _ _ _ _ hv3 hx10.sat ((hs1.mono hF1).mono hF3) hs4) ?_
 rintro _ Fx4 _ wx11 hF4 hx11 ⟨as5, ns5, cs5, rfl, rfl, hs5⟩
 refine a0w (hx11.sh (hF3.trans hF4) [1, 2, 3] (by decide) rfl) ?_
 refine d_tk 4 rfl (by kernel_rfl) rfl rfl rfl rfl (hx11.sh (hF3.trans hF4) [1, 2, 3] (by decide) rfl) (fun _ _ _ _ _ => a0e rfl rfl rfl (a0c (qq rfl))) ?_
 refine d_tk 5 rfl (by kernel_rfl) rfl rfl rfl rfl (hx11.sh (hF3.trans hF4) [1, 2, 3] (by decide) rfl) (fun _ _ _ _ _ => a0j rfl rfl rfl rfl (a0c (qq rfl))) ?_
 refine d_tk 6 rfl (by kernel_rfl) rfl rfl rfl rfl (hx11.sh (hF3.trans hF4) [1, 2, 3] (by decide) rfl) (fun _ _ _ _ _ => a0j rfl rfl rfl rfl (a0c (qq rfl))) ?_
 refine a1c 8 rfl (by kernel_rfl) ?_
 refine a0o sz24 rfl hx11 rfl rfl rfl rfl (i := 0) rfl rfl rfl rfl ?_
 intro wx12 hx12
 refine a0w (hx12.sh (hF3.trans hF4) [1, 2, 3] (by decide) rfl) ?_
 refine d_tk 9 rfl (by kernel_rfl) rfl rfl rfl rfl (hx12.sh (hF3.trans hF4) [1, 2, 3] (by decide) rfl) (fun _ _ _ _ _ => a0b rfl rfl rfl (a0c (qq rfl))) ?_
 refine a3v (by kernel_rfl) ?_
 refine a0p (fun a ha => ?_)
 cases hb2
 exact ⟨_, b6, as5, ns5, cs5, (hF3.trans hF4), hx12.pick [0, 1, 2, 3] (by decide) rfl, hs5, ha.cut (l := [4, 6, 7]) rfl⟩
def a3u (n : Nat) (ax1 : Big) (b1 : Big) : Option (Big × Int) :=
 (a2i n ax1).bind fun v1 =>
 (bif !v1 then
  some true
 else
  (a2i n b1).bind fun v5 =>
  some (!v5)).bind fun v2 =>
 bif v2 then
  some ((⟨0, []⟩ : Big), 1)
 else
  (a2v n ax1.Digits b1.Digits).bind fun v3 =>
  (a1t n (imul .i64 ax1.Sign b1.Sign) v3).bind fun v4 =>
  some (v4, 0)
set_option maxHeartbeats 1000000 in
set_option maxRecDepth 1000000 in
theorem a4d (n : Nat) (ax1 : Big) (b1 : Big) (r : (Big × Int)) (hm : a3u n ax1 b1 = some r) {w : World} {F : Frz} (hs : Sat F w) {as1 : Option Addr} {ns1 : Nat} {cs1 : Nat} {as2 : Option Addr} {ns2 : Nat} {cs2 : Nat} (hs1 : SlR (Rp.int .i64) F as1 ns1 cs1 ax1.Digits) (hs2 : SlR (Rp.int .i64) F as2 ns2 cs2 b1.Digits) :
  Calls Tryz.prog 53 #[.agg #[.int .i64 ax1.Sign, .slice as1 ns1 cs1], .agg #[.int .i64 b1.Sign, .slice as2 ns2 cs2]] w fun e w' => ∃ v F' O', e = .returned v ∧ HS F w [] F' O' w' ∧ (∃ (a0_1 : Option Addr) (n0_1 : Nat) (c0_1 : Nat), v = .tuple #[.agg #[.int .i64 r.1.Sign, .slice a0_1 n0_1 c0_1], .int .i64 r.2] ∧ O' = [] ∧ SlR (Rp.int .i64) F' a0_1 n0_1 c0_1 r.1.Digits) := by
 unfold a3u at hm
 have h := HS.init hs
 refine a0x 26 Tryz.func53 rfl rfl rfl ?_
 refine a0f (a0a ?_)
 refine a2o rfl rfl rfl rfl h ?_
 intro b2 wx1 hx1
 refine a2o rfl rfl rfl rfl hx1 ?_
 intro b3 wx2 hx2
 refine a0y ze24 rfl rfl rfl hx2 ?_
 intro b4 wx3 hx3
 refine a0b rfl rfl rfl (a0c (a0d (a0f (a0f (a0a ?_)))))
 refine a0k ag24 sz24 rfl rfl hx3 rfl (i := 2) rfl rfl ?_
 obtain ⟨v1, hv1, hm⟩ := bind_some hm
 refine a0g ent63 rfl rfl rfl rfl hx3 (a2l _ _ _ hv1 hx3.sat hs1) ?_
 rintro _ Fx1 _ wx4 hF1 hx4 ⟨rfl, rfl⟩
 refine a2x rfl rfl rfl (a0e rfl rfl rfl ?_)
 obtain ⟨v2, hb1, hm⟩ := bind_some hm
 refine a2k 4 (fun a w' => ∃ (Fx2 : Frz), Frz.le Fx1 Fx2 ∧ HS F w [] Fx2 [.box b4 24 [.int .i64 0, .slice none 0 0], .box b3 24 [.int .i64 b1.Sign, .slice as2 ns2 cs2], .box b2 24 [.int .i64 ax1.Sign, .slice as1 ns1 cs1]] w' ∧ Has 26 a [(2, .pointer (some ⟨b2, 0, none⟩)), (3, .pointer (some ⟨b3, 0, none⟩)), (4, .pointer (some ⟨b4, 0, none⟩)), (13, .bool v2)]) ?_ ?_
 ·rintro a wx5 ⟨Fx2, hF2, hx5, hax1⟩
  refine a1a hax1 ?_
  refine a0c (a0d ?_)
  rcases a0i hm with ⟨hb2, hm⟩ | ⟨hb2, hm⟩
  ·refine a0u 13 rfl hb2 ?_
   refine a0z rfl (a0f (a0a ?_))
   refine a1r (v := .agg #[.int .i64 0, .slice none 0 0]) rfl rfl rfl (fun _ => by kernel_rfl) ?_
   refine a0o sz24 rfl hx5 rfl rfl rfl rfl (i := 0) rfl rfl rfl rfl ?_
   intro wx6 hx6
   refine a0b rfl rfl rfl (a0c (a0d (a1d (a0n ?_))))
   refine a1k (vl := [.agg #[.int .i64 0, .slice none 0 0], .int .i64 1]) rfl ⟨a1q ag24 sz24 rfl hx6 rfl (i := 0) rfl, a1w rfl, trivial⟩ (by simp) ?_
   obtain rfl := Option.some.inj hm
   exact ⟨_, _, _, rfl, hx6.pick [] (by decide) rfl, none, 0, 0, rfl, rfl, SlR.nil _ _⟩
  refine a0u 13 rfl hb2 ?_
  refine a0s rfl (a1b (a0d (a0f ?_)))
  refine a2m (SH Fx2 [.box b3 24 [.int .i64 b1.Sign, .slice as2 ns2 cs2], .box b2 24 [.int .i64 ax1.Sign, .slice as1 ns1 cs1]]) 13 rfl (by kernel_rfl) hx5 ?_
  intro wx7 hx7
  refine d_tk 0 rfl (by kernel_rfl) rfl rfl rfl rfl (hx7.sh (Frz.refl _) [1, 2] (by decide) rfl) (fun _ _ _ _ _ => a0h fa24_0 rfl rfl rfl (a0c (qq rfl))) ?_
  refine d_tk 1 rfl (by kernel_rfl) rfl rfl rfl rfl (hx7.sh (Frz.refl _) [1, 2] (by decide) rfl) (fun _ _ _ _ hq => a0t ag3 rfl rfl hq rfl (i := 1) rfl rfl (a0c (qq rfl))) ?_
  refine d_tk 2 rfl (by kernel_rfl) rfl rfl rfl rfl (hx7.sh (Frz.refl _) [1, 2] (by decide) rfl) (fun _ _ _ _ _ => a0h fa24_0 rfl rfl rfl (a0c (qq rfl))) ?_
  refine d_tk 3 rfl (by kernel_rfl) rfl rfl rfl rfl (hx7.sh (Frz.refl _) [1, 2] (by decide) rfl) (fun _ _ _ _ hq => a0t ag3 rfl rfl hq rfl (i := 0) rfl rfl (a0c (qq rfl))) ?_
  refine d_tk 4 rfl (by kernel_rfl) rfl rfl rfl rfl (hx7.sh (Frz.refl _) [1, 2] (by decide) rfl) (fun _ _ _ _ _ => a0v rfl rfl rfl rfl rfl (a0c (qq rfl))) ?_
  refine d_tk 5 rfl (by kernel_rfl) rfl rfl rfl rfl (hx7.sh (Frz.refl _) [1, 2] (by decide) rfl) (fun _ _ _ _ _ => a0h fa24_1 rfl rfl rfl (a0c (qq rfl))) ?_
  refine d_tk 6 rfl (by kernel_rfl) rfl rfl rfl rfl (hx7.sh (Frz.refl _) [1, 2] (by decide) rfl) (fun _ _ _ _ hq => a0t ag22 rfl rfl hq rfl (i := 1) rfl rfl (a0c (qq rfl))) ?_
  refine d_tk 7 rfl (by kernel_rfl) rfl rfl rfl rfl (hx7.sh (Frz.refl _) [1, 2] (by decide) rfl) (fun _ _ _ _ _ => a0h fa24_1 rfl rfl rfl (a0c (qq rfl))) ?_
  refine d_tk 8 rfl (by kernel_rfl) rfl rfl rfl rfl (hx7.sh (Frz.refl _) [1, 2] (by decide) rfl) (fun _ _ _ _ hq => a0t ag22 rfl rfl hq rfl (i := 0) rfl rfl (a0c (qq rfl))) ?_
  refine a1c 9 rfl (by kernel_rfl) ?_
  obtain ⟨v3, hv2, hm⟩ := bind_some hm
  refine a0g ent84 rfl rfl rfl rfl hx7 (a6i _ _ _ _ hv2 hx7.sat ((hs1.mono hF1).mono hF2) ((hs2.mono hF1).mono hF2)) ?_
  rintro _ Fx3 _ wx8 hF3 hx8 ⟨as3, ns3, cs3, xss3, rfl, rfl, hs3⟩
  refine a0w (hx8.sh hF3 [2, 3] (by decide) rfl) ?_
  refine a1c 10 rfl (by kernel_rfl) ?_
  obtain ⟨Fx4, hF4, hx9, hsx1⟩ := a1g hx8 (i := 0) rfl hs3
  obtain ⟨v4, hv3, hm⟩ := bind_some hm
  refine a0g ent83 rfl rfl rfl rfl hx9 (a3n _ _ _ _ hv3 hx9.sat hsx1) ?_
  rintro _ Fx5 _ wx9 hF5 hx10 ⟨as4, ns4, cs4, rfl, rfl, hs4⟩
  refine a0w (hx10.sh ((hF3.trans hF4).trans hF5) [1, 2] (by decide) rfl) ?_
  refine a1c 11 rfl (by kernel_rfl) ?_
  refine a0o sz24 rfl hx10 rfl rfl rfl rfl (i := 0) rfl rfl rfl rfl ?_
  intro wx10 hx11
  refine a0w (hx11.sh ((hF3.trans hF4).trans hF5) [1, 2] (by decide) rfl) ?_
  refine d_tk 12 rfl (by kernel_rfl) rfl rfl rfl rfl (hx11.sh ((hF3.trans hF4).trans hF5) [1, 2] (by decide) rfl) (fun _ _ _ _ _ => a0b rfl rfl rfl (a0c (qq rfl))) ?_
  refine a3v (by kernel_rfl) ?_
  refine a0d (a1d ?_)
  refine a1k (vl := [.agg #[.int .i64 v4.Sign, .slice as4 ns4 cs4], .int .i64 0]) rfl ⟨a1q ag24 sz24 rfl hx11 rfl (i := 0) rfl, a1w rfl, trivial⟩ (by simp) ?_
  obtain rfl := Option.some.inj hm
  exact ⟨_, _, _, rfl, hx11.pick [] (by decide) rfl, as4, ns4, cs4, rfl, rfl, hs4⟩
 clear hm
 rcases a0i hb1 with ⟨hb3, hb1⟩ | ⟨hb3, hb1⟩
 ·refine a1e 9 rfl hb3 ?_
  refine a0r rfl (by decide) rfl (a0r rfl (by decide) rfl (a0r rfl (by decide) rfl (a0m rfl rfl rfl rfl (a0c ?_))))
  refine a0p (fun a ha => ?_)
  cases hb1
  exact ⟨_, Frz.refl _, hx4.pick [0, 1, 2] (by decide) rfl, ha.cut (l := [2, 3, 4, 13]) rfl⟩
 refine a1e 9 rfl hb3 ?_
 refine a0k ag24 sz24 rfl rfl hx4 rfl (i := 1) rfl rfl ?_
 obtain ⟨v5, hv4, hb1⟩ := bind_some hb1
 refine a0g ent63 rfl rfl rfl rfl hx4 (a2l _ _ _ hv4 hx4.sat (hs2.mono hF1)) ?_
 rintro _ Fx6 _ wx11 hF6 hx12 ⟨rfl, rfl⟩
 refine a2x rfl rfl rfl (a0l rfl rfl rfl rfl (a0c ?_))
 refine a0p (fun a ha => ?_)
 cases hb1
 exact ⟨_, hF6, hx12.pick [0, 1, 2] (by decide) rfl, ha.cut (l := [2, 3, 4, 13]) rfl⟩
theorem ent94 : Ent Tryz.prog 94 := fun _ _ => by kernel_rfl
def a8a (n : Nat) (ax1 : Big) (b1 : Big) : Option (Big × Big × Int) :=
 (a2i n ax1).bind fun v1 =>
 (bif !v1 then
  some true
 else
  (a2i n b1).bind fun v11 =>
  some (!v11)).bind fun v2 =>
 bif v2 then
  some ((⟨0, []⟩ : Big), (⟨0, []⟩ : Big), 1)
 else
  bif b1.Sign == 0 then
   some ((⟨0, []⟩ : Big), (⟨0, []⟩ : Big), 14)
  else
   (a7f n ax1.Digits b1.Digits).bind fun v3 =>
   (bif decide (0 ≤ (imul .i64 ax1.Sign b1.Sign)) then
    some true
   else
    some ((v3.2.length : Int) == 0)).bind fun v4 =>
   bif v4 then
    (a1t n (imul .i64 ax1.Sign b1.Sign) v3.1).bind fun v5 =>
    (a1t n ax1.Sign v3.2).bind fun v6 =>
    some (v5, v6, 0)
   else
    (a4m n v3.1 [1]).bind fun v7 =>
    (a1t n (-1) v7).bind fun v8 =>
    (a2w n b1.Digits v3.2).bind fun v9 =>
    (a1t n b1.Sign v9).bind fun v10 =>
    some (v8, v10, 0)
set_option maxHeartbeats 1000000 in
set_option maxRecDepth 1000000 in
theorem b2s (n : Nat) (ax1 : Big) (b1 : Big) (r : (Big × Big × Int)) (hm : a8a n ax1 b1 = some r) {w : World} {F : Frz} (hs : Sat F w) {as1 : Option Addr} {ns1 : Nat} {cs1 : Nat} {as2 : Option Addr} {ns2 : Nat} {cs2 : Nat} (hs1 : SlR (Rp.int .i64) F as1 ns1 cs1 ax1.Digits) (hs2 : SlR (Rp.int .i64) F as2 ns2 cs2 b1.Digits) :
  Calls Tryz.prog 66 #[.agg #[.int .i64 ax1.Sign, .slice as1 ns1 cs1], .agg #[.int .i64 b1.Sign, .slice as2 ns2 cs2]] w fun e w' => ∃ v F' O', e = .returned v ∧ HS F w [] F' O' w' ∧ (∃ (a0_1 : Option Addr) (n0_1 : Nat) (c0_1 : Nat) (a1_1 : Option Addr) (n1_1 : Nat) (c1_1 : Nat), v = .tuple #[.agg #[.int .i64 r.1.Sign, .slice a0_1 n0_1 c0_1], .agg #[.int .i64 r.2.1.Sign, .slice a1_1 n1_1 c1_1], .int .i64 r.2.2] ∧ O' = [] ∧ SlR (Rp.int .i64) F' a0_1 n0_1 c0_1 r.1.Digits ∧ SlR (Rp.int .i64) F' a1_1 n1_1 c1_1 r.2.1.Digits) := by
 unfold a8a at hm
 have h := HS.init hs
 refine a0x 65 Tryz.func66 rfl rfl rfl ?_
 refine a0f (a0a ?_)
 refine a2o rfl rfl rfl rfl h ?_
 intro b2 wx1 hx1
 refine a2o rfl rfl rfl rfl hx1 ?_
 intro b3 wx2 hx2
 refine a0y ze24 rfl rfl rfl hx2 ?_
 intro b4 wx3 hx3
 refine a0y ze24 rfl rfl rfl hx3 ?_
 intro b5 wx4 hx4
 refine a0b rfl rfl rfl (a0c (a0d (a0f (a0f (a0a ?_)))))
 refine a0k ag24 sz24 rfl rfl hx4 rfl (i := 3) rfl rfl ?_
 obtain ⟨v1, hv1, hm⟩ := bind_some hm
 refine a0g ent63 rfl rfl rfl rfl hx4 (a2l _ _ _ hv1 hx4.sat hs1) ?_
 rintro _ Fx1 _ wx5 hF1 hx5 ⟨rfl, rfl⟩
 refine a2x rfl rfl rfl (a0e rfl rfl rfl ?_)
 obtain ⟨v2, hb1, hm⟩ := bind_some hm
 refine a2k 4 (fun a w' => ∃ (Fx2 : Frz), Frz.le Fx1 Fx2 ∧ HS F w [] Fx2 [.box b5 24 [.int .i64 0, .slice none 0 0], .box b4 24 [.int .i64 0, .slice none 0 0], .box b3 24 [.int .i64 b1.Sign, .slice as2 ns2 cs2], .box b2 24 [.int .i64 ax1.Sign, .slice as1 ns1 cs1]] w' ∧ Has 65 a [(2, .pointer (some ⟨b2, 0, none⟩)), (3, .pointer (some ⟨b3, 0, none⟩)), (4, .pointer (some ⟨b4, 0, none⟩)), (5, .pointer (some ⟨b5, 0, none⟩)), (16, .bool v2)]) ?_ ?_
 ·rintro a wx6 ⟨Fx2, hF2, hx6, hax1⟩
  refine a1a hax1 ?_
  refine a0c (a0d ?_)
  rcases a0i hm with ⟨hb2, hm⟩ | ⟨hb2, hm⟩
  ·refine a0u 16 rfl hb2 ?_
   refine a0z rfl (a0f (a0a ?_))
   refine a1r (v := .agg #[.int .i64 0, .slice none 0 0]) rfl rfl rfl (fun _ => by kernel_rfl) ?_
   refine a1r (v := .agg #[.int .i64 0, .slice none 0 0]) rfl rfl rfl (fun _ => by kernel_rfl) ?_
   refine a0o sz24 rfl hx6 rfl rfl rfl rfl (i := 1) rfl rfl rfl rfl ?_
   intro wx7 hx7
   refine a0o sz24 rfl hx7 rfl rfl rfl rfl (i := 0) rfl rfl rfl rfl ?_
   intro wx8 hx8
   refine a0b rfl rfl rfl (a0c (a0d (a1d (a0n ?_))))
   refine a1k (vl := [.agg #[.int .i64 0, .slice none 0 0], .agg #[.int .i64 0, .slice none 0 0], .int .i64 1]) rfl ⟨a1q ag24 sz24 rfl hx8 rfl (i := 1) rfl, a1q ag24 sz24 rfl hx8 rfl (i := 0) rfl, a1w rfl, trivial⟩ (by simp) ?_
   obtain rfl := Option.some.inj hm
   exact ⟨_, _, _, rfl, hx8.pick [] (by decide) rfl, none, 0, 0, none, 0, 0, rfl, rfl, SlR.nil _ _, SlR.nil _ _⟩
  refine a0u 16 rfl hb2 ?_
  refine a0s rfl (a1b (a0d (a0f (a0f (a0a ?_)))))
  refine a0h fa24_0 rfl rfl rfl ?_
  refine a0t ag3 rfl rfl hx6 rfl (i := 2) rfl rfl ?_
  refine a0v rfl rfl rfl rfl rfl ?_
  refine a0c (a0d ?_)
  rcases a0i hm with ⟨hb3, hm⟩ | ⟨hb3, hm⟩
  ·refine a0u 21 rfl hb3 ?_
   refine a0z rfl (a0f (a0a ?_))
   refine a1r (v := .agg #[.int .i64 0, .slice none 0 0]) rfl rfl rfl (fun _ => by kernel_rfl) ?_
   refine a1r (v := .agg #[.int .i64 0, .slice none 0 0]) rfl rfl rfl (fun _ => by kernel_rfl) ?_
   refine a0o sz24 rfl hx6 rfl rfl rfl rfl (i := 1) rfl rfl rfl rfl ?_
   intro wx9 hx9
   refine a0o sz24 rfl hx9 rfl rfl rfl rfl (i := 0) rfl rfl rfl rfl ?_
   intro wx10 hx10
   refine a0b rfl rfl rfl (a0c (a0d (a1d (a0n ?_))))
   refine a1k (vl := [.agg #[.int .i64 0, .slice none 0 0], .agg #[.int .i64 0, .slice none 0 0], .int .i64 14]) rfl ⟨a1q ag24 sz24 rfl hx10 rfl (i := 1) rfl, a1q ag24 sz24 rfl hx10 rfl (i := 0) rfl, a1w rfl, trivial⟩ (by simp) ?_
   obtain rfl := Option.some.inj hm
   exact ⟨_, _, _, rfl, hx10.pick [] (by decide) rfl, none, 0, 0, none, 0, 0, rfl, rfl, SlR.nil _ _, SlR.nil _ _⟩
  refine a0u 21 rfl hb3 ?_
  refine a0s rfl (a1b (a0d (a0f (a0a ?_))))
  refine a0h fa24_1 rfl rfl rfl ?_
  refine a0t ag22 rfl rfl hx6 rfl (i := 3) rfl rfl ?_
  refine a0h fa24_1 rfl rfl rfl ?_
  refine a0t ag22 rfl rfl hx6 rfl (i := 2) rfl rfl ?_
  obtain ⟨v3, hv2, hm⟩ := bind_some hm
  refine a0g ent94 rfl rfl rfl rfl hx6 (b5a _ _ _ _ hv2 hx6.sat ((hs1.mono hF1).mono hF2) ((hs2.mono hF1).mono hF2)) ?_
  rintro _ Fx3 _ wx11 hF3 hx11 ⟨as3, ns3, cs3, xss3, as4, ns4, cs4, rfl, rfl, hs3, hs4⟩
  refine a0e rfl rfl rfl (a0j rfl rfl rfl rfl (a0j rfl rfl rfl rfl (a0b rfl rfl rfl (a0b rfl rfl rfl (a0c (a0d (a0f (a0f (a0a ?_)))))))))
  refine a0h fa24_0 rfl rfl rfl ?_
  refine a0t ag3 rfl rfl hx11 rfl (i := 4) rfl rfl ?_
  refine a0h fa24_0 rfl rfl rfl ?_
  refine a0t ag3 rfl rfl hx11 rfl (i := 3) rfl rfl ?_
  refine a0v rfl rfl rfl rfl rfl ?_
  refine a0v rfl rfl rfl rfl rfl ?_
  refine a0e rfl rfl rfl ?_
  obtain ⟨v4, hb4, hm⟩ := bind_some hm
  refine a2k 4 (fun a w' => wx11 = w' ∧ Has 65 a [(2, .pointer (some ⟨b2, 0, none⟩)), (3, .pointer (some ⟨b3, 0, none⟩)), (4, .pointer (some ⟨b4, 0, none⟩)), (5, .pointer (some ⟨b5, 0, none⟩)), (7, .slice as3 ns3 cs3), (8, .slice as4 ns4 cs4), (42, .bool v4)]) ?_ ?_
  ·rintro a wx12 ⟨rfl, hax2⟩
   refine a1a hax2 ?_
   refine a0c (a0d ?_)
   rcases a0i hm with ⟨hb5, hm⟩ | ⟨hb5, hm⟩
   ·refine a0u 42 rfl hb5 ?_
    refine a0z rfl (a0f ?_)
    refine a2m (SH Fx3 [.box b3 24 [.int .i64 b1.Sign, .slice as2 ns2 cs2], .box b2 24 [.int .i64 ax1.Sign, .slice as1 ns1 cs1]]) 14 rfl (by kernel_rfl) hx11 ?_
    intro wx13 hx12
    refine d_tk 0 rfl (by kernel_rfl) rfl rfl rfl rfl (hx12.sh (Frz.refl _) [3, 4] (by decide) rfl) (fun _ _ _ _ _ => a0h fa24_0 rfl rfl rfl (a0c (qq rfl))) ?_
    refine d_tk 1 rfl (by kernel_rfl) rfl rfl rfl rfl (hx12.sh (Frz.refl _) [3, 4] (by decide) rfl) (fun _ _ _ _ hq => a0t ag3 rfl rfl hq rfl (i := 1) rfl rfl (a0c (qq rfl))) ?_
    refine d_tk 2 rfl (by kernel_rfl) rfl rfl rfl rfl (hx12.sh (Frz.refl _) [3, 4] (by decide) rfl) (fun _ _ _ _ _ => a0h fa24_0 rfl rfl rfl (a0c (qq rfl))) ?_
    refine d_tk 3 rfl (by kernel_rfl) rfl rfl rfl rfl (hx12.sh (Frz.refl _) [3, 4] (by decide) rfl) (fun _ _ _ _ hq => a0t ag3 rfl rfl hq rfl (i := 0) rfl rfl (a0c (qq rfl))) ?_
    refine d_tk 4 rfl (by kernel_rfl) rfl rfl rfl rfl (hx12.sh (Frz.refl _) [3, 4] (by decide) rfl) (fun _ _ _ _ _ => a0v rfl rfl rfl rfl rfl (a0c (qq rfl))) ?_
    refine d_tk 5 rfl (by kernel_rfl) rfl rfl rfl rfl (hx12.sh (Frz.refl _) [3, 4] (by decide) rfl) (fun _ _ _ _ _ => a0e rfl rfl rfl (a0c (qq rfl))) ?_
    refine d_tk 7 rfl (by kernel_rfl) rfl rfl rfl rfl (hx12.sh (Frz.refl _) [3, 4] (by decide) rfl) (fun _ _ _ _ _ => a0h fa24_0 rfl rfl rfl (a0c (qq rfl))) ?_
    refine d_tk 8 rfl (by kernel_rfl) rfl rfl rfl rfl (hx12.sh (Frz.refl _) [3, 4] (by decide) rfl) (fun _ _ _ _ hq => a0t ag3 rfl rfl hq rfl (i := 1) rfl rfl (a0c (qq rfl))) ?_
    refine d_tk 9 rfl (by kernel_rfl) rfl rfl rfl rfl (hx12.sh (Frz.refl _) [3, 4] (by decide) rfl) (fun _ _ _ _ _ => a0e rfl rfl rfl (a0c (qq rfl))) ?_
    refine a1c 6 rfl (by kernel_rfl) ?_
    obtain ⟨Fx4, hF4, hx13, hsx1⟩ := a1g hx12 (i := 0) rfl hs3
    obtain ⟨v5, hv3, hm⟩ := bind_some hm
    refine a0g ent83 rfl rfl rfl rfl hx13 (a3n _ _ _ _ hv3 hx13.sat hsx1) ?_
    rintro _ Fx5 _ wx14 hF5 hx14 ⟨as5, ns5, cs5, rfl, rfl, hs5⟩
    refine a0w (hx14.sh (hF4.trans hF5) [2, 3] (by decide) rfl) ?_
    refine a1c 10 rfl (by kernel_rfl) ?_
    obtain ⟨v6, hv4, hm⟩ := bind_some hm
    refine a0g ent83 rfl rfl rfl rfl hx14 (a3n _ _ _ _ hv4 hx14.sat ((hs4.mono hF4).mono hF5)) ?_
    rintro _ Fx6 _ wx15 hF6 hx15 ⟨as6, ns6, cs6, rfl, rfl, hs6⟩
    refine a0w (hx15.sh ((hF4.trans hF5).trans hF6) [2, 3] (by decide) rfl) ?_
    refine a1c 11 rfl (by kernel_rfl) ?_
    refine a0o sz24 rfl hx15 rfl rfl rfl rfl (i := 1) rfl rfl rfl rfl ?_
    intro wx16 hx16
    refine a0w (hx16.sh ((hF4.trans hF5).trans hF6) [2, 3] (by decide) rfl) ?_
    refine a1c 12 rfl (by kernel_rfl) ?_
    refine a0o sz24 rfl hx16 rfl rfl rfl rfl (i := 0) rfl rfl rfl rfl ?_
    intro wx17 hx17
    refine a0w (hx17.sh ((hF4.trans hF5).trans hF6) [2, 3] (by decide) rfl) ?_
    refine d_tk 13 rfl (by kernel_rfl) rfl rfl rfl rfl (hx17.sh ((hF4.trans hF5).trans hF6) [2, 3] (by decide) rfl) (fun _ _ _ _ _ => a0b rfl rfl rfl (a0c (qq rfl))) ?_
    refine a3v (by kernel_rfl) ?_
    refine a0d (a1d (a0n ?_))
    refine a1k (vl := [.agg #[.int .i64 v5.Sign, .slice as5 ns5 cs5], .agg #[.int .i64 v6.Sign, .slice as6 ns6 cs6], .int .i64 0]) rfl ⟨a1q ag24 sz24 rfl hx17 rfl (i := 1) rfl, a1q ag24 sz24 rfl hx17 rfl (i := 0) rfl, a1w rfl, trivial⟩ (by simp) ?_
    obtain rfl := Option.some.inj hm
    exact ⟨_, _, _, rfl, hx17.pick [] (by decide) rfl, as5, ns5, cs5, as6, ns6, cs6, rfl, rfl, (hs5.mono hF6), hs6⟩
   refine a0u 42 rfl hb5 ?_
   refine a0s rfl (a1b (a0d (a0f ?_)))
   refine a2m (SH Fx3 [.box b3 24 [.int .i64 b1.Sign, .slice as2 ns2 cs2], .box b2 24 [.int .i64 ax1.Sign, .slice as1 ns1 cs1]]) 14 rfl (by kernel_rfl) hx11 ?_
   intro wx18 hx18
   refine d_tk 0 rfl (by kernel_rfl) rfl rfl rfl rfl (hx18.sh (Frz.refl _) [3, 4] (by decide) rfl) (fun _ _ _ _ _ => a0e rfl rfl rfl (a0c (qq rfl))) ?_
   refine d_tk 4 rfl (by kernel_rfl) rfl rfl rfl rfl (hx18.sh (Frz.refl _) [3, 4] (by decide) rfl) (fun _ _ _ _ _ => a0h fa24_0 rfl rfl rfl (a0c (qq rfl))) ?_
   refine d_tk 5 rfl (by kernel_rfl) rfl rfl rfl rfl (hx18.sh (Frz.refl _) [3, 4] (by decide) rfl) (fun _ _ _ _ hq => a0t ag3 rfl rfl hq rfl (i := 0) rfl rfl (a0c (qq rfl))) ?_
   refine d_tk 6 rfl (by kernel_rfl) rfl rfl rfl rfl (hx18.sh (Frz.refl _) [3, 4] (by decide) rfl) (fun _ _ _ _ _ => a0h fa24_1 rfl rfl rfl (a0c (qq rfl))) ?_
   refine d_tk 7 rfl (by kernel_rfl) rfl rfl rfl rfl (hx18.sh (Frz.refl _) [3, 4] (by decide) rfl) (fun _ _ _ _ hq => a0t ag22 rfl rfl hq rfl (i := 0) rfl rfl (a0c (qq rfl))) ?_
   refine d_tk 8 rfl (by kernel_rfl) rfl rfl rfl rfl (hx18.sh (Frz.refl _) [3, 4] (by decide) rfl) (fun _ _ _ _ _ => a0e rfl rfl rfl (a0c (qq rfl))) ?_
   refine a1c 1 rfl (by kernel_rfl) ?_
   refine a1x (e := 3) (cs := [.int .i64 1]) (q := 1) rfl rfl hx18 rfl (fun _ => by kernel_rfl) rfl rfl ?_
   intro b6 wx19 hx19
   refine a0w (hx19.sh (Frz.refl _) [4, 5] (by decide) rfl) ?_
   refine a1c 2 rfl (by kernel_rfl) ?_
   obtain ⟨Fx7, hF7, hx20, hsx2⟩ := a1g hx19 (i := 1) rfl hs3
   obtain ⟨Fx8, hF8, hx21, hsx3⟩ := a1g hx20 (i := 0) rfl ((show RowN (Rp.int .i64) Fx3 1 [.int .i64 1] [1] from ⟨rfl, ⟨_, _, rfl, rfl, (rfl : RowR (Rp.int .i64) _ [] [])⟩⟩).mono hF7)
   obtain ⟨v7, hv5, hm⟩ := bind_some hm
   refine a0g ent85 rfl rfl rfl rfl hx21 (a8c _ _ _ _ hv5 hx21.sat (hsx2.mono hF8) hsx3) ?_
   rintro _ Fx9 _ wx20 hF9 hx22 ⟨as7, ns7, cs7, xss7, rfl, rfl, hs7⟩
   refine a0w (hx22.sh ((hF7.trans hF8).trans hF9) [3, 4] (by decide) rfl) ?_
   refine a1c 3 rfl (by kernel_rfl) ?_
   obtain ⟨Fx10, hF10, hx23, hsx4⟩ := a1g hx22 (i := 0) rfl hs7
   obtain ⟨v8, hv6, hm⟩ := bind_some hm
   refine a0g ent83 rfl rfl rfl rfl hx23 (a3n _ _ _ _ hv6 hx23.sat hsx4) ?_
   rintro _ Fx11 _ wx21 hF11 hx24 ⟨as8, ns8, cs8, rfl, rfl, hs8⟩
   refine a0w (hx24.sh ((((hF7.trans hF8).trans hF9).trans hF10).trans hF11) [2, 3] (by decide) rfl) ?_
   refine a1c 9 rfl (by kernel_rfl) ?_
   have hG1 := ((((((hF1.trans hF2).trans hF3).trans hF7).trans hF8).trans hF9).trans hF10).trans hF11
   have hG2 := (((hF7.trans hF8).trans hF9).trans hF10).trans hF11
   obtain ⟨v9, hv7, hm⟩ := bind_some hm
   refine a0g ent87 rfl rfl rfl rfl hx24 (a8t _ _ _ _ hv7 hx24.sat (hs2.mono hG1) (hs4.mono hG2)) ?_
   rintro _ Fx12 _ wx22 hF12 hx25 ⟨as9, ns9, cs9, xss9, rfl, rfl, hs9⟩
   refine a0w (hx25.sh (((((hF7.trans hF8).trans hF9).trans hF10).trans hF11).trans hF12) [3, 4] (by decide) rfl) ?_
   refine a1c 10 rfl (by kernel_rfl) ?_
   obtain ⟨Fx13, hF13, hx26, hsx5⟩ := a1g hx25 (i := 0) rfl hs9
   obtain ⟨v10, hv8, hm⟩ := bind_some hm
   refine a0g ent83 rfl rfl rfl rfl hx26 (a3n _ _ _ _ hv8 hx26.sat hsx5) ?_
   rintro _ Fx14 _ wx23 hF14 hx27 ⟨as10, ns10, cs10, rfl, rfl, hs10⟩
   refine a0w (hx27.sh (((((((hF7.trans hF8).trans hF9).trans hF10).trans hF11).trans hF12).trans hF13).trans hF14) [2, 3] (by decide) rfl) ?_
   refine a1c 11 rfl (by kernel_rfl) ?_
   refine a0o sz24 rfl hx27 rfl rfl rfl rfl (i := 1) rfl rfl rfl rfl ?_
   intro wx24 hx28
   refine a0w (hx28.sh (((((((hF7.trans hF8).trans hF9).trans hF10).trans hF11).trans hF12).trans hF13).trans hF14) [2, 3] (by decide) rfl) ?_
   refine a1c 12 rfl (by kernel_rfl) ?_
   refine a0o sz24 rfl hx28 rfl rfl rfl rfl (i := 0) rfl rfl rfl rfl ?_
   intro wx25 hx29
   refine a0w (hx29.sh (((((((hF7.trans hF8).trans hF9).trans hF10).trans hF11).trans hF12).trans hF13).trans hF14) [2, 3] (by decide) rfl) ?_
   refine d_tk 13 rfl (by kernel_rfl) rfl rfl rfl rfl (hx29.sh (((((((hF7.trans hF8).trans hF9).trans hF10).trans hF11).trans hF12).trans hF13).trans hF14) [2, 3] (by decide) rfl) (fun _ _ _ _ _ => a0b rfl rfl rfl (a0c (qq rfl))) ?_
   refine a3v (by kernel_rfl) ?_
   refine a0d (a1d ?_)
   refine a1k (vl := [.agg #[.int .i64 v8.Sign, .slice as8 ns8 cs8], .agg #[.int .i64 v10.Sign, .slice as10 ns10 cs10], .int .i64 0]) rfl ⟨a1q ag24 sz24 rfl hx29 rfl (i := 1) rfl, a1q ag24 sz24 rfl hx29 rfl (i := 0) rfl, a1w rfl, trivial⟩ (by simp) ?_
   obtain rfl := Option.some.inj hm
   exact ⟨_, _, _, rfl, hx29.pick [] (by decide) rfl, as8, ns8, cs8, as10, ns10, cs10, rfl, rfl, (((hs8.mono hF12).mono hF13).mono hF14), hs10⟩
  clear hm
  rcases a0i hb4 with ⟨hb6, hb4⟩ | ⟨hb6, hb4⟩
  ·refine a1e 38 rfl hb6 ?_
   refine a0r rfl (by decide) rfl (a0r rfl (by decide) rfl (a0r rfl (by decide) rfl (a0m rfl rfl rfl rfl (a0c ?_))))
   refine a0p (fun a ha => ?_)
   cases hb4
   exact ⟨rfl, ha.cut (l := [2, 3, 4, 5, 7, 8, 42]) rfl⟩
  refine a1e 38 rfl hb6 ?_
  refine a0e rfl rfl rfl ?_
  refine a1z hs4.len u22 rfl rfl rfl ?_
  refine a0v rfl rfl rfl rfl rfl ?_
  refine a0l rfl rfl rfl rfl (a0c ?_)
  refine a0p (fun a ha => ?_)
  cases hb4
  exact ⟨rfl, ha.cut (l := [2, 3, 4, 5, 7, 8, 42]) rfl⟩
 clear hm
 rcases a0i hb1 with ⟨hb7, hb1⟩ | ⟨hb7, hb1⟩
 ·refine a1e 12 rfl hb7 ?_
  refine a0r rfl (by decide) rfl (a0r rfl (by decide) rfl (a0r rfl (by decide) rfl (a0m rfl rfl rfl rfl (a0c ?_))))
  refine a0p (fun a ha => ?_)
  cases hb1
  exact ⟨_, Frz.refl _, hx5.pick [0, 1, 2, 3] (by decide) rfl, ha.cut (l := [2, 3, 4, 5, 16]) rfl⟩
 refine a1e 12 rfl hb7 ?_
 refine a0k ag24 sz24 rfl rfl hx5 rfl (i := 2) rfl rfl ?_
 obtain ⟨v11, hv9, hb1⟩ := bind_some hb1
 refine a0g ent63 rfl rfl rfl rfl hx5 (a2l _ _ _ hv9 hx5.sat (hs2.mono hF1)) ?_
 rintro _ Fx15 _ wx26 hF15 hx30 ⟨rfl, rfl⟩
 refine a2x rfl rfl rfl (a0l rfl rfl rfl rfl (a0c ?_))
 refine a0p (fun a ha => ?_)
 cases hb1
 exact ⟨_, hF15, hx30.pick [0, 1, 2, 3] (by decide) rfl, ha.cut (l := [2, 3, 4, 5, 16]) rfl⟩
def a5l (n : Nat) (kont1 : (List Int) → Option (Big × Int)) : Nat → (List Int) → (List Int) → Option (Big × Int)
 | 0, _, _ => none
 | mx1 + 1, x1, y1 =>
  bif decide (0 < (y1.length : Int)) then
   (a7f n x1 y1).bind fun v4 =>
   a5l n kont1 mx1 y1 v4.2
  else
   kont1 x1
theorem b8t (n : Nat) (kont1 : (List Int) → Option (Big × Int)) (mx1 : Nat) (x1 : (List Int)) (y1 : (List Int)) : a5l n kont1 (mx1 + 1) x1 y1 =
  bif decide (0 < (y1.length : Int)) then
   (a7f n x1 y1).bind fun v4 =>
   a5l n kont1 mx1 y1 v4.2
  else
   kont1 x1 := rfl
def b0i (n : Nat) (ax1 : Big) (b1 : Big) : Option (Big × Int) :=
 (a2i n ax1).bind fun v1 =>
 (bif !v1 then
  some true
 else
  (a2i n b1).bind fun v5 =>
  some (!v5)).bind fun v2 =>
 bif v2 then
  some ((⟨0, []⟩ : Big), 1)
 else
  a5l n (fun (x2 : (List Int)) =>
   (a1t n 1 x2).bind fun v3 =>
   some (v3, 0)) n ax1.Digits b1.Digits
set_option maxHeartbeats 1000000 in
set_option maxRecDepth 1000000 in
theorem b5x (n : Nat) (ax1 : Big) (b1 : Big) (r : (Big × Int)) (hm : b0i n ax1 b1 = some r) {w : World} {F : Frz} (hs : Sat F w) {as1 : Option Addr} {ns1 : Nat} {cs1 : Nat} {as2 : Option Addr} {ns2 : Nat} {cs2 : Nat} (hs1 : SlR (Rp.int .i64) F as1 ns1 cs1 ax1.Digits) (hs2 : SlR (Rp.int .i64) F as2 ns2 cs2 b1.Digits) :
  Calls Tryz.prog 65 #[.agg #[.int .i64 ax1.Sign, .slice as1 ns1 cs1], .agg #[.int .i64 b1.Sign, .slice as2 ns2 cs2]] w fun e w' => ∃ v F' O', e = .returned v ∧ HS F w [] F' O' w' ∧ (∃ (a0_1 : Option Addr) (n0_1 : Nat) (c0_1 : Nat), v = .tuple #[.agg #[.int .i64 r.1.Sign, .slice a0_1 n0_1 c0_1], .int .i64 r.2] ∧ O' = [] ∧ SlR (Rp.int .i64) F' a0_1 n0_1 c0_1 r.1.Digits) := by
 unfold b0i at hm
 have h := HS.init hs
 refine a0x 36 Tryz.func65 rfl rfl rfl ?_
 refine a0f (a0a ?_)
 refine a2o rfl rfl rfl rfl h ?_
 intro b2 wx1 hx1
 refine a2o rfl rfl rfl rfl hx1 ?_
 intro b3 wx2 hx2
 refine a0y ze24 rfl rfl rfl hx2 ?_
 intro b4 wx3 hx3
 refine a0b rfl rfl rfl (a0c (a0d (a0f (a0f (a0a ?_)))))
 refine a0k ag24 sz24 rfl rfl hx3 rfl (i := 2) rfl rfl ?_
 obtain ⟨v1, hv1, hm⟩ := bind_some hm
 refine a0g ent63 rfl rfl rfl rfl hx3 (a2l _ _ _ hv1 hx3.sat hs1) ?_
 rintro _ Fx1 _ wx4 hF1 hx4 ⟨rfl, rfl⟩
 refine a2x rfl rfl rfl (a0e rfl rfl rfl ?_)
 obtain ⟨v2, hb1, hm⟩ := bind_some hm
 refine a2k 4 (fun a w' => ∃ (Fx2 : Frz), Frz.le Fx1 Fx2 ∧ HS F w [] Fx2 [.box b4 24 [.int .i64 0, .slice none 0 0], .box b3 24 [.int .i64 b1.Sign, .slice as2 ns2 cs2], .box b2 24 [.int .i64 ax1.Sign, .slice as1 ns1 cs1]] w' ∧ Has 36 a [(2, .pointer (some ⟨b2, 0, none⟩)), (3, .pointer (some ⟨b3, 0, none⟩)), (4, .pointer (some ⟨b4, 0, none⟩)), (17, .bool v2)]) ?_ ?_
 ·rintro a wx5 ⟨Fx2, hF2, hx5, hax1⟩
  refine a1a hax1 ?_
  refine a0c (a0d ?_)
  rcases a0i hm with ⟨hb2, hm⟩ | ⟨hb2, hm⟩
  ·refine a0u 17 rfl hb2 ?_
   refine a0z rfl (a0f (a0a ?_))
   refine a1r (v := .agg #[.int .i64 0, .slice none 0 0]) rfl rfl rfl (fun _ => by kernel_rfl) ?_
   refine a0o sz24 rfl hx5 rfl rfl rfl rfl (i := 0) rfl rfl rfl rfl ?_
   intro wx6 hx6
   refine a0b rfl rfl rfl (a0c (a0d (a1d (a0n ?_))))
   refine a1k (vl := [.agg #[.int .i64 0, .slice none 0 0], .int .i64 1]) rfl ⟨a1q ag24 sz24 rfl hx6 rfl (i := 0) rfl, a1w rfl, trivial⟩ (by simp) ?_
   obtain rfl := Option.some.inj hm
   exact ⟨_, _, _, rfl, hx6.pick [] (by decide) rfl, none, 0, 0, rfl, rfl, SlR.nil _ _⟩
  refine a0u 17 rfl hb2 ?_
  refine a0s rfl (a1b (a0d (a0f (a0a ?_))))
  refine a0h fa24_1 rfl rfl rfl ?_
  refine a0t ag22 rfl rfl hx5 rfl (i := 2) rfl rfl ?_
  refine a0b rfl rfl rfl (a0c (a0d (a0f (a0a ?_))))
  refine a0h fa24_1 rfl rfl rfl ?_
  refine a0t ag22 rfl rfl hx5 rfl (i := 1) rfl rfl ?_
  refine a0b rfl rfl rfl (a0c (a0d (a0f (a1i ?_))))
  intro a hax4
  obtain ⟨kont1, hkont1⟩ : ∃ kont1 : (List Int) → Option (Big × Int), kont1 = (fun (x2 : (List Int)) =>
      (a1t n 1 x2).bind fun v3 =>
      some (v3, 0)) := ⟨_, rfl⟩
  replace hm : (fun m (s : (List Int) × (List Int)) => a5l n kont1 m s.1 s.2) n (ax1.Digits, b1.Digits) = some r := by rw [hkont1]; exact hm
  refine a5u (id := 0) (fun m (s : (List Int) × (List Int)) => a5l n kont1 m s.1 s.2) (fun (y : (List Int)) => kont1 y) r (fun (s : (List Int) × (List Int)) a w' => ∃ (Fx3 : Frz) (as3 : Option Addr) (ns3 : Nat) (cs3 : Nat) (as4 : Option Addr) (ns4 : Nat) (cs4 : Nat), Frz.le Fx2 Fx3 ∧ HS F w [] Fx3 [.box b4 24 [.int .i64 0, .slice none 0 0]] w' ∧ (SlR (Rp.int .i64) Fx3 as3 ns3 cs3 s.1) ∧ (SlR (Rp.int .i64) Fx3 as4 ns4 cs4 s.2) ∧ Has 36 a [(4, .pointer (some ⟨b4, 0, none⟩)), (6, .slice as3 ns3 cs3), (7, .slice as4 ns4 cs4)]) (fun (y : (List Int)) a w' => ∃ (Fx4 : Frz) (as5 : Option Addr) (ns5 : Nat) (cs5 : Nat), Frz.le Fx2 Fx4 ∧ HS F w [] Fx4 [.box b4 24 [.int .i64 0, .slice none 0 0]] w' ∧ (SlR (Rp.int .i64) Fx4 as5 ns5 cs5 y) ∧ Has 36 a [(4, .pointer (some ⟨b4, 0, none⟩)), (6, .slice as5 ns5 cs5)]) (fun _ => rfl) ?_ ?_ hm ⟨_, as1, ns1, cs1, as2, ns2, cs2, Frz.refl _, hx5.pick [0] (by decide) rfl, ((hs1.mono hF1).mono hF2), ((hs2.mono hF1).mono hF2), hax4.cut (l := [4, 6, 7]) rfl⟩
  ·clear hm; rintro x2 a wx7 hm ⟨Fx4, as5, ns5, cs5, hF4, hx8, hs5, hax2⟩
   rw [hkont1] at hm
   replace hm := hm
   refine a2d (e := .exit 0) hax2 ?_
   refine a1j (a0d (a0f (a0a (a0e rfl rfl rfl ?_))))
   obtain ⟨v3, hv2, hm⟩ := bind_some hm
   refine a0g ent83 rfl rfl rfl rfl hx8 (a3n _ _ _ _ hv2 hx8.sat hs5) ?_
   rintro _ Fx5 _ wx8 hF5 hx9 ⟨as6, ns6, cs6, rfl, rfl, hs6⟩
   refine a0o sz24 rfl hx9 rfl rfl rfl rfl (i := 0) rfl rfl rfl rfl ?_
   intro wx9 hx10
   refine a0b rfl rfl rfl (a0c (a0d (a1d ?_)))
   refine a1k (vl := [.agg #[.int .i64 v3.Sign, .slice as6 ns6 cs6], .int .i64 0]) rfl ⟨a1q ag24 sz24 rfl hx10 rfl (i := 0) rfl, a1w rfl, trivial⟩ (by simp) ?_
   obtain rfl := Option.some.inj hm
   exact ⟨_, _, _, rfl, hx10.pick [] (by decide) rfl, as6, ns6, cs6, rfl, rfl, hs6⟩
  clear hm hkont1; intro hk1 mx1 K ihx1
  rintro ⟨x1, y1⟩ a wx10 hm ⟨Fx3, as3, ns3, cs3, as4, ns4, cs4, hF3, hx7, hs3, hs4, hax3⟩
  simp only [b8t] at hm
  refine a1l hax3 ?_
  refine a0f (a0f (a0a (a0e rfl rfl rfl ?_)))
  refine a1z hs4.len u22 rfl rfl rfl ?_
  refine a0v rfl rfl rfl rfl rfl ?_
  refine a0c (a0d ?_)
  rcases a0i hm with ⟨hb3, hm⟩ | ⟨hb3, hm⟩
  ·refine a0u 25 rfl hb3 ?_
   refine a0z rfl (a1b (a0d (a1i (a0f (a0a (a0e rfl rfl rfl (a0e rfl rfl rfl ?_)))))))
   obtain ⟨v4, hv3, hm⟩ := bind_some hm
   refine a0g ent94 rfl rfl rfl rfl hx7 (b5a _ _ _ _ hv3 hx7.sat hs3 hs4) ?_
   rintro _ Fx6 _ wx11 hF6 hx11 ⟨as7, ns7, cs7, xss7, as8, ns8, cs8, rfl, rfl, hs7, hs8⟩
   refine a0e rfl rfl rfl (a0j rfl rfl rfl rfl (a0j rfl rfl rfl rfl (a0b rfl rfl rfl (a0b rfl rfl rfl (a0c (a0d (a0f (a0a (a0e rfl rfl rfl (a0b rfl rfl rfl (a0c (a0d (a0a (a0e rfl rfl rfl (a0b rfl rfl rfl (a0c (a2a ?_)))))))))))))))))
   refine a0p (fun a ha => ihx1 (y1, v4.2) a _ hm ?_)
   exact ⟨_, as4, ns4, cs4, as8, ns8, cs8, (hF3.trans hF6), hx11.pick [1] (by decide) rfl, (hs4.mono hF6), hs8, ha.cut (l := [4, 6, 7]) rfl⟩
  refine a0u 25 rfl hb3 ?_
  refine a0s rfl (a3l (a0q (a0q ?_)))
  refine fun a ha => hk1 x1 a _ hm ?_
  exact ⟨_, as3, ns3, cs3, hF3, hx7.pick [0] (by decide) rfl, hs3, ha.cut (l := [4, 6]) rfl⟩
 clear hm
 rcases a0i hb1 with ⟨hb4, hb1⟩ | ⟨hb4, hb1⟩
 ·refine a1e 13 rfl hb4 ?_
  refine a0r rfl (by decide) rfl (a0r rfl (by decide) rfl (a0r rfl (by decide) rfl (a0m rfl rfl rfl rfl (a0c ?_))))
  refine a0p (fun a ha => ?_)
  cases hb1
  exact ⟨_, Frz.refl _, hx4.pick [0, 1, 2] (by decide) rfl, ha.cut (l := [2, 3, 4, 17]) rfl⟩
 refine a1e 13 rfl hb4 ?_
 refine a0k ag24 sz24 rfl rfl hx4 rfl (i := 1) rfl rfl ?_
 obtain ⟨v5, hv4, hb1⟩ := bind_some hb1
 refine a0g ent63 rfl rfl rfl rfl hx4 (a2l _ _ _ hv4 hx4.sat (hs2.mono hF1)) ?_
 rintro _ Fx7 _ wx12 hF7 hx12 ⟨rfl, rfl⟩
 refine a2x rfl rfl rfl (a0l rfl rfl rfl rfl (a0c ?_))
 refine a0p (fun a ha => ?_)
 cases hb1
 exact ⟨_, hF7, hx12.pick [0, 1, 2] (by decide) rfl, ha.cut (l := [2, 3, 4, 17]) rfl⟩
def a4j (n : Nat) (l1 : (List Int)) (kont1 : Int → (List Int) → Option ((List Int) × Int)) : Nat → Int → Int → (List Int) → Option ((List Int) × Int)
 | 0, _, _, _ => none
 | mx1 + 1, rx1, i1, l3 =>
  bif decide (0 ≤ i1) then
   (ix l1 i1).bind fun ex1 =>
   (quo .i64 (iadd .i64 (imul .i64 rx1 1048576) ex1) 10).bind fun q1 =>
   (ix l3 i1).bind fun _ =>
   (lset l3 i1 q1).bind fun l5 =>
   (rem (iadd .i64 (imul .i64 rx1 1048576) ex1) 10).bind fun q2 =>
   a4j n l1 kont1 mx1 q2 (isub .i64 i1 1) l5
  else
   kont1 rx1 l3
theorem b6d (n : Nat) (l1 : (List Int)) (kont1 : Int → (List Int) → Option ((List Int) × Int)) (mx1 : Nat) (rx1 : Int) (i1 : Int) (l3 : List Int) : a4j n l1 kont1 (mx1 + 1) rx1 i1 l3 =
  bif decide (0 ≤ i1) then
   (ix l1 i1).bind fun ex1 =>
   (quo .i64 (iadd .i64 (imul .i64 rx1 1048576) ex1) 10).bind fun q1 =>
   (ix l3 i1).bind fun _ =>
   (lset l3 i1 q1).bind fun l5 =>
   (rem (iadd .i64 (imul .i64 rx1 1048576) ex1) 10).bind fun q2 =>
   a4j n l1 kont1 mx1 q2 (isub .i64 i1 1) l5
  else
   kont1 rx1 l3 := rfl
def a8q (n : Nat) (l1 : (List Int)) : Option ((List Int) × Int) :=
 (mks 8 0 (l1.length : Int)).bind fun l2 =>
 a4j n l1 (fun (rx2 : Int) (l4 : List Int) =>
  (a1o n l4).bind fun v1 =>
  some (v1, rx2)) n 0 (isub .i64 (l1.length : Int) 1) l2
set_option maxHeartbeats 1000000 in
set_option maxRecDepth 1000000 in
theorem b8u (n : Nat) (l1 : (List Int)) (r : ((List Int) × Int)) (hm : a8q n l1 = some r) {w : World} {F : Frz} (hs : Sat F w) {as1 : Option Addr} {ns1 : Nat} {cs1 : Nat} (hs1 : SlR (Rp.int .i64) F as1 ns1 cs1 l1) :
  Calls Tryz.prog 104 #[.slice as1 ns1 cs1] w fun e w' => ∃ v F' O', e = .returned v ∧ HS F w [] F' O' w' ∧ (∃ (a0_0 : Option Addr) (n0_0 : Nat) (c0_0 : Nat) (xs0_0 : List Value), v = .tuple #[.slice a0_0 n0_0 c0_0, .int .i64 r.2] ∧ O' = [.row 3 1 a0_0 n0_0 c0_0 xs0_0] ∧ RowN (Rp.int .i64) F' n0_0 xs0_0 r.1) := by
 unfold a8q at hm
 have h := HS.init hs
 refine a0x 34 Tryz.func104 rfl rfl rfl ?_
 refine a0f (a0a (a0b rfl rfl rfl (a0b rfl rfl rfl (a0c (a0d (a0f (a0a (a0e rfl rfl rfl ?_))))))))
 refine a1z hs1.len u22 rfl rfl rfl ?_
 obtain ⟨l2, hl1, hm⟩ := bind_some hm
 refine b6x (r := (Rp.int .i64)) ap22 zi3 (fun _ => rfl) rfl rfl rfl h rfl rfl hl1 ?_
 intro b1 wx1 xs1 hx1 hr1
 refine a0b rfl rfl rfl (a0c (a0d (a0f (a0a (a0b rfl rfl rfl (a0c (a0d (a0f (a0f (a0a (a0e rfl rfl rfl ?_)))))))))))
 refine a1z hs1.len u22 rfl rfl rfl ?_
 refine a0v rfl rfl rfl rfl rfl ?_
 refine a0b rfl rfl rfl (a0c (a0d (a1i ?_)))
 intro a hax4
 obtain ⟨kont1, hkont1⟩ : ∃ kont1 : Int → (List Int) → Option ((List Int) × Int), kont1 = (fun (rx2 : Int) (l4 : List Int) =>
       (a1o n l4).bind fun v1 =>
       some (v1, rx2)) := ⟨_, rfl⟩
 replace hm : (fun m (s : Int × Int × List Int) => a4j n l1 kont1 m s.1 s.2.1 s.2.2) n (0, (isub .i64 (l1.length : Int) 1), l2) = some r := by rw [hkont1]; exact hm
 refine a5u (id := 0) (fun m (s : Int × Int × List Int) => a4j n l1 kont1 m s.1 s.2.1 s.2.2) (fun (y : Int × List Int) => kont1 y.1 y.2) r (fun (s : Int × Int × List Int) a w' => ∃ (Fx1 : Frz) (as2 : Option Addr) (ns2 : Nat) (cs2 : Nat) (xss2 : List Value), Frz.le F Fx1 ∧ HS F w [] Fx1 [.row 3 1 as2 ns2 cs2 xss2] w' ∧ (RowN (Rp.int .i64) Fx1 ns2 xss2 s.2.2) ∧ Has 34 a [(0, .slice as1 ns1 cs1), (4, .slice as2 ns2 cs2), (5, .int .i64 s.1), (6, .int .i64 s.2.1)]) (fun (y : Int × List Int) a w' => ∃ (Fx2 : Frz) (as3 : Option Addr) (ns3 : Nat) (cs3 : Nat) (xss3 : List Value), Frz.le F Fx2 ∧ HS F w [] Fx2 [.row 3 1 as3 ns3 cs3 xss3] w' ∧ (RowN (Rp.int .i64) Fx2 ns3 xss3 y.2) ∧ Has 34 a [(4, .slice as3 ns3 cs3), (5, .int .i64 y.1)]) (fun _ => rfl) ?_ ?_ hm ⟨_, (some ⟨b1, 0, none⟩), ((l1.length : Int).toNat), ((l1.length : Int).toNat), xs1, Frz.refl _, hx1.pick [0] (by decide) rfl, hr1, hax4.cut (l := [0, 4, 5, 6]) rfl⟩
 ·clear hm; rintro ⟨rx2, l4⟩ a wx2 hm ⟨Fx2, as3, ns3, cs3, xss3, hF2, hx3, hs3, hax1⟩
  rw [hkont1] at hm
  replace hm := hm
  refine a2d (e := .exit 0) hax1 ?_
  refine a1j (a0d (a0f (a0a (a0e rfl rfl rfl ?_))))
  obtain ⟨Fx3, hF3, hx4, hsx1⟩ := a1g hx3 (i := 0) rfl hs3
  obtain ⟨v1, hv1, hm⟩ := bind_some hm
  refine a0g ent92 rfl rfl rfl rfl hx4 (a4c _ _ _ hv1 hx4.sat hsx1) ?_
  rintro _ Fx4 _ wx3 hF4 hx5 ⟨as4, ns4, cs4, xss4, rfl, rfl, hs4⟩
  refine a0e rfl rfl rfl (a0b rfl rfl rfl (a0b rfl rfl rfl (a0c (a0d (a1d ?_)))))
  refine a1k (vl := [.slice as4 ns4 cs4, .int .i64 rx2]) rfl ⟨a1w rfl, a1w rfl, trivial⟩ (by simp) ?_
  obtain rfl := Option.some.inj hm
  exact ⟨_, _, _, rfl, hx5.pick [0] (by decide) rfl, as4, ns4, cs4, xss4, rfl, rfl, hs4⟩
 clear hm hkont1; intro hk1 mx1 K ihx1
 rintro ⟨rx1, i1, l3⟩ a wx4 hm ⟨Fx1, as2, ns2, cs2, xss2, hF1, hx2, hs2, hax2⟩
 simp only [b6d] at hm
 refine a1l hax2 ?_
 refine a0f (a0f (a0a (a0e rfl rfl rfl ?_)))
 refine a0v rfl rfl rfl rfl rfl ?_
 refine a0c (a0d ?_)
 rcases a0i hm with ⟨hb1, hm⟩ | ⟨hb1, hm⟩
 ·refine a0u 14 rfl hb1 ?_
  refine a0z rfl (a1b (a0d (a0f (a1i (a0f (a0a (a0e rfl rfl rfl ?_)))))))
  refine a0v rfl rfl rfl rfl rfl ?_
  refine a0e rfl rfl rfl (a0e rfl rfl rfl ?_)
  obtain ⟨ex1, he1, hm⟩ := bind_some hm
  refine a3w (r := (Rp.int .i64)) u22 sz3 rfl rfl rfl rfl (hs1.mono hF1) he1 ?_
  intro b2 o1 cs1 hf1 hr2
  have hc1 : cs1 = [.int .i64 ex1] := hr2
  subst hc1
  refine a2h (j := 0) ag3 rfl rfl hx2 hf1 rfl rfl ?_
  refine a0v rfl rfl rfl rfl rfl ?_
  refine a0b rfl rfl rfl (a0c (a0d (a0f (a0a (a0e rfl rfl rfl (a0e rfl rfl rfl (a0e rfl rfl rfl ?_)))))))
  obtain ⟨q1, hq1, hm⟩ := bind_some hm
  refine c2b rfl rfl rfl rfl hq1 ?_
  obtain ⟨ex2, he2, hm⟩ := bind_some hm
  refine a5h (r := (Rp.int .i64)) u22 sz3 rfl rfl hx2 rfl rfl (p := 0) rfl rfl hs2 he2 ?_
  intro b3 o2 cs2 hax3 ho1 hr3 hp1
  have hc2 : cs2 = [.int .i64 ex2] := hr3
  subst hc2
  obtain ⟨l5, hl2, hm⟩ := bind_some hm
  refine a4r (r := (Rp.int .i64)) sz3 rfl hx2 rfl rfl rfl rfl rfl (p := 0) rfl rfl hax3 ho1 hs2 rfl rfl hl2 ?_
  intro wx5 xs2 hx6 hr4
  refine a0c (a0d (a0a (a0e rfl rfl rfl ?_)))
  obtain ⟨q2, hq2, hm⟩ := bind_some hm
  refine c3i rfl rfl rfl rfl hq2 ?_
  refine a0b rfl rfl rfl (a0c (a2a (a0d (a0a (a0e rfl rfl rfl ?_)))))
  refine a0v rfl rfl rfl rfl rfl ?_
  refine a0b rfl rfl rfl (a0c ?_)
  refine a0p (fun a ha => ihx1 (q2, (isub .i64 i1 1), l5) a _ hm ?_)
  exact ⟨_, as2, ns2, cs2, xs2, hF1, hx6.pick [0] (by decide) rfl, hr4, ha.cut (l := [0, 4, 5, 6]) rfl⟩
 refine a0u 14 rfl hb1 ?_
 refine a0s rfl (a3l (a0q (a0q ?_)))
 refine fun a ha => hk1 (rx1, l3) a _ hm ?_
 exact ⟨_, as2, ns2, cs2, xss2, hF1, hx2.pick [0] (by decide) rfl, hs2, ha.cut (l := [4, 5]) rfl⟩
theorem ent104 : Ent Tryz.prog 104 := fun _ _ => by kernel_rfl
def a4g (n : Nat) (kont1 : Bs → Option Bs) : Nat → Bs → (List Int) → Option Bs
 | 0, _, _ => none
 | mx1 + 1, s2, l1 =>
  bif decide (0 < (l1.length : Int)) then
   (a8q n l1).bind fun v2 =>
   (ssl [48, 49, 50, 51, 52, 53, 54, 55, 56, 57] v2.2 (iadd .i64 v2.2 1)).bind fun t2 =>
   (scat t2 s2).bind fun t3 =>
   a4g n kont1 mx1 t3 v2.1
  else
   kont1 s2
theorem b7y (n : Nat) (kont1 : Bs → Option Bs) (mx1 : Nat) (s2 : Bs) (l1 : (List Int)) : a4g n kont1 (mx1 + 1) s2 l1 =
  bif decide (0 < (l1.length : Int)) then
   (a8q n l1).bind fun v2 =>
   (ssl [48, 49, 50, 51, 52, 53, 54, 55, 56, 57] v2.2 (iadd .i64 v2.2 1)).bind fun t2 =>
   (scat t2 s2).bind fun t3 =>
   a4g n kont1 mx1 t3 v2.1
  else
   kont1 s2 := rfl
def a9o (n : Nat) (ax1 : Big) : Option Bs :=
 (a2i n ax1).bind fun v1 =>
 bif !v1 then
  some []
 else
  bif ax1.Sign == 0 then
   some [48]
  else
   a4g n (fun (s4 : Bs) =>
    bif decide (ax1.Sign < 0) then
     (scat [45] s4).bind fun t1 =>
     some t1
    else
     some s4) n [] ax1.Digits
set_option maxHeartbeats 1000000 in
set_option maxRecDepth 1000000 in
theorem b4r (n : Nat) (ax1 : Big) (r : Bs) (hm : a9o n ax1 = some r) {w : World} {F : Frz} (hs : Sat F w) {as1 : Option Addr} {ns1 : Nat} {cs1 : Nat} (hs1 : SlR (Rp.int .i64) F as1 ns1 cs1 ax1.Digits) :
  Calls Tryz.prog 74 #[.agg #[.int .i64 ax1.Sign, .slice as1 ns1 cs1]] w fun e w' => ∃ v F' O', e = .returned v ∧ HS F w [] F' O' w' ∧ (v = vs r ∧ O' = []) := by
 unfold a9o at hm
 have h := HS.init hs
 refine a0x 36 Tryz.func74 rfl rfl rfl ?_
 refine a0f (a0a ?_)
 refine a2o rfl rfl rfl rfl h ?_
 intro b1 wx1 hx1
 refine a0b rfl rfl rfl (a0c (a0d (a0f (a0f (a0a ?_)))))
 refine a0k ag24 sz24 rfl rfl hx1 rfl (i := 0) rfl rfl ?_
 obtain ⟨v1, hv1, hm⟩ := bind_some hm
 refine a0g ent63 rfl rfl rfl rfl hx1 (a2l _ _ _ hv1 hx1.sat hs1) ?_
 rintro _ Fx1 _ wx2 hF1 hx2 ⟨rfl, rfl⟩
 refine a2x rfl rfl rfl (a0c (a0d ?_))
 rcases a0i hm with ⟨hb1, hm⟩ | ⟨hb1, hm⟩
 ·refine a0u 9 rfl hb1 ?_
  refine a0z rfl (a0f (a0a (a0b rfl rfl rfl (a0c (a0d (a1d (a0n ?_)))))))
  refine a1p rfl rfl ?_
  obtain rfl := Option.some.inj hm
  exact ⟨_, _, _, rfl, hx2.pick [] (by decide) rfl, rfl, rfl⟩
 refine a0u 9 rfl hb1 ?_
 refine a0s rfl (a1b (a0d (a0f (a0f (a0a ?_)))))
 refine a0h fa24_0 rfl rfl rfl ?_
 refine a0t ag3 rfl rfl hx2 rfl (i := 0) rfl rfl ?_
 refine a0v rfl rfl rfl rfl rfl ?_
 refine a0c (a0d ?_)
 rcases a0i hm with ⟨hb2, hm⟩ | ⟨hb2, hm⟩
 ·refine a0u 12 rfl hb2 ?_
  refine a0z rfl (a0f (a0a (a0b rfl rfl rfl (a0c (a0d (a1d (a0n ?_)))))))
  refine a1p rfl rfl ?_
  obtain rfl := Option.some.inj hm
  exact ⟨_, _, _, rfl, hx2.pick [] (by decide) rfl, rfl, rfl⟩
 refine a0u 12 rfl hb2 ?_
 refine a0s rfl (a1b (a0d (a0f (a0a (a0b rfl rfl rfl (a0c (a0d (a0f (a0a ?_)))))))))
 refine a0h fa24_1 rfl rfl rfl ?_
 refine a0t ag22 rfl rfl hx2 rfl (i := 0) rfl rfl ?_
 refine a0b rfl rfl rfl (a0c (a0d (a0f (a1i ?_))))
 intro a hax3
 obtain ⟨kont1, hkont1⟩ : ∃ kont1 : Bs → Option Bs, kont1 = (fun (s4 : Bs) =>
     bif decide (ax1.Sign < 0) then
      (scat [45] s4).bind fun t1 =>
      some t1
     else
      some s4) := ⟨_, rfl⟩
 replace hm : (fun m (s : Bs × (List Int)) => a4g n kont1 m s.1 s.2) n ([], ax1.Digits) = some r := by rw [hkont1]; exact hm
 refine a5u (id := 0) (fun m (s : Bs × (List Int)) => a4g n kont1 m s.1 s.2) (fun (y : Bs) => kont1 y) r (fun (s : Bs × (List Int)) a w' => ∃ (Fx2 : Frz) (as3 : Option Addr) (ns3 : Nat) (cs3 : Nat), Frz.le Fx1 Fx2 ∧ HS F w [] Fx2 [.box b1 24 [.int .i64 ax1.Sign, .slice as1 ns1 cs1]] w' ∧ (SlR (Rp.int .i64) Fx2 as3 ns3 cs3 s.2) ∧ Has 36 a [(1, .pointer (some ⟨b1, 0, none⟩)), (3, vs s.1), (4, .slice as3 ns3 cs3)]) (fun (y : Bs) a w' => ∃ (Fx3 : Frz), Frz.le Fx1 Fx3 ∧ HS F w [] Fx3 [.box b1 24 [.int .i64 ax1.Sign, .slice as1 ns1 cs1]] w' ∧ Has 36 a [(1, .pointer (some ⟨b1, 0, none⟩)), (3, vs y)]) (fun _ => rfl) ?_ ?_ hm ⟨_, as1, ns1, cs1, Frz.refl _, hx2.pick [0] (by decide) rfl, (hs1.mono hF1), hax3.cut (l := [1, 3, 4]) rfl⟩
 ·clear hm; rintro s4 a wx3 hm ⟨Fx3, hF3, hx4, hax1⟩
  rw [hkont1] at hm
  replace hm := hm
  refine a2d (e := .exit 0) hax1 ?_
  refine a1j (a0d (a0f (a0f (a0a ?_))))
  refine a0h fa24_0 rfl rfl rfl ?_
  refine a0t ag3 rfl rfl hx4 rfl (i := 0) rfl rfl ?_
  refine a0v rfl rfl rfl rfl rfl ?_
  refine a0c (a0d ?_)
  rcases a0i hm with ⟨hb3, hm⟩ | ⟨hb3, hm⟩
  ·refine a0u 32 rfl hb3 ?_
   refine a0z rfl (a0f (a0a (a0e rfl rfl rfl ?_)))
   obtain ⟨t1, hq1, hm⟩ := bind_some hm
   refine c1k rfl rfl rfl rfl hq1 ?_
   refine a0b rfl rfl rfl (a0c (a0d (a1d (a0n ?_))))
   refine a1p rfl rfl ?_
   obtain rfl := Option.some.inj hm
   exact ⟨_, _, _, rfl, hx4.pick [] (by decide) rfl, rfl, rfl⟩
  refine a0u 32 rfl hb3 ?_
  refine a0s rfl (a1b (a0d (a0f (a0a (a0e rfl rfl rfl (a0b rfl rfl rfl (a0c (a0d (a1d ?_)))))))))
  refine a1p rfl rfl ?_
  obtain rfl := Option.some.inj hm
  exact ⟨_, _, _, rfl, hx4.pick [] (by decide) rfl, rfl, rfl⟩
 clear hm hkont1; intro hk1 mx1 K ihx1
 rintro ⟨s2, l1⟩ a wx4 hm ⟨Fx2, as3, ns3, cs3, hF2, hx3, hs3, hax2⟩
 simp only [b7y] at hm
 refine a1l hax2 ?_
 refine a0f (a0f (a0a (a0e rfl rfl rfl ?_)))
 refine a1z hs3.len u22 rfl rfl rfl ?_
 refine a0v rfl rfl rfl rfl rfl ?_
 refine a0c (a0d ?_)
 rcases a0i hm with ⟨hb4, hm⟩ | ⟨hb4, hm⟩
 ·refine a0u 17 rfl hb4 ?_
  refine a0z rfl (a1b (a0d (a1i (a0f (a0a (a0e rfl rfl rfl ?_))))))
  obtain ⟨v2, hv2, hm⟩ := bind_some hm
  refine a0g ent104 rfl rfl rfl rfl hx3 (b8u _ _ _ hv2 hx3.sat hs3) ?_
  rintro _ Fx4 _ wx5 hF4 hx5 ⟨as5, ns5, cs5, xss5, rfl, rfl, hs5⟩
  refine a0e rfl rfl rfl (a0j rfl rfl rfl rfl (a0j rfl rfl rfl rfl (a0b rfl rfl rfl (a0b rfl rfl rfl (a0c (a0d (a0f (a0a (a0e rfl rfl rfl (a0e rfl rfl rfl ?_))))))))))
  refine a0v rfl rfl rfl rfl rfl ?_
  obtain ⟨t2, hc1, hm⟩ := bind_some hm
  refine c7k u9 rfl rfl rfl rfl rfl hc1 ?_
  refine a0e rfl rfl rfl ?_
  obtain ⟨t3, hq2, hm⟩ := bind_some hm
  refine c1k rfl rfl rfl rfl hq2 ?_
  refine a0b rfl rfl rfl (a0c (a0d (a0a (a0e rfl rfl rfl (a0b rfl rfl rfl (a0c (a2a ?_)))))))
  obtain ⟨Fx5, hF5, hx6, hsx1⟩ := a1g hx5 (i := 0) rfl hs5
  refine a0p (fun a ha => ihx1 (t3, v2.1) a _ hm ?_)
  exact ⟨_, as5, ns5, cs5, ((hF2.trans hF4).trans hF5), hx6.pick [0] (by decide) rfl, hsx1, ha.cut (l := [1, 3, 4]) rfl⟩
 refine a0u 17 rfl hb4 ?_
 refine a0s rfl (a3l (a0q (a0q ?_)))
 refine fun a ha => hk1 s2 a _ hm ?_
 exact ⟨_, hF2, hx3.pick [0] (by decide) rfl, ha.cut (l := [1, 3]) rfl⟩
def a3m (n : Nat) (t1 : Bs) (kont1 : (List Int) → Option (Big × Int)) : Nat → (List Int) → Int → Option (Big × Int)
 | 0, _, _ => none
 | mx1 + 1, l1, i2 =>
  bif decide (i2 < (t1.length : Int)) then
   (sidx t1 i2).bind fun c1 =>
   (a2v n l1 [10]).bind fun v4 =>
   (a1o n [IntKind.i64.wrap (isub .u8 c1 48)]).bind fun v5 =>
   (a4m n v4 v5).bind fun v6 =>
   a3m n t1 kont1 mx1 v6 (iadd .i64 i2 1)
  else
   kont1 l1
theorem b0o (n : Nat) (t1 : Bs) (kont1 : (List Int) → Option (Big × Int)) (mx1 : Nat) (l1 : (List Int)) (i2 : Int) : a3m n t1 kont1 (mx1 + 1) l1 i2 =
  bif decide (i2 < (t1.length : Int)) then
   (sidx t1 i2).bind fun c1 =>
   (a2v n l1 [10]).bind fun v4 =>
   (a1o n [IntKind.i64.wrap (isub .u8 c1 48)]).bind fun v5 =>
   (a4m n v4 v5).bind fun v6 =>
   a3m n t1 kont1 mx1 v6 (iadd .i64 i2 1)
  else
   kont1 l1 := rfl
def a4t (n : Nat) (t1 : Bs) (kont2 : Option (Big × Int)) : Nat → Int → Option (Big × Int)
 | 0, _ => none
 | mx2 + 1, i1 =>
  bif decide (i1 < (t1.length : Int)) then
   (sidx t1 i1).bind fun c2 =>
   (bif decide (c2 < 48) then
    some true
   else
    (sidx t1 i1).bind fun c3 =>
    some (decide (57 < c3))).bind fun v7 =>
   bif v7 then
    some ((⟨0, []⟩ : Big), 2)
   else
    a4t n t1 kont2 mx2 (iadd .i64 i1 1)
  else
   kont2
theorem a9z (n : Nat) (t1 : Bs) (kont2 : Option (Big × Int)) (mx2 : Nat) (i1 : Int) : a4t n t1 kont2 (mx2 + 1) i1 =
  bif decide (i1 < (t1.length : Int)) then
   (sidx t1 i1).bind fun c2 =>
   (bif decide (c2 < 48) then
    some true
   else
    (sidx t1 i1).bind fun c3 =>
    some (decide (57 < c3))).bind fun v7 =>
   bif v7 then
    some ((⟨0, []⟩ : Big), 2)
   else
    a4t n t1 kont2 mx2 (iadd .i64 i1 1)
  else
   kont2 := rfl
def a3r (n : Nat) (s1 : Bs) : Option (Big × Int) :=
 (bif decide (0 < (s1.length : Int)) then
  (sidx s1 0).bind fun c5 =>
  some (c5 == 45)
 else
  some false).bind fun v1 =>
 (bif v1 then
  (ssl s1 1 s1.length).bind fun t2 =>
  some ((-1), t2)
 else
  some (1, s1)).bind fun (sign1, t1) =>
 (bif t1 == [] then
  some true
 else
  (sidx t1 0).bind fun c4 =>
  (bif c4 == 48 then
   some (!(s1 == [48]))
  else
   some false).bind fun v8 =>
  some v8).bind fun v2 =>
 bif v2 then
  some ((⟨0, []⟩ : Big), 2)
 else
  a4t n t1 (
   a3m n t1 (fun (l2 : (List Int)) =>
    (a1t n sign1 l2).bind fun v3 =>
    some (v3, 0)) n [] 0) n 0
set_option maxHeartbeats 1000000 in
set_option maxRecDepth 1000000 in
theorem b4s (n : Nat) (s1 : Bs) (r : (Big × Int)) (hm : a3r n s1 = some r) {w : World} {F : Frz} (hs : Sat F w)  :
  Calls Tryz.prog 59 #[vs s1] w fun e w' => ∃ v F' O', e = .returned v ∧ HS F w [] F' O' w' ∧ (∃ (a0_1 : Option Addr) (n0_1 : Nat) (c0_1 : Nat), v = .tuple #[.agg #[.int .i64 r.1.Sign, .slice a0_1 n0_1 c0_1], .int .i64 r.2] ∧ O' = [] ∧ SlR (Rp.int .i64) F' a0_1 n0_1 c0_1 r.1.Digits) := by
 unfold a3r at hm
 have h := HS.init hs
 refine a0x 69 Tryz.func59 rfl rfl rfl ?_
 refine a0f (a0a ?_)
 refine a0y ze24 rfl rfl rfl h ?_
 intro b1 wx1 hx1
 refine a0b rfl rfl rfl (a0c (a0d (a0f (a0a (a0b rfl rfl rfl (a0c (a0d (a0f (a0a (a0e rfl rfl rfl (a0b rfl rfl rfl (a0c (a0d (a0f (a0f (a0a (a0e rfl rfl rfl ?_)))))))))))))))))
 refine a8k u9 rfl rfl rfl ?_
 refine a0v rfl rfl rfl rfl rfl ?_
 refine a0e rfl rfl rfl ?_
 obtain ⟨v1, hb1, hm⟩ := bind_some hm
 refine a2k 4 (fun a w' => wx1 = w' ∧ Has 69 a [(0, vs s1), (2, .pointer (some ⟨b1, 0, none⟩)), (4, .int .i64 1), (5, vs s1), (17, .bool v1)]) ?_ ?_
 ·rintro a wx2 ⟨rfl, hax1⟩
  refine a1a hax1 ?_
  refine a0c (a0d ?_)
  obtain ⟨⟨sign1, t1⟩, hb2, hm⟩ := bind_some hm
  refine b0q (fun a w' => wx1 = w' ∧ Has 69 a [(0, vs s1), (2, .pointer (some ⟨b1, 0, none⟩)), (4, .int .i64 sign1), (5, vs t1)]) ?_ ?_
  ·rintro a wx3 ⟨rfl, hax2⟩
   refine a1l hax2 ?_
   refine a0f (a0f (a0a (a0e rfl rfl rfl ?_)))
   refine b2d rfl rfl rfl rfl rfl ?_
   refine a0e rfl rfl rfl ?_
   obtain ⟨v2, hb3, hm⟩ := bind_some hm
   refine a2k 8 (fun a w' => wx1 = w' ∧ Has 69 a [(2, .pointer (some ⟨b1, 0, none⟩)), (4, .int .i64 sign1), (5, vs t1), (30, .bool v2)]) ?_ ?_
   ·rintro a wx4 ⟨rfl, hax3⟩
    refine a1a hax3 ?_
    refine a0c (a0d ?_)
    rcases a0i hm with ⟨hb4, hm⟩ | ⟨hb4, hm⟩
    ·refine a0u 30 rfl hb4 ?_
     refine a0z rfl (a0f (a0a ?_))
     refine a1r (v := .agg #[.int .i64 0, .slice none 0 0]) rfl rfl rfl (fun _ => by kernel_rfl) ?_
     refine a0o sz24 rfl hx1 rfl rfl rfl rfl (i := 0) rfl rfl rfl rfl ?_
     intro wx5 hx2
     refine a0b rfl rfl rfl (a0c (a0d (a1d (a0n ?_))))
     refine a1k (vl := [.agg #[.int .i64 0, .slice none 0 0], .int .i64 2]) rfl ⟨a1q ag24 sz24 rfl hx2 rfl (i := 0) rfl, a1w rfl, trivial⟩ (by simp) ?_
     obtain rfl := Option.some.inj hm
     exact ⟨_, _, _, rfl, hx2.pick [] (by decide) rfl, none, 0, 0, rfl, rfl, SlR.nil _ _⟩
    refine a0u 30 rfl hb4 ?_
    refine a0s rfl (a1b (a0d (a0f (a0f (a0a (a0b rfl rfl rfl (a0c (a0d (a1i ?_)))))))))
    intro a hax10
    obtain ⟨kont2, hkont2⟩ : ∃ kont2 : Option (Big × Int), kont2 = (
      a3m n t1 (fun (l2 : (List Int)) =>
       (a1t n sign1 l2).bind fun v3 =>
       some (v3, 0)) n [] 0) := ⟨_, rfl⟩
    replace hm : (fun m (s : Int) => a4t n t1 kont2 m s) n 0 = some r := by rw [hkont2]; exact hm
    refine a5u (id := 0) (fun m (s : Int) => a4t n t1 kont2 m s) (fun (y : Unit) => kont2) r (fun (s : Int) a w' => wx1 = w' ∧ Has 69 a [(2, .pointer (some ⟨b1, 0, none⟩)), (4, .int .i64 sign1), (5, vs t1), (6, .int .i64 s)]) (fun (y : Unit) a w' => wx1 = w' ∧ Has 69 a [(2, .pointer (some ⟨b1, 0, none⟩)), (4, .int .i64 sign1), (5, vs t1)]) (fun _ => rfl) ?_ ?_ hm ⟨rfl, hax10.cut (l := [2, 4, 5, 6]) rfl⟩
    ·clear hm; rintro _u a wx6 hm ⟨rfl, hax4⟩
     rw [hkont2] at hm
     refine a2d (e := .exit 0) hax4 ?_
     refine a1j (a0d (a0f (a0a (a0b rfl rfl rfl (a0c (a0d (a0f (a0f (a0a (a0b rfl rfl rfl (a0c (a0d (a1i ?_)))))))))))))
     intro a hax7
     obtain ⟨kont1, hkont1⟩ : ∃ kont1 : (List Int) → Option (Big × Int), kont1 = (fun (l2 : (List Int)) =>
      (a1t n sign1 l2).bind fun v3 =>
      some (v3, 0)) := ⟨_, rfl⟩
     replace hm : (fun m (s : (List Int) × Int) => a3m n t1 kont1 m s.1 s.2) n ([], 0) = some r := by rw [hkont1]; exact hm
     refine a5u (id := 2) (fun m (s : (List Int) × Int) => a3m n t1 kont1 m s.1 s.2) (fun (y : (List Int)) => kont1 y) r (fun (s : (List Int) × Int) a w' => ∃ (Fx1 : Frz) (as2 : Option Addr) (ns2 : Nat) (cs2 : Nat), Frz.le F Fx1 ∧ HS F w [] Fx1 [.box b1 24 [.int .i64 0, .slice none 0 0]] w' ∧ (SlR (Rp.int .i64) Fx1 as2 ns2 cs2 s.1) ∧ Has 69 a [(2, .pointer (some ⟨b1, 0, none⟩)), (4, .int .i64 sign1), (5, vs t1), (7, .slice as2 ns2 cs2), (8, .int .i64 s.2)]) (fun (y : (List Int)) a w' => ∃ (Fx2 : Frz) (as3 : Option Addr) (ns3 : Nat) (cs3 : Nat), Frz.le F Fx2 ∧ HS F w [] Fx2 [.box b1 24 [.int .i64 0, .slice none 0 0]] w' ∧ (SlR (Rp.int .i64) Fx2 as3 ns3 cs3 y) ∧ Has 69 a [(2, .pointer (some ⟨b1, 0, none⟩)), (4, .int .i64 sign1), (7, .slice as3 ns3 cs3)]) (fun _ => rfl) ?_ ?_ hm ⟨_, none, 0, 0, Frz.refl _, hx1.pick [0] (by decide) rfl, SlR.nil _ _, hax7.cut (l := [2, 4, 5, 7, 8]) rfl⟩
     ·clear hm; rintro l2 a wx7 hm ⟨Fx2, as3, ns3, cs3, hF2, hx4, hs3, hax5⟩
      rw [hkont1] at hm
      replace hm := hm
      refine a2d (e := .exit 2) hax5 ?_
      refine a1j (a0d (a0f (a0a (a0e rfl rfl rfl (a0e rfl rfl rfl ?_)))))
      obtain ⟨v3, hv1, hm⟩ := bind_some hm
      refine a0g ent83 rfl rfl rfl rfl hx4 (a3n _ _ _ _ hv1 hx4.sat hs3) ?_
      rintro _ Fx3 _ wx8 hF3 hx5 ⟨as4, ns4, cs4, rfl, rfl, hs4⟩
      refine a0o sz24 rfl hx5 rfl rfl rfl rfl (i := 0) rfl rfl rfl rfl ?_
      intro wx9 hx6
      refine a0b rfl rfl rfl (a0c (a0d (a1d ?_)))
      refine a1k (vl := [.agg #[.int .i64 v3.Sign, .slice as4 ns4 cs4], .int .i64 0]) rfl ⟨a1q ag24 sz24 rfl hx6 rfl (i := 0) rfl, a1w rfl, trivial⟩ (by simp) ?_
      obtain rfl := Option.some.inj hm
      exact ⟨_, _, _, rfl, hx6.pick [] (by decide) rfl, as4, ns4, cs4, rfl, rfl, hs4⟩
     clear hm hkont1; intro hk1 mx1 K ihx1
     rintro ⟨l1, i2⟩ a wx10 hm ⟨Fx1, as2, ns2, cs2, hF1, hx3, hs2, hax6⟩
     simp only [b0o] at hm
     refine a1l hax6 ?_
     refine a0f (a0f (a0a (a0e rfl rfl rfl (a0e rfl rfl rfl ?_))))
     refine a8k u9 rfl rfl rfl ?_
     refine a0v rfl rfl rfl rfl rfl ?_
     refine a0c (a0d ?_)
     rcases a0i hm with ⟨hb5, hm⟩ | ⟨hb5, hm⟩
     ·refine a0u 52 rfl hb5 ?_
      refine a0z rfl (a1b (a0d (a0f (a1i ?_))))
      refine a2m (SH Fx1 [.box b1 24 [.int .i64 0, .slice none 0 0]]) 12 rfl (by kernel_rfl) hx3 ?_
      intro wx11 hx7
      refine d_tk 0 rfl (by kernel_rfl) rfl rfl rfl rfl (hx7.sh (Frz.refl _) [0] (by decide) rfl) (fun _ _ _ _ _ => a0e rfl rfl rfl (a0c (qq rfl))) ?_
      refine d_tk 3 rfl (by kernel_rfl) rfl rfl rfl rfl (hx7.sh (Frz.refl _) [0] (by decide) rfl) (fun _ _ _ _ _ => a0e rfl rfl rfl (a0c (qq rfl))) ?_
      refine d_tk 4 rfl (by kernel_rfl) rfl rfl rfl rfl (hx7.sh (Frz.refl _) [0] (by decide) rfl) (fun _ _ _ _ _ => a0e rfl rfl rfl (a0c (qq rfl))) ?_
      obtain ⟨c1, hc1, hm⟩ := bind_some hm
      refine d_tk 5 rfl (by kernel_rfl) rfl rfl rfl rfl (hx7.sh (Frz.refl _) [0] (by decide) rfl) (fun _ _ _ _ _ => b3y u9 rfl rfl rfl rfl hc1 (a0c (qq rfl))) ?_
      refine d_tk 6 rfl (by kernel_rfl) rfl rfl rfl rfl (hx7.sh (Frz.refl _) [0] (by decide) rfl) (fun _ _ _ _ _ => a0v rfl rfl rfl rfl rfl (a0c (qq rfl))) ?_
      refine d_tk 7 rfl (by kernel_rfl) rfl rfl rfl rfl (hx7.sh (Frz.refl _) [0] (by decide) rfl) (fun _ _ _ _ _ => b8h u5 u3 rfl rfl rfl (a0c (qq rfl))) ?_
      refine b8r 1 8 rfl rfl (by kernel_rfl) ?_ ?_
      ·refine a1x (e := 3) (cs := [.int .i64 10]) (q := 1) rfl rfl hx7 rfl (fun _ => by kernel_rfl) rfl rfl ?_
       intro b2 wx12 hx8
       refine a0w (hx8.sh (Frz.refl _) [1] (by decide) rfl) ?_
       refine b8r 2 8 rfl rfl (by kernel_rfl) ?_ ?_
       ·obtain ⟨Fx4, hF4, hx9, hsx1⟩ := a1g hx8 (i := 0) rfl ((show RowN (Rp.int .i64) Fx1 1 [.int .i64 10] [10] from ⟨rfl, ⟨_, _, rfl, rfl, (rfl : RowR (Rp.int .i64) _ [] [])⟩⟩))
        obtain ⟨v4, hv2, hm⟩ := bind_some hm
        refine a0g ent84 rfl rfl rfl rfl hx9 (a6i _ _ _ _ hv2 hx9.sat (hs2.mono hF4) hsx1) ?_
        rintro _ Fx5 _ wx13 hF5 hx10 ⟨as5, ns5, cs5, xss5, rfl, rfl, hs5⟩
        refine a0w (hx10.sh (hF4.trans hF5) [1] (by decide) rfl) ?_
        refine a1c 8 rfl (by kernel_rfl) ?_
        refine a1x (e := 3) (cs := [.int .i64 (IntKind.i64.wrap (isub .u8 c1 48))]) (q := 1) rfl rfl hx10 rfl (fun _ => by kernel_rfl) rfl rfl ?_
        intro b3 wx14 hx11
        refine a0w (hx11.sh (hF4.trans hF5) [2] (by decide) rfl) ?_
        refine a1c 9 rfl (by kernel_rfl) ?_
        obtain ⟨Fx6, hF6, hx12, hsx2⟩ := a1g hx11 (i := 0) rfl ((show RowN (Rp.int .i64) Fx5 1 [.int .i64 (IntKind.i64.wrap (isub .u8 c1 48))] [IntKind.i64.wrap (isub .u8 c1 48)] from ⟨rfl, ⟨_, _, rfl, rfl, (rfl : RowR (Rp.int .i64) _ [] [])⟩⟩))
        obtain ⟨v5, hv3, hm⟩ := bind_some hm
        refine a0g ent92 rfl rfl rfl rfl hx12 (a4c _ _ _ hv3 hx12.sat hsx2) ?_
        rintro _ Fx7 _ wx15 hF7 hx13 ⟨as6, ns6, cs6, xss6, rfl, rfl, hs6⟩
        refine a0w (hx13.sh (((hF4.trans hF5).trans hF6).trans hF7) [2] (by decide) rfl) ?_
        refine a1c 10 rfl (by kernel_rfl) ?_
        obtain ⟨Fx8, hF8, hx14, hsx3⟩ := a1g hx13 (i := 1) rfl ((hs5.mono hF6).mono hF7)
        obtain ⟨Fx9, hF9, hx15, hsx4⟩ := a1g hx14 (i := 0) rfl (hs6.mono hF8)
        obtain ⟨v6, hv4, hm⟩ := bind_some hm
        refine a0g ent85 rfl rfl rfl rfl hx15 (a8c _ _ _ _ hv4 hx15.sat (hsx3.mono hF9) hsx4) ?_
        rintro _ Fx10 _ wx16 hF10 hx16 ⟨as7, ns7, cs7, xss7, rfl, rfl, hs7⟩
        refine a0w (hx16.sh ((((((hF4.trans hF5).trans hF6).trans hF7).trans hF8).trans hF9).trans hF10) [1] (by decide) rfl) ?_
        refine d_tk 11 rfl (by kernel_rfl) rfl rfl rfl rfl (hx16.sh ((((((hF4.trans hF5).trans hF6).trans hF7).trans hF8).trans hF9).trans hF10) [1] (by decide) rfl) (fun _ _ _ _ _ => a0b rfl rfl rfl (a0c (qq rfl))) ?_
        refine a3v (by kernel_rfl) ?_
        refine a2a (a0d (a0a (a0e rfl rfl rfl ?_)))
        refine a0v rfl rfl rfl rfl rfl ?_
        refine a0b rfl rfl rfl (a0c ?_)
        obtain ⟨Fx11, hF11, hx17, hsx5⟩ := a1g hx16 (i := 0) rfl hs7
        refine a0p (fun a ha => ihx1 (v6, (iadd .i64 i2 1)) a _ hm ?_)
        exact ⟨_, as7, ns7, cs7, ((((((((hF1.trans hF4).trans hF5).trans hF6).trans hF7).trans hF8).trans hF9).trans hF10).trans hF11), hx17.pick [0] (by decide) rfl, hsx5, ha.cut (l := [2, 4, 5, 7, 8]) rfl⟩
       refine a1x (e := 3) (cs := [.int .i64 (IntKind.i64.wrap (isub .u8 c1 48))]) (q := 1) rfl rfl hx8 rfl (fun _ => by kernel_rfl) rfl rfl ?_
       intro b3 wx13 hx9
       refine a0w (hx9.sh (Frz.refl _) [2] (by decide) rfl) ?_
       refine a1c 2 rfl (by kernel_rfl) ?_
       obtain ⟨Fx4, hF4, hx10, hsx1⟩ := a1g hx9 (i := 1) rfl ((show RowN (Rp.int .i64) Fx1 1 [.int .i64 10] [10] from ⟨rfl, ⟨_, _, rfl, rfl, (rfl : RowR (Rp.int .i64) _ [] [])⟩⟩))
       obtain ⟨v4, hv2, hm⟩ := bind_some hm
       refine a0g ent84 rfl rfl rfl rfl hx10 (a6i _ _ _ _ hv2 hx10.sat (hs2.mono hF4) hsx1) ?_
       rintro _ Fx5 _ wx14 hF5 hx11 ⟨as5, ns5, cs5, xss5, rfl, rfl, hs5⟩
       refine a0w (hx11.sh (hF4.trans hF5) [2] (by decide) rfl) ?_
       refine a1c 9 rfl (by kernel_rfl) ?_
       obtain ⟨Fx6, hF6, hx12, hsx2⟩ := a1g hx11 (i := 1) rfl (((show RowN (Rp.int .i64) Fx1 1 [.int .i64 (IntKind.i64.wrap (isub .u8 c1 48))] [IntKind.i64.wrap (isub .u8 c1 48)] from ⟨rfl, ⟨_, _, rfl, rfl, (rfl : RowR (Rp.int .i64) _ [] [])⟩⟩).mono hF4).mono hF5)
       obtain ⟨v5, hv3, hm⟩ := bind_some hm
       refine a0g ent92 rfl rfl rfl rfl hx12 (a4c _ _ _ hv3 hx12.sat hsx2) ?_
       rintro _ Fx7 _ wx15 hF7 hx13 ⟨as6, ns6, cs6, xss6, rfl, rfl, hs6⟩
       refine a0w (hx13.sh (((hF4.trans hF5).trans hF6).trans hF7) [2] (by decide) rfl) ?_
       refine a1c 10 rfl (by kernel_rfl) ?_
       obtain ⟨Fx8, hF8, hx14, hsx3⟩ := a1g hx13 (i := 1) rfl ((hs5.mono hF6).mono hF7)
       obtain ⟨Fx9, hF9, hx15, hsx4⟩ := a1g hx14 (i := 0) rfl (hs6.mono hF8)
       obtain ⟨v6, hv4, hm⟩ := bind_some hm
       refine a0g ent85 rfl rfl rfl rfl hx15 (a8c _ _ _ _ hv4 hx15.sat (hsx3.mono hF9) hsx4) ?_
       rintro _ Fx10 _ wx16 hF10 hx16 ⟨as7, ns7, cs7, xss7, rfl, rfl, hs7⟩
       refine a0w (hx16.sh ((((((hF4.trans hF5).trans hF6).trans hF7).trans hF8).trans hF9).trans hF10) [1] (by decide) rfl) ?_
       refine d_tk 11 rfl (by kernel_rfl) rfl rfl rfl rfl (hx16.sh ((((((hF4.trans hF5).trans hF6).trans hF7).trans hF8).trans hF9).trans hF10) [1] (by decide) rfl) (fun _ _ _ _ _ => a0b rfl rfl rfl (a0c (qq rfl))) ?_
       refine a3v (by kernel_rfl) ?_
       refine a2a (a0d (a0a (a0e rfl rfl rfl ?_)))
       refine a0v rfl rfl rfl rfl rfl ?_
       refine a0b rfl rfl rfl (a0c ?_)
       obtain ⟨Fx11, hF11, hx17, hsx5⟩ := a1g hx16 (i := 0) rfl hs7
       refine a0p (fun a ha => ihx1 (v6, (iadd .i64 i2 1)) a _ hm ?_)
       exact ⟨_, as7, ns7, cs7, ((((((((hF1.trans hF4).trans hF5).trans hF6).trans hF7).trans hF8).trans hF9).trans hF10).trans hF11), hx17.pick [0] (by decide) rfl, hsx5, ha.cut (l := [2, 4, 5, 7, 8]) rfl⟩
      refine a1x (e := 3) (cs := [.int .i64 (IntKind.i64.wrap (isub .u8 c1 48))]) (q := 1) rfl rfl hx7 rfl (fun _ => by kernel_rfl) rfl rfl ?_
      intro b2 wx12 hx8
      refine a0w (hx8.sh (Frz.refl _) [1] (by decide) rfl) ?_
      refine a1c 1 rfl (by kernel_rfl) ?_
      refine a1x (e := 3) (cs := [.int .i64 10]) (q := 1) rfl rfl hx8 rfl (fun _ => by kernel_rfl) rfl rfl ?_
      intro b3 wx13 hx9
      refine a0w (hx9.sh (Frz.refl _) [2] (by decide) rfl) ?_
      refine a1c 2 rfl (by kernel_rfl) ?_
      obtain ⟨Fx4, hF4, hx10, hsx1⟩ := a1g hx9 (i := 0) rfl ((show RowN (Rp.int .i64) Fx1 1 [.int .i64 10] [10] from ⟨rfl, ⟨_, _, rfl, rfl, (rfl : RowR (Rp.int .i64) _ [] [])⟩⟩))
      obtain ⟨v4, hv2, hm⟩ := bind_some hm
      refine a0g ent84 rfl rfl rfl rfl hx10 (a6i _ _ _ _ hv2 hx10.sat (hs2.mono hF4) hsx1) ?_
      rintro _ Fx5 _ wx14 hF5 hx11 ⟨as5, ns5, cs5, xss5, rfl, rfl, hs5⟩
      refine a0w (hx11.sh (hF4.trans hF5) [2] (by decide) rfl) ?_
      refine a1c 9 rfl (by kernel_rfl) ?_
      obtain ⟨Fx6, hF6, hx12, hsx2⟩ := a1g hx11 (i := 1) rfl (((show RowN (Rp.int .i64) Fx1 1 [.int .i64 (IntKind.i64.wrap (isub .u8 c1 48))] [IntKind.i64.wrap (isub .u8 c1 48)] from ⟨rfl, ⟨_, _, rfl, rfl, (rfl : RowR (Rp.int .i64) _ [] [])⟩⟩).mono hF4).mono hF5)
      obtain ⟨v5, hv3, hm⟩ := bind_some hm
      refine a0g ent92 rfl rfl rfl rfl hx12 (a4c _ _ _ hv3 hx12.sat hsx2) ?_
      rintro _ Fx7 _ wx15 hF7 hx13 ⟨as6, ns6, cs6, xss6, rfl, rfl, hs6⟩
      refine a0w (hx13.sh (((hF4.trans hF5).trans hF6).trans hF7) [2] (by decide) rfl) ?_
      refine a1c 10 rfl (by kernel_rfl) ?_
      obtain ⟨Fx8, hF8, hx14, hsx3⟩ := a1g hx13 (i := 1) rfl ((hs5.mono hF6).mono hF7)
      obtain ⟨Fx9, hF9, hx15, hsx4⟩ := a1g hx14 (i := 0) rfl (hs6.mono hF8)
      obtain ⟨v6, hv4, hm⟩ := bind_some hm
      refine a0g ent85 rfl rfl rfl rfl hx15 (a8c _ _ _ _ hv4 hx15.sat (hsx3.mono hF9) hsx4) ?_
      rintro _ Fx10 _ wx16 hF10 hx16 ⟨as7, ns7, cs7, xss7, rfl, rfl, hs7⟩
      refine a0w (hx16.sh ((((((hF4.trans hF5).trans hF6).trans hF7).trans hF8).trans hF9).trans hF10) [1] (by decide) rfl) ?_
      refine d_tk 11 rfl (by kernel_rfl) rfl rfl rfl rfl (hx16.sh ((((((hF4.trans hF5).trans hF6).trans hF7).trans hF8).trans hF9).trans hF10) [1] (by decide) rfl) (fun _ _ _ _ _ => a0b rfl rfl rfl (a0c (qq rfl))) ?_
      refine a3v (by kernel_rfl) ?_
      refine a2a (a0d (a0a (a0e rfl rfl rfl ?_)))
      refine a0v rfl rfl rfl rfl rfl ?_
      refine a0b rfl rfl rfl (a0c ?_)
      obtain ⟨Fx11, hF11, hx17, hsx5⟩ := a1g hx16 (i := 0) rfl hs7
      refine a0p (fun a ha => ihx1 (v6, (iadd .i64 i2 1)) a _ hm ?_)
      exact ⟨_, as7, ns7, cs7, ((((((((hF1.trans hF4).trans hF5).trans hF6).trans hF7).trans hF8).trans hF9).trans hF10).trans hF11), hx17.pick [0] (by decide) rfl, hsx5, ha.cut (l := [2, 4, 5, 7, 8]) rfl⟩
     refine a0u 52 rfl hb5 ?_
     refine a0s rfl (a3l (a0q (a0q ?_)))
     refine fun a ha => hk1 l1 a _ hm ?_
     exact ⟨_, as2, ns2, cs2, hF1, hx3.pick [0] (by decide) rfl, hs2, ha.cut (l := [2, 4, 7]) rfl⟩
    clear hm hkont2; intro hk2 mx2 K ihx2
    rintro i1 a wx17 hm ⟨rfl, hax8⟩
    simp only [a9z] at hm
    refine a1l hax8 ?_
    refine a0f (a0f (a0a (a0e rfl rfl rfl (a0e rfl rfl rfl ?_))))
    refine a8k u9 rfl rfl rfl ?_
    refine a0v rfl rfl rfl rfl rfl ?_
    refine a0c (a0d ?_)
    rcases a0i hm with ⟨hb6, hm⟩ | ⟨hb6, hm⟩
    ·refine a0u 35 rfl hb6 ?_
     refine a0z rfl (a1b (a0d (a0f (a1i (a0f (a0a (a0e rfl rfl rfl (a0e rfl rfl rfl ?_))))))))
     obtain ⟨c2, hc2, hm⟩ := bind_some hm
     refine b3y u9 rfl rfl rfl rfl hc2 ?_
     refine a0v rfl rfl rfl rfl rfl ?_
     refine a0e rfl rfl rfl ?_
     obtain ⟨v7, hb7, hm⟩ := bind_some hm
     refine a2k 5 (fun a w' => wx1 = w' ∧ Has 69 a [(2, .pointer (some ⟨b1, 0, none⟩)), (4, .int .i64 sign1), (5, vs t1), (6, .int .i64 i1), (47, .bool v7)]) ?_ ?_
     ·rintro a wx18 ⟨rfl, hax9⟩
      refine a1a hax9 ?_
      refine a0c (a0d ?_)
      rcases a0i hm with ⟨hb8, hm⟩ | ⟨hb8, hm⟩
      ·refine a0u 47 rfl hb8 ?_
       refine a0z rfl (a0f (a0a ?_))
       refine a1r (v := .agg #[.int .i64 0, .slice none 0 0]) rfl rfl rfl (fun _ => by kernel_rfl) ?_
       refine a0o sz24 rfl hx1 rfl rfl rfl rfl (i := 0) rfl rfl rfl rfl ?_
       intro wx19 hx18
       refine a0b rfl rfl rfl (a0c (a0d (a1d (a1n (a0n (a0n (a1n (a0n ?_))))))))
       refine a1k (vl := [.agg #[.int .i64 0, .slice none 0 0], .int .i64 2]) rfl ⟨a1q ag24 sz24 rfl hx18 rfl (i := 0) rfl, a1w rfl, trivial⟩ (by simp) ?_
       obtain rfl := Option.some.inj hm
       exact ⟨_, _, _, rfl, hx18.pick [] (by decide) rfl, none, 0, 0, rfl, rfl, SlR.nil _ _⟩
      refine a0u 47 rfl hb8 ?_
      refine a0s rfl (a1b (a2a (a0d (a0a (a0e rfl rfl rfl ?_)))))
      refine a0v rfl rfl rfl rfl rfl ?_
      refine a0b rfl rfl rfl (a0c ?_)
      refine a0p (fun a ha => ihx2 (iadd .i64 i1 1) a _ hm ?_)
      exact ⟨rfl, ha.cut (l := [2, 4, 5, 6]) rfl⟩
     clear hm
     rcases a0i hb7 with ⟨hb9, hb7⟩ | ⟨hb9, hb7⟩
     ·refine a1e 42 rfl hb9 ?_
      refine a0r rfl (by decide) rfl (a0r rfl (by decide) rfl (a0r rfl (by decide) rfl (a0r rfl (by decide) rfl (a0m rfl rfl rfl rfl (a0c ?_)))))
      refine a0p (fun a ha => ?_)
      cases hb7
      exact ⟨rfl, ha.cut (l := [2, 4, 5, 6, 47]) rfl⟩
     refine a1e 42 rfl hb9 ?_
     refine a0e rfl rfl rfl (a0e rfl rfl rfl ?_)
     obtain ⟨c3, hc3, hb7⟩ := bind_some hb7
     refine b3y u9 rfl rfl rfl rfl hc3 ?_
     refine a0v rfl rfl rfl rfl rfl ?_
     refine a0l rfl rfl rfl rfl (a0c ?_)
     refine a0p (fun a ha => ?_)
     cases hb7
     exact ⟨rfl, ha.cut (l := [2, 4, 5, 6, 47]) rfl⟩
    refine a0u 35 rfl hb6 ?_
    refine a0s rfl (a3l (a0q (a0q ?_)))
    refine fun a ha => hk2 () a _ hm ?_
    exact ⟨rfl, ha.cut (l := [2, 4, 5]) rfl⟩
   clear hm
   rcases a0i hb3 with ⟨hb10, hb3⟩ | ⟨hb10, hb3⟩
   ·refine a1e 22 rfl hb10 ?_
    refine a0r rfl (by decide) rfl (a0r rfl (by decide) rfl (a0r rfl (by decide) rfl (a0r rfl (by decide) rfl (a0r rfl (by decide) rfl (a0r rfl (by decide) rfl (a0r rfl (by decide) rfl (a0m rfl rfl rfl rfl (a0c ?_))))))))
    refine a0p (fun a ha => ?_)
    cases hb3
    exact ⟨rfl, ha.cut (l := [2, 4, 5, 30]) rfl⟩
   refine a1e 22 rfl hb10 ?_
   refine a0e rfl rfl rfl ?_
   obtain ⟨c4, hc4, hb3⟩ := bind_some hb3
   refine b3y u9 rfl rfl rfl rfl hc4 ?_
   refine a0v rfl rfl rfl rfl rfl ?_
   refine a0e rfl rfl rfl ?_
   obtain ⟨v8, hb11, hb3⟩ := bind_some hb3
   refine a2k 3 (fun a w' => wx1 = w' ∧ Has 69 a [(2, .pointer (some ⟨b1, 0, none⟩)), (4, .int .i64 sign1), (5, vs t1), (22, .bool false), (29, .bool v8)]) ?_ ?_
   ·rintro a wx20 ⟨rfl, hax11⟩
    refine a1a hax11 ?_
    refine a0l rfl rfl rfl rfl (a0c ?_)
    refine a0p (fun a ha => ?_)
    cases hb3
    exact ⟨rfl, ha.cut (l := [2, 4, 5, 30]) rfl⟩
   clear hb3
   rcases a0i hb11 with ⟨hb12, hb11⟩ | ⟨hb12, hb11⟩
   ·refine a1e 26 rfl hb12 ?_
    refine a0e rfl rfl rfl ?_
    refine b2d rfl rfl rfl rfl rfl ?_
    refine a0m rfl rfl rfl rfl (a0c ?_)
    refine a0p (fun a ha => ?_)
    cases hb11
    exact ⟨rfl, ha.cut (l := [2, 4, 5, 22, 29]) rfl⟩
   refine a1e 26 rfl hb12 ?_
   refine a0r rfl (by decide) rfl (a0r rfl (by decide) rfl (a0l rfl rfl rfl rfl (a0c ?_)))
   refine a0p (fun a ha => ?_)
   cases hb11
   exact ⟨rfl, ha.cut (l := [2, 4, 5, 22, 29]) rfl⟩
  clear hm
  rcases a0i hb2 with ⟨hb13, hb2⟩ | ⟨hb13, hb2⟩
  ·refine a0u 17 rfl hb13 ?_
   refine a0z rfl (a0f (a0a (a0b rfl rfl rfl (a0c (a0d (a0a (a0e rfl rfl rfl ?_)))))))
   obtain ⟨t2, hc5, hb2⟩ := bind_some hb2
   refine b7b u9 rfl rfl rfl rfl hc5 ?_
   refine a0b rfl rfl rfl (a0c ?_)
   refine a0p (fun a ha => ?_)
   cases hb2
   exact ⟨rfl, ha.cut (l := [0, 2, 4, 5]) rfl⟩
  refine a0u 17 rfl hb13 ?_
  refine a0s rfl (a1b ?_)
  refine a0p (fun a ha => ?_)
  cases hb2
  exact ⟨rfl, ha.cut (l := [0, 2, 4, 5]) rfl⟩
 clear hm
 rcases a0i hb1 with ⟨hb14, hb1⟩ | ⟨hb14, hb1⟩
 ·refine a1e 13 rfl hb14 ?_
  refine a0e rfl rfl rfl ?_
  obtain ⟨c5, hc6, hb1⟩ := bind_some hb1
  refine b3y u9 rfl rfl rfl rfl hc6 ?_
  refine a0v rfl rfl rfl rfl rfl ?_
  refine a0m rfl rfl rfl rfl (a0c ?_)
  refine a0p (fun a ha => ?_)
  cases hb1
  exact ⟨rfl, ha.cut (l := [0, 2, 4, 5, 17]) rfl⟩
 refine a1e 13 rfl hb14 ?_
 refine a0r rfl (by decide) rfl (a0r rfl (by decide) rfl (a0r rfl (by decide) rfl (a0l rfl rfl rfl rfl (a0c ?_))))
 refine a0p (fun a ha => ?_)
 cases hb1
 exact ⟨rfl, ha.cut (l := [0, 2, 4, 5, 17]) rfl⟩
end Go.Proofs.YtaanocaobllohaaGreatDoor.M
