/-
  THE MIRRORS of the fractions' and the big integers' functions, of their references and of the laws, and that each call returns what its mirror says. Printed by gen.py.
-/
import Derived.Test.YtaanocaobllohaaGreatDoorRows
import Derived.Test.YtaanocaobllohaaGreatDoorTrim
import Derived.Test.YtaanocaobllohaaGreatDoorExtC
import Derived.Test.YtaanocaobllohaaGreatDoorRtX
namespace Go.Proofs.YtaanocaobllohaaGreatDoor.M
open Go Go.RowKit Rt
theorem u22 : Tryz.prog.underlying 22 = some (.slice 3) := by kernel_rfl
theorem sz3 : a5w Tryz.prog 3 1 := fun _ => by kernel_rfl
theorem ag3 : b3w Tryz.prog 3 false := fun _ => by kernel_rfl
def a6d (n : Nat) (l1 : (List Int)) (kont1 : Int → Option (List Int)) : Nat → Int → Option (List Int)
 | 0, _ => none
 | mx1 + 1, nx1 =>
  (bif decide (0 < nx1) then
   (ix l1 (isub .i64 nx1 1)).bind fun ex1 =>
   some (ex1 == 0)
  else
   some false).bind fun v1 =>
  bif v1 then
   a6d n l1 kont1 mx1 (isub .i64 nx1 1)
  else
   kont1 nx1
theorem a7w (n : Nat) (l1 : (List Int)) (kont1 : Int → Option (List Int)) (mx1 : Nat) (nx1 : Int) : a6d n l1 kont1 (mx1 + 1) nx1 =
  (bif decide (0 < nx1) then
   (ix l1 (isub .i64 nx1 1)).bind fun ex1 =>
   some (ex1 == 0)
  else
   some false).bind fun v1 =>
  bif v1 then
   a6d n l1 kont1 mx1 (isub .i64 nx1 1)
  else
   kont1 nx1 := rfl
def a2u (n : Nat) (l1 : (List Int)) : Option (List Int) :=
 a6d n l1 (fun (nx2 : Int) =>
  (lsl l1 0 nx2).bind fun l2 =>
  some l2) n (l1.length : Int)
set_option maxHeartbeats 1000000 in
set_option maxRecDepth 1000000 in
theorem a6f (n : Nat) (l1 : (List Int)) (r : (List Int)) (hm : a2u n l1 = some r) {w : World} {F : Frz} (hs : Sat F w) {as1 : Option Addr} {ns1 : Nat} {cs1 : Nat} (hs1 : SlR (Rp.int .i64) F as1 ns1 cs1 l1) :
  Calls Tryz.prog 91 #[.slice as1 ns1 cs1] w fun e w' => ∃ m', e = .returned (.slice as1 m' cs1) ∧ w' = w ∧ m' ≤ ns1 ∧ r = l1.take m' := by
 unfold a2u at hm
 have h := HS.init hs
 refine a0x 21 Tryz.func91 rfl rfl rfl ?_
 refine a0f (a0a (a0b rfl rfl rfl (a0c (a0d (a0f (a0a (a0e rfl rfl rfl ?_)))))))
 refine a1z hs1.len u22 rfl rfl rfl ?_
 refine a0b rfl rfl rfl (a0c (a0d (a0f (a1i ?_))))
 intro a hax4
 obtain ⟨kont1, hkont1⟩ : ∃ kont1 : Int → Option (List Int), kont1 = (fun (nx2 : Int) =>
       (lsl l1 0 nx2).bind fun l2 =>
       some l2) := ⟨_, rfl⟩
 replace hm : (fun m (s : Int) => a6d n l1 kont1 m s) n (l1.length : Int) = some r := by rw [hkont1]; exact hm
 refine a5u (id := 0) (fun m (s : Int) => a6d n l1 kont1 m s) (fun (y : Int) => kont1 y) r (fun (s : Int) a w' => w = w' ∧ Has 21 a [(0, .slice as1 ns1 cs1), (3, .int .i64 s)]) (fun (y : Int) a w' => w = w' ∧ Has 21 a [(0, .slice as1 ns1 cs1), (3, .int .i64 y)]) (fun _ => rfl) ?_ ?_ hm ⟨rfl, hax4.cut (l := [0, 3]) rfl⟩
 ·clear hm; rintro nx2 a wx1 hm ⟨rfl, hax1⟩
  rw [hkont1] at hm
  replace hm := hm
  refine a2d (e := .exit 0) hax1 ?_
  refine a1j (a0d (a0f (a0a (a0e rfl rfl rfl (a0e rfl rfl rfl ?_)))))
  obtain ⟨l2, hc1, hm⟩ := bind_some hm
  refine d0c u22 (r := (Rp.int .i64)) sz3 rfl rfl rfl rfl hs1 hc1 ?_
  intro hs2 hvs2 hns2
  refine a0b rfl rfl rfl (a0c (a0d (a1d ?_)))
  refine a1p rfl rfl ?_
  obtain rfl := Option.some.inj hm
  exact ⟨_, rfl, rfl, hns2, hvs2⟩
 clear hm hkont1; intro hk1 mx1 K ihx1
 rintro nx1 a wx2 hm ⟨rfl, hax2⟩
 simp only [a7w] at hm
 refine a1l hax2 ?_
 refine a0f (a0f (a0a (a0e rfl rfl rfl ?_)))
 refine a0v rfl rfl rfl rfl rfl ?_
 refine a0e rfl rfl rfl ?_
 obtain ⟨v1, hb1, hm⟩ := bind_some hm
 refine a2k 7 (fun a w' => w = w' ∧ Has 21 a [(0, .slice as1 ns1 cs1), (3, .int .i64 nx1), (15, .bool v1)]) ?_ ?_
 ·rintro a wx3 ⟨rfl, hax3⟩
  refine a1a hax3 ?_
  refine a0c (a0d ?_)
  rcases a0i hm with ⟨hb2, hm⟩ | ⟨hb2, hm⟩
  ·refine a0u 15 rfl hb2 ?_
   refine a0z rfl (a1b (a0d (a1i (a0a (a0e rfl rfl rfl ?_)))))
   refine a0v rfl rfl rfl rfl rfl ?_
   refine a0b rfl rfl rfl (a0c (a2a ?_))
   refine a0p (fun a ha => ihx1 (isub .i64 nx1 1) a _ hm ?_)
   exact ⟨rfl, ha.cut (l := [0, 3]) rfl⟩
  refine a0u 15 rfl hb2 ?_
  refine a0s rfl (a3l (a0q (a0q ?_)))
  refine fun a ha => hk1 nx1 a _ hm ?_
  exact ⟨rfl, ha.cut (l := [0, 3]) rfl⟩
 clear hm
 rcases a0i hb1 with ⟨hb3, hb1⟩ | ⟨hb3, hb1⟩
 ·refine a1e 8 rfl hb3 ?_
  refine a0e rfl rfl rfl (a0e rfl rfl rfl ?_)
  refine a0v rfl rfl rfl rfl rfl ?_
  obtain ⟨ex1, he1, hb1⟩ := bind_some hb1
  refine a3w (r := (Rp.int .i64)) u22 sz3 rfl rfl rfl rfl hs1 he1 ?_
  intro b1 o1 cs1 hf1 hr1
  have hc2 : cs1 = [.int .i64 ex1] := hr1
  subst hc2
  refine a2h (j := 0) ag3 rfl rfl h hf1 rfl rfl ?_
  refine a0v rfl rfl rfl rfl rfl ?_
  refine a0m rfl rfl rfl rfl (a0c ?_)
  refine a0p (fun a ha => ?_)
  cases hb1
  exact ⟨rfl, ha.cut (l := [0, 3, 15]) rfl⟩
 refine a1e 8 rfl hb3 ?_
 refine a0r rfl (by decide) rfl (a0r rfl (by decide) rfl (a0r rfl (by decide) rfl (a0r rfl (by decide) rfl (a0r rfl (by decide) rfl (a0r rfl (by decide) rfl (a0l rfl rfl rfl rfl (a0c ?_)))))))
 refine a0p (fun a ha => ?_)
 cases hb1
 exact ⟨rfl, ha.cut (l := [0, 3, 15]) rfl⟩
structure Big where
 Sign : Int
 Digits : (List Int)
 deriving DecidableEq, Inhabited
def rp_Big : Rp Big where
 k := 2
 R := fun F cs x => ∃ (a1 : Option Addr) (n1 : Nat) (c1 : Nat), cs = [.int .i64 x.Sign, .slice a1 n1 c1] ∧ SlR (Rp.int .i64) F a1 n1 c1 x.Digits
 len := by rintro F cs x ⟨a1, n1, c1, h, _⟩; simp [h]
 mono := by rintro F F' cs x hF ⟨a1, n1, c1, h, h0⟩; exact ⟨a1, n1, c1, h, h0.mono hF⟩
 one := by rintro F cs x ⟨a1, n1, c1, h, _⟩ u hu; subst h; simp at hu; rcases hu with rfl | rfl <;> rfl
theorem ze24 : c2i Tryz.prog 24 (.agg #[.int .i64 0, .slice none 0 0]) := fun _ => by kernel_rfl
theorem ent91 : Ent Tryz.prog 91 := fun _ _ => by kernel_rfl
theorem sz24 : a5w Tryz.prog 24 2 := fun _ => by kernel_rfl
theorem ag24 : b3w Tryz.prog 24 true := fun _ => by kernel_rfl
def a1y (n : Nat) (sign1 : Int) (l1 : (List Int)) : Option Big :=
 (a2u n l1).bind fun v1 =>
 bif (v1.length : Int) == 0 then
  some (⟨0, []⟩ : Big)
 else
  some (⟨sign1, v1⟩ : Big)
set_option maxHeartbeats 1000000 in
set_option maxRecDepth 1000000 in
theorem a3d (n : Nat) (sign1 : Int) (l1 : (List Int)) (r : Big) (hm : a1y n sign1 l1 = some r) {w : World} {F : Frz} (hs : Sat F w) {as1 : Option Addr} {ns1 : Nat} {cs1 : Nat} (hs1 : SlR (Rp.int .i64) F as1 ns1 cs1 l1) :
  Calls Tryz.prog 76 #[.int .i64 sign1, .slice as1 ns1 cs1] w fun e w' => ∃ v F' O', e = .returned v ∧ HS F w [] F' O' w' ∧ (∃ (a0_1 : Option Addr) (n0_1 : Nat) (c0_1 : Nat), v = .agg #[.int .i64 r.Sign, .slice a0_1 n0_1 c0_1] ∧ O' = [] ∧ SlR (Rp.int .i64) F' a0_1 n0_1 c0_1 r.Digits) := by
 unfold a1y at hm
 have h := HS.init hs
 refine a0x 14 Tryz.func76 rfl rfl rfl ?_
 refine a0f (a0a ?_)
 refine a0y ze24 rfl rfl rfl h ?_
 intro b1 wx1 hx1
 refine a0c (a0d (a0f (a0a (a0e rfl rfl rfl ?_))))
 obtain ⟨v1, hv1, hm⟩ := bind_some hm
 refine b1w ent91 rfl rfl rfl rfl (a6f _ _ _ hv1 hx1.sat hs1) ?_
 intro ns2 hles2 hvs2
 refine a0b rfl rfl rfl (a0c (a0d (a0f (a0f (a0a (a0e rfl rfl rfl ?_))))))
 refine a1z ((SlR.takeN hs1 hles2 hvs2).len) u22 rfl rfl rfl ?_
 refine a0v rfl rfl rfl rfl rfl ?_
 refine a0c (a0d ?_)
 rcases a0i hm with ⟨hb1, hm⟩ | ⟨hb1, hm⟩
 ·refine a0u 9 rfl hb1 ?_
  refine a0z rfl (a0f (a0a ?_))
  refine a1r (v := .agg #[.int .i64 0, .slice none 0 0]) rfl rfl rfl (fun _ => by kernel_rfl) ?_
  refine a0o sz24 rfl hx1 rfl rfl rfl rfl (i := 0) rfl rfl rfl rfl ?_
  intro wx2 hx2
  refine a0c (a0d (a1d (a0n ?_)))
  refine a6l rfl ag24 sz24 rfl hx2 rfl (i := 0) rfl ?_
  obtain rfl := Option.some.inj hm
  exact ⟨_, _, _, rfl, hx2.pick [] (by decide) rfl, none, 0, 0, rfl, rfl, SlR.nil _ _⟩
 refine a0u 9 rfl hb1 ?_
 refine a0s rfl (a1b (a0d (a0f (a0a (a0e rfl rfl rfl (a0e rfl rfl rfl ?_))))))
 refine a1r (v := .agg #[.int .i64 sign1, .slice as1 ns2 cs1]) rfl rfl rfl (fun _ => by kernel_rfl) ?_
 refine a0o sz24 rfl hx1 rfl rfl rfl rfl (i := 0) rfl rfl rfl rfl ?_
 intro wx3 hx3
 refine a0c (a0d (a1d ?_))
 refine a6l rfl ag24 sz24 rfl hx3 rfl (i := 0) rfl ?_
 obtain rfl := Option.some.inj hm
 exact ⟨_, _, _, rfl, hx3.pick [] (by decide) rfl, as1, ns2, cs1, rfl, rfl, ((SlR.takeN hs1 hles2 hvs2))⟩
theorem fa24_1 : b8l Tryz.prog 24 1 1 := fun _ _ _ => by kernel_rfl
theorem ag22 : b3w Tryz.prog 22 false := fun _ => by kernel_rfl
theorem fa24_0 : b8l Tryz.prog 24 0 0 := fun _ _ _ => by kernel_rfl
def a6t (n : Nat) (ax1 : Big) (kont1 : Option Bool) : Nat → Int → Option Bool
 | 0, _ => none
 | mx1 + 1, i1 =>
  bif decide (i1 < (ax1.Digits.length : Int)) then
   (ix ax1.Digits i1).bind fun ex2 =>
   (bif decide (ex2 < 0) then
    some true
   else
    some (decide (1048575 < ex2))).bind fun v3 =>
   bif v3 then
    some false
   else
    a6t n ax1 kont1 mx1 (iadd .i64 i1 1)
  else
   kont1
theorem b1d (n : Nat) (ax1 : Big) (kont1 : Option Bool) (mx1 : Nat) (i1 : Int) : a6t n ax1 kont1 (mx1 + 1) i1 =
  bif decide (i1 < (ax1.Digits.length : Int)) then
   (ix ax1.Digits i1).bind fun ex2 =>
   (bif decide (ex2 < 0) then
    some true
   else
    some (decide (1048575 < ex2))).bind fun v3 =>
   bif v3 then
    some false
   else
    a6t n ax1 kont1 mx1 (iadd .i64 i1 1)
  else
   kont1 := rfl
def a3a (n : Nat) (ax1 : Big) : Option Bool :=
 a6t n ax1 (
  bif (ax1.Digits.length : Int) == 0 then
   some (ax1.Sign == 0)
  else
   (bif ax1.Sign == 1 then
    some true
   else
    some (ax1.Sign == (-1))).bind fun v1 =>
   (bif v1 then
    (ix ax1.Digits (isub .i64 (ax1.Digits.length : Int) 1)).bind fun ex1 =>
    some (ex1 != 0)
   else
    some false).bind fun v2 =>
   some v2) n 0
set_option maxHeartbeats 1000000 in
set_option maxRecDepth 1000000 in
theorem a2s (n : Nat) (ax1 : Big) (r : Bool) (hm : a3a n ax1 = some r) {w : World} {F : Frz} (hs : Sat F w) {as1 : Option Addr} {ns1 : Nat} {cs1 : Nat} (hs1 : SlR (Rp.int .i64) F as1 ns1 cs1 ax1.Digits) :
  Calls Tryz.prog 60 #[.agg #[.int .i64 ax1.Sign, .slice as1 ns1 cs1]] w fun e w' => ∃ v F' O', e = .returned v ∧ HS F w [] F' O' w' ∧ (v = .bool r ∧ O' = []) := by
 unfold a3a at hm
 have h := HS.init hs
 refine a0x 45 Tryz.func60 rfl rfl rfl ?_
 refine a0f (a0a ?_)
 refine a2o rfl rfl rfl rfl h ?_
 intro b1 wx1 hx1
 refine a0b rfl rfl rfl (a0c (a0d (a0f (a0a ?_))))
 refine a0h fa24_1 rfl rfl rfl ?_
 refine a0t ag22 rfl rfl hx1 rfl (i := 0) rfl rfl ?_
 refine a1z hs1.len u22 rfl rfl rfl ?_
 refine a0b rfl rfl rfl (a0c (a0d (a0f (a0f (a0a ?_)))))
 refine a0h fa24_1 rfl rfl rfl ?_
 refine a0t ag22 rfl rfl hx1 rfl (i := 0) rfl rfl ?_
 refine a1z hs1.len u22 rfl rfl rfl ?_
 refine a0e rfl rfl rfl (a0c (a0d (a1i ?_)))
 intro a hax6
 obtain ⟨kont1, hkont1⟩ : ∃ kont1 : Option Bool, kont1 = (
       bif (ax1.Digits.length : Int) == 0 then
        some (ax1.Sign == 0)
       else
        (bif ax1.Sign == 1 then
         some true
        else
         some (ax1.Sign == (-1))).bind fun v1 =>
        (bif v1 then
         (ix ax1.Digits (isub .i64 (ax1.Digits.length : Int) 1)).bind fun ex1 =>
         some (ex1 != 0)
        else
         some false).bind fun v2 =>
        some v2) := ⟨_, rfl⟩
 replace hm : (fun m (s : Int) => a6t n ax1 kont1 m s) n 0 = some r := by rw [hkont1]; exact hm
 refine a5u (id := 0) (fun m (s : Int) => a6t n ax1 kont1 m s) (fun (y : Unit) => kont1) r (fun (s : Int) a w' => wx1 = w' ∧ Has 45 a [(1, .pointer (some ⟨b1, 0, none⟩)), (3, .int .i64 (ax1.Digits.length : Int)), (10, .slice as1 ns1 cs1), (11, .int .i64 (ax1.Digits.length : Int)), (12, .int .i64 s)]) (fun (y : Unit) a w' => wx1 = w' ∧ Has 45 a [(1, .pointer (some ⟨b1, 0, none⟩)), (3, .int .i64 (ax1.Digits.length : Int))]) (fun _ => rfl) ?_ ?_ hm ⟨rfl, hax6.cut (l := [1, 3, 10, 11, 12]) rfl⟩
 ·clear hm; rintro _u a wx2 hm ⟨rfl, hax1⟩
  rw [hkont1] at hm
  refine a2d (e := .exit 0) hax1 ?_
  refine a1j (a0d (a0f (a0f (a0a (a0e rfl rfl rfl ?_)))))
  refine a0v rfl rfl rfl rfl rfl ?_
  refine a0c (a0d ?_)
  rcases a0i hm with ⟨hb1, hm⟩ | ⟨hb1, hm⟩
  ·refine a0u 24 rfl hb1 ?_
   refine a0z rfl (a0f (a0a ?_))
   refine a0h fa24_0 rfl rfl rfl ?_
   refine a0t ag3 rfl rfl hx1 rfl (i := 0) rfl rfl ?_
   refine a0v rfl rfl rfl rfl rfl ?_
   refine a0b rfl rfl rfl (a0c (a0d (a1d (a0n ?_))))
   refine a1p rfl rfl ?_
   obtain rfl := Option.some.inj hm
   exact ⟨_, _, _, rfl, hx1.pick [] (by decide) rfl, rfl, rfl⟩
  refine a0u 24 rfl hb1 ?_
  refine a0s rfl (a1b (a0d (a0f (a0a ?_))))
  refine a0h fa24_0 rfl rfl rfl ?_
  refine a0t ag3 rfl rfl hx1 rfl (i := 0) rfl rfl ?_
  refine a0v rfl rfl rfl rfl rfl ?_
  refine a0e rfl rfl rfl ?_
  obtain ⟨v1, hb2, hm⟩ := bind_some hm
  refine a2k 4 (fun a w' => wx1 = w' ∧ Has 45 a [(1, .pointer (some ⟨b1, 0, none⟩)), (3, .int .i64 (ax1.Digits.length : Int)), (35, .bool v1)]) ?_ ?_
  ·rintro a wx3 ⟨rfl, hax2⟩
   refine a1a hax2 ?_
   refine a0e rfl rfl rfl ?_
   obtain ⟨v2, hb3, hm⟩ := bind_some hm
   refine a2k 8 (fun a w' => wx1 = w' ∧ Has 45 a [(44, .bool v2)]) ?_ ?_
   ·rintro a wx4 ⟨rfl, hax3⟩
    refine a1a hax3 ?_
    refine a0b rfl rfl rfl (a0c (a0d (a1d ?_)))
    refine a1p rfl rfl ?_
    obtain rfl := Option.some.inj hm
    exact ⟨_, _, _, rfl, hx1.pick [] (by decide) rfl, rfl, rfl⟩
   clear hm
   rcases a0i hb3 with ⟨hb4, hb3⟩ | ⟨hb4, hb3⟩
   ·refine a1e 36 rfl hb4 ?_
    refine a0h fa24_1 rfl rfl rfl ?_
    refine a0t ag22 rfl rfl hx1 rfl (i := 0) rfl rfl ?_
    refine a0e rfl rfl rfl ?_
    refine a0v rfl rfl rfl rfl rfl ?_
    obtain ⟨ex1, he1, hb3⟩ := bind_some hb3
    refine a3w (r := (Rp.int .i64)) u22 sz3 rfl rfl rfl rfl hs1 he1 ?_
    intro b2 o1 cs1 hf1 hr1
    have hc1 : cs1 = [.int .i64 ex1] := hr1
    subst hc1
    refine a2h (j := 0) ag3 rfl rfl hx1 hf1 rfl rfl ?_
    refine a0v rfl rfl rfl rfl rfl ?_
    refine a0m rfl rfl rfl rfl (a0c ?_)
    refine a0p (fun a ha => ?_)
    cases hb3
    exact ⟨rfl, ha.cut (l := [44]) rfl⟩
   refine a1e 36 rfl hb4 ?_
   refine a0r rfl (by decide) rfl (a0r rfl (by decide) rfl (a0r rfl (by decide) rfl (a0r rfl (by decide) rfl (a0r rfl (by decide) rfl (a0r rfl (by decide) rfl (a0r rfl (by decide) rfl (a0l rfl rfl rfl rfl (a0c ?_))))))))
   refine a0p (fun a ha => ?_)
   cases hb3
   exact ⟨rfl, ha.cut (l := [44]) rfl⟩
  clear hm
  rcases a0i hb2 with ⟨hb5, hb2⟩ | ⟨hb5, hb2⟩
  ·refine a1e 31 rfl hb5 ?_
   refine a0r rfl (by decide) rfl (a0r rfl (by decide) rfl (a0r rfl (by decide) rfl (a0m rfl rfl rfl rfl (a0c ?_))))
   refine a0p (fun a ha => ?_)
   cases hb2
   exact ⟨rfl, ha.cut (l := [1, 3, 35]) rfl⟩
  refine a1e 31 rfl hb5 ?_
  refine a0h fa24_0 rfl rfl rfl ?_
  refine a0t ag3 rfl rfl hx1 rfl (i := 0) rfl rfl ?_
  refine a0v rfl rfl rfl rfl rfl ?_
  refine a0l rfl rfl rfl rfl (a0c ?_)
  refine a0p (fun a ha => ?_)
  cases hb2
  exact ⟨rfl, ha.cut (l := [1, 3, 35]) rfl⟩
 clear hm hkont1; intro hk1 mx1 K ihx1
 rintro i1 a wx5 hm ⟨rfl, hax4⟩
 simp only [b1d] at hm
 refine a1l hax4 ?_
 refine a0f (a0a ?_)
 refine a0v rfl rfl rfl rfl rfl ?_
 refine a0c (a0d (a0f ?_))
 rcases a0i hm with ⟨hb6, hm⟩ | ⟨hb6, hm⟩
 ·refine a0u 13 rfl hb6 ?_
  refine a0z rfl (a1b (a0d (a0f (a1i (a0f (a0a ?_))))))
  obtain ⟨ex2, he2, hm⟩ := bind_some hm
  refine a3w (r := (Rp.int .i64)) u22 sz3 rfl rfl rfl rfl hs1 he2 ?_
  intro b3 o2 cs2 hf2 hr2
  have hc2 : cs2 = [.int .i64 ex2] := hr2
  subst hc2
  refine a2h (j := 0) ag3 rfl rfl hx1 hf2 rfl rfl ?_
  refine a0b rfl rfl rfl (a0c (a0d (a0f (a0a (a0e rfl rfl rfl ?_)))))
  refine a0v rfl rfl rfl rfl rfl ?_
  refine a0e rfl rfl rfl ?_
  obtain ⟨v3, hb7, hm⟩ := bind_some hm
  refine a2k 3 (fun a w' => wx1 = w' ∧ Has 45 a [(1, .pointer (some ⟨b1, 0, none⟩)), (3, .int .i64 (ax1.Digits.length : Int)), (10, .slice as1 ns1 cs1), (11, .int .i64 (ax1.Digits.length : Int)), (12, .int .i64 i1), (21, .bool v3)]) ?_ ?_
  ·rintro a wx6 ⟨rfl, hax5⟩
   refine a1a hax5 ?_
   refine a0c (a0d ?_)
   rcases a0i hm with ⟨hb8, hm⟩ | ⟨hb8, hm⟩
   ·refine a0u 21 rfl hb8 ?_
    refine a0z rfl (a0f (a0a (a0b rfl rfl rfl (a0c (a0d (a1d (a1n (a0n (a0n (a1n (a0n ?_)))))))))))
    refine a1p rfl rfl ?_
    obtain rfl := Option.some.inj hm
    exact ⟨_, _, _, rfl, hx1.pick [] (by decide) rfl, rfl, rfl⟩
   refine a0u 21 rfl hb8 ?_
   refine a0s rfl (a1b (a2a (a0d (a0a ?_))))
   refine a0v rfl rfl rfl rfl rfl ?_
   refine a0e rfl rfl rfl (a0c ?_)
   refine a0p (fun a ha => ihx1 (iadd .i64 i1 1) a _ hm ?_)
   exact ⟨rfl, ha.cut (l := [1, 3, 10, 11, 12]) rfl⟩
  clear hm
  rcases a0i hb7 with ⟨hb9, hb7⟩ | ⟨hb9, hb7⟩
  ·refine a1e 18 rfl hb9 ?_
   refine a0r rfl (by decide) rfl (a0r rfl (by decide) rfl (a0m rfl rfl rfl rfl (a0c ?_)))
   refine a0p (fun a ha => ?_)
   cases hb7
   exact ⟨rfl, ha.cut (l := [1, 3, 10, 11, 12, 21]) rfl⟩
  refine a1e 18 rfl hb9 ?_
  refine a0e rfl rfl rfl ?_
  refine a0v rfl rfl rfl rfl rfl ?_
  refine a0l rfl rfl rfl rfl (a0c ?_)
  refine a0p (fun a ha => ?_)
  cases hb7
  exact ⟨rfl, ha.cut (l := [1, 3, 10, 11, 12, 21]) rfl⟩
 refine a0u 13 rfl hb6 ?_
 refine a0s rfl (a3l (a0q (a0q ?_)))
 refine fun a ha => hk1 () a _ hm ?_
 exact ⟨rfl, ha.cut (l := [1, 3]) rfl⟩
def cmp_isNaN_int (_n : Nat) (x1 : Int) : Option Bool :=
 some (x1 != x1)
set_option maxHeartbeats 1000000 in
set_option maxRecDepth 1000000 in
theorem b2f (n : Nat) (x1 : Int) (r : Bool) (hm : cmp_isNaN_int n x1 = some r) {w : World}  :
  Calls Tryz.prog 116 #[.int .i64 x1] w fun e w' => e = .returned (.bool r) ∧ w' = w := by
 unfold cmp_isNaN_int at hm
 refine a0x 6 Tryz.func116 rfl rfl rfl ?_
 refine a0f (a0a (a0b rfl rfl rfl (a0c (a0d (a0f (a0a (a0e rfl rfl rfl (a0e rfl rfl rfl ?_))))))))
 refine a0v rfl rfl rfl rfl rfl ?_
 refine a0b rfl rfl rfl (a0c (a0d (a1d ?_)))
 refine a1p rfl rfl ?_
 obtain rfl := Option.some.inj hm
 exact ⟨rfl, rfl⟩
theorem ent116 : Ent Tryz.prog 116 := fun _ _ => by kernel_rfl
def cmp_Compare_int (n : Nat) (x1 : Int) (y1 : Int) : Option Int :=
 (cmp_isNaN_int n x1).bind fun v1 =>
 (cmp_isNaN_int n y1).bind fun v2 =>
 bif v1 then
  bif v2 then
   some 0
  else
   some (-1)
 else
  bif v2 then
   some 1
  else
   bif decide (x1 < y1) then
    some (-1)
   else
    bif decide (y1 < x1) then
     some 1
    else
     some 0
set_option maxHeartbeats 1000000 in
set_option maxRecDepth 1000000 in
theorem a8d (n : Nat) (x1 : Int) (y1 : Int) (r : Int) (hm : cmp_Compare_int n x1 y1 = some r) {w : World}  :
  Calls Tryz.prog 97 #[.int .i64 x1, .int .i64 y1] w fun e w' => e = .returned (.int .i64 r) ∧ w' = w := by
 unfold cmp_Compare_int at hm
 refine a0x 20 Tryz.func97 rfl rfl rfl ?_
 refine a0f (a0a (a0b rfl rfl rfl (a0c (a0d (a0f (a0a (a0e rfl rfl rfl ?_)))))))
 obtain ⟨v1, hv1, hm⟩ := bind_some hm
 refine a4e ent116 rfl rfl rfl rfl (b2f _ _ _ hv1) ?_
 refine a0b rfl rfl rfl (a0c (a0d (a0f (a0a (a0e rfl rfl rfl ?_)))))
 obtain ⟨v2, hv2, hm⟩ := bind_some hm
 refine a4e ent116 rfl rfl rfl rfl (b2f _ _ _ hv2) ?_
 refine a0b rfl rfl rfl (a0c (a0d (a0f (a0f (a0a (a0e rfl rfl rfl (a0c (a0d ?_))))))))
 rcases a0i hm with ⟨hb1, hm⟩ | ⟨hb1, hm⟩
 ·refine a0u 11 rfl hb1 ?_
  refine a0z rfl (a0f (a0f (a0a (a0e rfl rfl rfl (a0c (a0d ?_))))))
  rcases a0i hm with ⟨hb2, hm⟩ | ⟨hb2, hm⟩
  ·refine a0u 12 rfl hb2 ?_
   refine a0z rfl (a0f (a0a (a0b rfl rfl rfl (a0c (a0d (a1d (a0n (a0n ?_))))))))
   refine a1p rfl rfl ?_
   obtain rfl := Option.some.inj hm
   exact ⟨rfl, rfl⟩
  refine a0u 12 rfl hb2 ?_
  refine a0s rfl (a1b (a0d (a0f (a0a (a0b rfl rfl rfl (a0c (a0d (a1d (a0n ?_)))))))))
  refine a1p rfl rfl ?_
  obtain rfl := Option.some.inj hm
  exact ⟨rfl, rfl⟩
 refine a0u 11 rfl hb1 ?_
 refine a0s rfl (a1b (a0d (a0f (a0f (a0a (a0e rfl rfl rfl (a0c (a0d ?_))))))))
 rcases a0i hm with ⟨hb3, hm⟩ | ⟨hb3, hm⟩
 ·refine a0u 13 rfl hb3 ?_
  refine a0z rfl (a0f (a0a (a0b rfl rfl rfl (a0c (a0d (a1d (a0n ?_)))))))
  refine a1p rfl rfl ?_
  obtain rfl := Option.some.inj hm
  exact ⟨rfl, rfl⟩
 refine a0u 13 rfl hb3 ?_
 refine a0s rfl (a1b (a0d (a0f (a0f (a0a (a0e rfl rfl rfl (a0e rfl rfl rfl ?_)))))))
 refine a0v rfl rfl rfl rfl rfl ?_
 refine a0c (a0d ?_)
 rcases a0i hm with ⟨hb4, hm⟩ | ⟨hb4, hm⟩
 ·refine a0u 16 rfl hb4 ?_
  refine a0z rfl (a0f (a0a (a0b rfl rfl rfl (a0c (a0d (a1d (a0n ?_)))))))
  refine a1p rfl rfl ?_
  obtain rfl := Option.some.inj hm
  exact ⟨rfl, rfl⟩
 refine a0u 16 rfl hb4 ?_
 refine a0s rfl (a1b (a0d (a0f (a0f (a0a (a0e rfl rfl rfl (a0e rfl rfl rfl ?_)))))))
 refine a0v rfl rfl rfl rfl rfl ?_
 refine a0c (a0d ?_)
 rcases a0i hm with ⟨hb5, hm⟩ | ⟨hb5, hm⟩
 ·refine a0u 19 rfl hb5 ?_
  refine a0z rfl (a0f (a0a (a0b rfl rfl rfl (a0c (a0d (a1d (a0n ?_)))))))
  refine a1p rfl rfl ?_
  obtain rfl := Option.some.inj hm
  exact ⟨rfl, rfl⟩
 refine a0u 19 rfl hb5 ?_
 refine a0s rfl (a1b (a0d (a0f (a0a (a0b rfl rfl rfl (a0c (a0d (a1d ?_))))))))
 refine a1p rfl rfl ?_
 obtain rfl := Option.some.inj hm
 exact ⟨rfl, rfl⟩
theorem ent97 : Ent Tryz.prog 97 := fun _ _ => by kernel_rfl
def a5n (n : Nat) (ax1 : (List Int)) (b1 : (List Int)) (kont1 : Option Int) : Nat → Int → Option Int
 | 0, _ => none
 | mx1 + 1, i1 =>
  bif decide (0 ≤ i1) then
   (ix ax1 i1).bind fun ex1 =>
   (ix b1 i1).bind fun ex2 =>
   bif ex1 != ex2 then
    (ix ax1 i1).bind fun ex3 =>
    (ix b1 i1).bind fun ex4 =>
    (cmp_Compare_int n ex3 ex4).bind fun v2 =>
    some v2
   else
    a5n n ax1 b1 kont1 mx1 (isub .i64 i1 1)
  else
   kont1
theorem a9c (n : Nat) (ax1 : (List Int)) (b1 : (List Int)) (kont1 : Option Int) (mx1 : Nat) (i1 : Int) : a5n n ax1 b1 kont1 (mx1 + 1) i1 =
  bif decide (0 ≤ i1) then
   (ix ax1 i1).bind fun ex1 =>
   (ix b1 i1).bind fun ex2 =>
   bif ex1 != ex2 then
    (ix ax1 i1).bind fun ex3 =>
    (ix b1 i1).bind fun ex4 =>
    (cmp_Compare_int n ex3 ex4).bind fun v2 =>
    some v2
   else
    a5n n ax1 b1 kont1 mx1 (isub .i64 i1 1)
  else
   kont1 := rfl
def a6p (n : Nat) (ax1 : (List Int)) (b1 : (List Int)) : Option Int :=
 bif (ax1.length : Int) != (b1.length : Int) then
  (cmp_Compare_int n (ax1.length : Int) (b1.length : Int)).bind fun v1 =>
  some v1
 else
  a5n n ax1 b1 (
   some 0) n (isub .i64 (ax1.length : Int) 1)
set_option maxHeartbeats 1000000 in
set_option maxRecDepth 1000000 in
theorem b1k (n : Nat) (ax1 : (List Int)) (b1 : (List Int)) (r : Int) (hm : a6p n ax1 b1 = some r) {w : World} {F : Frz} (hs : Sat F w) {as1 : Option Addr} {ns1 : Nat} {cs1 : Nat} {as2 : Option Addr} {ns2 : Nat} {cs2 : Nat} (hs1 : SlR (Rp.int .i64) F as1 ns1 cs1 ax1) (hs2 : SlR (Rp.int .i64) F as2 ns2 cs2 b1) :
  Calls Tryz.prog 80 #[.slice as1 ns1 cs1, .slice as2 ns2 cs2] w fun e w' => ∃ v F' O', e = .returned v ∧ HS F w [] F' O' w' ∧ (v = .int .i64 r ∧ O' = []) := by
 unfold a6p at hm
 have h := HS.init hs
 refine a0x 41 Tryz.func80 rfl rfl rfl ?_
 refine a0f (a0a (a0b rfl rfl rfl (a0c (a0d (a0f (a0f (a0a (a0e rfl rfl rfl ?_))))))))
 refine a1z hs1.len u22 rfl rfl rfl ?_
 refine a0e rfl rfl rfl ?_
 refine a1z hs2.len u22 rfl rfl rfl ?_
 refine a0v rfl rfl rfl rfl rfl ?_
 refine a0c (a0d ?_)
 rcases a0i hm with ⟨hb1, hm⟩ | ⟨hb1, hm⟩
 ·refine a0u 10 rfl hb1 ?_
  refine a0z rfl (a0f (a0a (a0e rfl rfl rfl ?_)))
  refine a1z hs1.len u22 rfl rfl rfl ?_
  refine a0e rfl rfl rfl ?_
  refine a1z hs2.len u22 rfl rfl rfl ?_
  obtain ⟨v1, hv1, hm⟩ := bind_some hm
  refine a4e ent97 rfl rfl rfl rfl (a8d _ _ _ _ hv1) ?_
  refine a0b rfl rfl rfl (a0c (a0d (a1d (a0n ?_))))
  refine a1p rfl rfl ?_
  obtain rfl := Option.some.inj hm
  exact ⟨_, _, _, rfl, h.pick [] (by decide) rfl, rfl, rfl⟩
 refine a0u 10 rfl hb1 ?_
 refine a0s rfl (a1b (a0d (a0f (a0f (a0a (a0e rfl rfl rfl ?_))))))
 refine a1z hs1.len u22 rfl rfl rfl ?_
 refine a0v rfl rfl rfl rfl rfl ?_
 refine a0b rfl rfl rfl (a0c (a0d (a1i ?_)))
 intro a hax3
 obtain ⟨kont1, hkont1⟩ : ∃ kont1 : Option Int, kont1 = (
      some 0) := ⟨_, rfl⟩
 replace hm : (fun m (s : Int) => a5n n ax1 b1 kont1 m s) n (isub .i64 (ax1.length : Int) 1) = some r := by rw [hkont1]; exact hm
 refine a5u (id := 0) (fun m (s : Int) => a5n n ax1 b1 kont1 m s) (fun (y : Unit) => kont1) r (fun (s : Int) a w' => ∃ (Fx1 : Frz), Frz.le F Fx1 ∧ HS F w [] Fx1 [] w' ∧ Has 41 a [(0, .slice as1 ns1 cs1), (1, .slice as2 ns2 cs2), (5, .int .i64 s)]) (fun (y : Unit) a w' => ∃ (Fx2 : Frz), Frz.le F Fx2 ∧ HS F w [] Fx2 [] w' ∧ Has 41 a []) (fun _ => rfl) ?_ ?_ hm ⟨_, Frz.refl _, h.pick [] (by decide) rfl, hax3.cut (l := [0, 1, 5]) rfl⟩
 ·clear hm; rintro _u a wx1 hm ⟨Fx2, hF2, hx2, hax1⟩
  rw [hkont1] at hm
  refine a2d (e := .exit 0) hax1 ?_
  refine a1j (a0d (a0f (a0a (a0b rfl rfl rfl (a0c (a0d (a1d ?_)))))))
  refine a1p rfl rfl ?_
  obtain rfl := Option.some.inj hm
  exact ⟨_, _, _, rfl, hx2.pick [] (by decide) rfl, rfl, rfl⟩
 clear hm hkont1; intro hk1 mx1 K ihx1
 rintro i1 a wx2 hm ⟨Fx1, hF1, hx1, hax2⟩
 simp only [a9c] at hm
 refine a1l hax2 ?_
 refine a0f (a0f (a0a (a0e rfl rfl rfl ?_)))
 refine a0v rfl rfl rfl rfl rfl ?_
 refine a0c (a0d ?_)
 rcases a0i hm with ⟨hb2, hm⟩ | ⟨hb2, hm⟩
 ·refine a0u 20 rfl hb2 ?_
  refine a0z rfl (a1b (a0d (a0f (a1i (a0f ?_)))))
  refine a4s (by kernel_rfl) (by kernel_rfl) hx1 ?_
  refine a1h rfl rfl rfl rfl (fun _ _ _ _ => a0e rfl rfl rfl (a0c (qq rfl))) ?_
  refine a1h rfl rfl rfl rfl (fun _ _ _ _ => a0e rfl rfl rfl (a0c (qq rfl))) ?_
  obtain ⟨ex1, he1, hm⟩ := bind_some hm
  obtain ⟨b2, o1, cs1, hf1, hr1, hrun1⟩ := a5c (P := Tryz.prog) (r := (Rp.int .i64)) u22 sz3 (hs1.mono hF1) he1
  have hc1 : cs1 = [.int .i64 ex1] := hr1
  subst hc1
  refine a4v rfl rfl rfl rfl hrun1 ?_
  refine a1h rfl rfl rfl rfl (fun _ _ hleq hq => a2h (j := 0) ag3 rfl rfl hq (hf1.mono hleq) rfl rfl (a0c (qq rfl))) ?_
  refine a1h rfl rfl rfl rfl (fun _ _ _ _ => a0e rfl rfl rfl (a0c (qq rfl))) ?_
  refine a1h rfl rfl rfl rfl (fun _ _ _ _ => a0e rfl rfl rfl (a0c (qq rfl))) ?_
  obtain ⟨ex2, he2, hm⟩ := bind_some hm
  obtain ⟨b3, o2, cs2, hf2, hr2, hrun2⟩ := a5c (P := Tryz.prog) (r := (Rp.int .i64)) u22 sz3 (hs2.mono hF1) he2
  have hc2 : cs2 = [.int .i64 ex2] := hr2
  subst hc2
  refine a4v rfl rfl rfl rfl hrun2 ?_
  refine a1h rfl rfl rfl rfl (fun _ _ hleq hq => a2h (j := 0) ag3 rfl rfl hq (hf2.mono hleq) rfl rfl (a0c (qq rfl))) ?_
  refine a1h rfl rfl rfl rfl (fun _ _ _ _ => a0v rfl rfl rfl rfl rfl (a0c (qq rfl))) ?_
  refine b3x ?_
  rintro wx3 ⟨Fx3, hF3, hx3⟩
  refine a0d ?_
  rcases a0i hm with ⟨hb3, hm⟩ | ⟨hb3, hm⟩
  ·refine a0u 31 rfl hb3 ?_
   refine a0z rfl (a0f ?_)
   refine a4s (by kernel_rfl) (by kernel_rfl) hx3 ?_
   refine a1h rfl rfl rfl rfl (fun _ _ _ _ => a0e rfl rfl rfl (a0c (qq rfl))) ?_
   refine a1h rfl rfl rfl rfl (fun _ _ _ _ => a0e rfl rfl rfl (a0c (qq rfl))) ?_
   obtain ⟨ex3, he3, hm⟩ := bind_some hm
   obtain ⟨b4, o3, cs3, hf3, hr3, hrun3⟩ := a5c (P := Tryz.prog) (r := (Rp.int .i64)) u22 sz3 ((hs1.mono hF1).mono hF3) he3
   have hc3 : cs3 = [.int .i64 ex3] := hr3
   subst hc3
   refine a4v rfl rfl rfl rfl hrun3 ?_
   refine a1h rfl rfl rfl rfl (fun _ _ hleq hq => a2h (j := 0) ag3 rfl rfl hq (hf3.mono hleq) rfl rfl (a0c (qq rfl))) ?_
   refine a1h rfl rfl rfl rfl (fun _ _ _ _ => a0e rfl rfl rfl (a0c (qq rfl))) ?_
   refine a1h rfl rfl rfl rfl (fun _ _ _ _ => a0e rfl rfl rfl (a0c (qq rfl))) ?_
   obtain ⟨ex4, he4, hm⟩ := bind_some hm
   obtain ⟨b5, o4, cs4, hf4, hr4, hrun4⟩ := a5c (P := Tryz.prog) (r := (Rp.int .i64)) u22 sz3 ((hs2.mono hF1).mono hF3) he4
   have hc4 : cs4 = [.int .i64 ex4] := hr4
   subst hc4
   refine a4v rfl rfl rfl rfl hrun4 ?_
   refine a1h rfl rfl rfl rfl (fun _ _ hleq hq => a2h (j := 0) ag3 rfl rfl hq (hf4.mono hleq) rfl rfl (a0c (qq rfl))) ?_
   obtain ⟨v2, hv2, hm⟩ := bind_some hm
   refine b6p ent97 rfl rfl rfl rfl (fun _ _ hleq hq => a8d _ _ _ _ hv2) ?_
   refine a1h rfl rfl rfl rfl (fun _ _ _ _ => a0b rfl rfl rfl (a0c (qq rfl))) ?_
   refine b3x ?_
   rintro wx4 ⟨Fx4, hF4, hx4⟩
   refine a0d (a1d (a1n (a0n (a0n (a1n (a0n ?_))))))
   refine a1p rfl rfl ?_
   obtain rfl := Option.some.inj hm
   exact ⟨_, _, _, rfl, hx4.pick [] (by decide) rfl, rfl, rfl⟩
  refine a0u 31 rfl hb3 ?_
  refine a0s rfl (a1b (a2a (a0d (a0a (a0e rfl rfl rfl ?_)))))
  refine a0v rfl rfl rfl rfl rfl ?_
  refine a0b rfl rfl rfl (a0c ?_)
  refine a0p (fun a ha => ihx1 (isub .i64 i1 1) a _ hm ?_)
  exact ⟨_, (hF1.trans hF3), hx3.pick [] (by decide) rfl, ha.cut (l := [0, 1, 5]) rfl⟩
 refine a0u 20 rfl hb2 ?_
 refine a0s rfl (a3l (a0q (a0q ?_)))
 refine fun a ha => hk1 () a _ hm ?_
 exact ⟨_, hF1, hx1.pick [] (by decide) rfl, ha.cut (l := []) rfl⟩
theorem ent60 : Ent Tryz.prog 60 := fun _ _ => by kernel_rfl
theorem ent80 : Ent Tryz.prog 80 := fun _ _ => by kernel_rfl
def b0a (n : Nat) (ax1 : Big) (b1 : Big) : Option Int :=
 (a3a n ax1).bind fun v1 =>
 (bif !v1 then
  some true
 else
  (a3a n b1).bind fun v5 =>
  some (!v5)).bind fun v2 =>
 bif v2 then
  some 0
 else
  bif ax1.Sign != b1.Sign then
   (cmp_Compare_int n ax1.Sign b1.Sign).bind fun v3 =>
   some v3
  else
   (a6p n ax1.Digits b1.Digits).bind fun v4 =>
   some (imul .i64 ax1.Sign v4)
set_option maxHeartbeats 1000000 in
set_option maxRecDepth 1000000 in
theorem b8w (n : Nat) (ax1 : Big) (b1 : Big) (r : Int) (hm : b0a n ax1 b1 = some r) {w : World} {F : Frz} (hs : Sat F w) {as1 : Option Addr} {ns1 : Nat} {cs1 : Nat} {as2 : Option Addr} {ns2 : Nat} {cs2 : Nat} (hs1 : SlR (Rp.int .i64) F as1 ns1 cs1 ax1.Digits) (hs2 : SlR (Rp.int .i64) F as2 ns2 cs2 b1.Digits) :
  Calls Tryz.prog 69 #[.agg #[.int .i64 ax1.Sign, .slice as1 ns1 cs1], .agg #[.int .i64 b1.Sign, .slice as2 ns2 cs2]] w fun e w' => ∃ v F' O', e = .returned v ∧ HS F w [] F' O' w' ∧ (v = .int .i64 r ∧ O' = []) := by
 unfold b0a at hm
 have h := HS.init hs
 refine a0x 31 Tryz.func69 rfl rfl rfl ?_
 refine a0f (a0a ?_)
 refine a2o rfl rfl rfl rfl h ?_
 intro b2 wx1 hx1
 refine a2o rfl rfl rfl rfl hx1 ?_
 intro b3 wx2 hx2
 refine a0b rfl rfl rfl (a0c (a0d (a0f (a0f (a0a ?_)))))
 refine a0k ag24 sz24 rfl rfl hx2 rfl (i := 1) rfl rfl ?_
 obtain ⟨v1, hv1, hm⟩ := bind_some hm
 refine a0g ent60 rfl rfl rfl rfl hx2 (a2s _ _ _ hv1 hx2.sat hs1) ?_
 rintro _ Fx1 _ wx3 hF1 hx3 ⟨rfl, rfl⟩
 refine a2x rfl rfl rfl (a0e rfl rfl rfl ?_)
 obtain ⟨v2, hb1, hm⟩ := bind_some hm
 refine a2k 4 (fun a w' => ∃ (Fx2 : Frz), Frz.le Fx1 Fx2 ∧ HS F w [] Fx2 [.box b3 24 [.int .i64 b1.Sign, .slice as2 ns2 cs2], .box b2 24 [.int .i64 ax1.Sign, .slice as1 ns1 cs1]] w' ∧ Has 31 a [(2, .pointer (some ⟨b2, 0, none⟩)), (3, .pointer (some ⟨b3, 0, none⟩)), (12, .bool v2)]) ?_ ?_
 ·rintro a wx4 ⟨Fx2, hF2, hx4, hax1⟩
  refine a1a hax1 ?_
  refine a0c (a0d ?_)
  rcases a0i hm with ⟨hb2, hm⟩ | ⟨hb2, hm⟩
  ·refine a0u 12 rfl hb2 ?_
   refine a0z rfl (a0f (a0a (a0b rfl rfl rfl (a0c (a0d (a1d (a0n ?_)))))))
   refine a1p rfl rfl ?_
   obtain rfl := Option.some.inj hm
   exact ⟨_, _, _, rfl, hx4.pick [] (by decide) rfl, rfl, rfl⟩
  refine a0u 12 rfl hb2 ?_
  refine a0s rfl (a1b (a0d (a0f (a0f (a0a ?_)))))
  refine a0h fa24_0 rfl rfl rfl ?_
  refine a0t ag3 rfl rfl hx4 rfl (i := 1) rfl rfl ?_
  refine a0h fa24_0 rfl rfl rfl ?_
  refine a0t ag3 rfl rfl hx4 rfl (i := 0) rfl rfl ?_
  refine a0v rfl rfl rfl rfl rfl ?_
  refine a0c (a0d ?_)
  rcases a0i hm with ⟨hb3, hm⟩ | ⟨hb3, hm⟩
  ·refine a0u 17 rfl hb3 ?_
   refine a0z rfl (a0f (a0a ?_))
   refine a0h fa24_0 rfl rfl rfl ?_
   refine a0t ag3 rfl rfl hx4 rfl (i := 1) rfl rfl ?_
   refine a0h fa24_0 rfl rfl rfl ?_
   refine a0t ag3 rfl rfl hx4 rfl (i := 0) rfl rfl ?_
   obtain ⟨v3, hv2, hm⟩ := bind_some hm
   refine a4e ent97 rfl rfl rfl rfl (a8d _ _ _ _ hv2) ?_
   refine a0b rfl rfl rfl (a0c (a0d (a1d (a0n ?_))))
   refine a1p rfl rfl ?_
   obtain rfl := Option.some.inj hm
   exact ⟨_, _, _, rfl, hx4.pick [] (by decide) rfl, rfl, rfl⟩
  refine a0u 17 rfl hb3 ?_
  refine a0s rfl (a1b (a0d (a0f ?_)))
  refine a4s (by kernel_rfl) (by kernel_rfl) hx4 ?_
  refine a1h rfl rfl rfl rfl (fun _ _ _ _ => a0h fa24_0 rfl rfl rfl (a0c (qq rfl))) ?_
  refine a1h rfl rfl rfl rfl (fun _ _ _ hq => a0t ag3 rfl rfl hq rfl (i := 1) rfl rfl (a0c (qq rfl))) ?_
  refine a1h rfl rfl rfl rfl (fun _ _ _ _ => a0h fa24_1 rfl rfl rfl (a0c (qq rfl))) ?_
  refine a1h rfl rfl rfl rfl (fun _ _ _ hq => a0t ag22 rfl rfl hq rfl (i := 1) rfl rfl (a0c (qq rfl))) ?_
  refine a1h rfl rfl rfl rfl (fun _ _ _ _ => a0h fa24_1 rfl rfl rfl (a0c (qq rfl))) ?_
  refine a1h rfl rfl rfl rfl (fun _ _ _ hq => a0t ag22 rfl rfl hq rfl (i := 0) rfl rfl (a0c (qq rfl))) ?_
  obtain ⟨v4, hv3, hm⟩ := bind_some hm
  refine a7k ent80 rfl rfl rfl rfl (fun _ _ hleq hq => b1k _ _ _ _ hv3 hq.sat (((hs1.mono hF1).mono hF2).mono hleq) (((hs2.mono hF1).mono hF2).mono hleq)) ?_
  refine a1h rfl rfl rfl rfl (fun _ _ _ _ => a0v rfl rfl rfl rfl rfl (a0c (qq rfl))) ?_
  refine a1h rfl rfl rfl rfl (fun _ _ _ _ => a0b rfl rfl rfl (a0c (qq rfl))) ?_
  refine b3x ?_
  rintro wx5 ⟨Fx3, hF3, hx5⟩
  refine a0d (a1d ?_)
  refine a1p rfl rfl ?_
  obtain rfl := Option.some.inj hm
  exact ⟨_, _, _, rfl, hx5.pick [] (by decide) rfl, rfl, rfl⟩
 clear hm
 rcases a0i hb1 with ⟨hb4, hb1⟩ | ⟨hb4, hb1⟩
 ·refine a1e 8 rfl hb4 ?_
  refine a0r rfl (by decide) rfl (a0r rfl (by decide) rfl (a0r rfl (by decide) rfl (a0m rfl rfl rfl rfl (a0c ?_))))
  refine a0p (fun a ha => ?_)
  cases hb1
  exact ⟨_, Frz.refl _, hx3.pick [0, 1] (by decide) rfl, ha.cut (l := [2, 3, 12]) rfl⟩
 refine a1e 8 rfl hb4 ?_
 refine a0k ag24 sz24 rfl rfl hx3 rfl (i := 0) rfl rfl ?_
 obtain ⟨v5, hv4, hb1⟩ := bind_some hb1
 refine a0g ent60 rfl rfl rfl rfl hx3 (a2s _ _ _ hv4 hx3.sat (hs2.mono hF1)) ?_
 rintro _ Fx4 _ wx6 hF4 hx6 ⟨rfl, rfl⟩
 refine a2x rfl rfl rfl (a0l rfl rfl rfl rfl (a0c ?_))
 refine a0p (fun a ha => ?_)
 cases hb1
 exact ⟨_, hF4, hx6.pick [0, 1] (by decide) rfl, ha.cut (l := [2, 3, 12]) rfl⟩
def a2t (n : Nat) (s11 : (List Int)) (s21 : (List Int)) (kont1 : Option Bool) : Nat → Int → Option Bool
 | 0, _ => none
 | mx1 + 1, i1 =>
  bif decide (i1 < (s11.length : Int)) then
   (ix s11 i1).bind fun ex1 =>
   (ix s21 i1).bind fun ex2 =>
   bif ex1 != ex2 then
    some false
   else
    a2t n s11 s21 kont1 mx1 (iadd .i64 i1 1)
  else
   kont1
theorem a5o (n : Nat) (s11 : (List Int)) (s21 : (List Int)) (kont1 : Option Bool) (mx1 : Nat) (i1 : Int) : a2t n s11 s21 kont1 (mx1 + 1) i1 =
  bif decide (i1 < (s11.length : Int)) then
   (ix s11 i1).bind fun ex1 =>
   (ix s21 i1).bind fun ex2 =>
   bif ex1 != ex2 then
    some false
   else
    a2t n s11 s21 kont1 mx1 (iadd .i64 i1 1)
  else
   kont1 := rfl
def a5r (n : Nat) (s11 : (List Int)) (s21 : (List Int)) : Option Bool :=
 bif (s11.length : Int) != (s21.length : Int) then
  some false
 else
  a2t n s11 s21 (
   some true) n 0
set_option maxHeartbeats 1000000 in
set_option maxRecDepth 1000000 in
theorem b1v (n : Nat) (s11 : (List Int)) (s21 : (List Int)) (r : Bool) (hm : a5r n s11 s21 = some r) {w : World} {F : Frz} (hs : Sat F w) {as1 : Option Addr} {ns1 : Nat} {cs1 : Nat} {as2 : Option Addr} {ns2 : Nat} {cs2 : Nat} (hs1 : SlR (Rp.int .i64) F as1 ns1 cs1 s11) (hs2 : SlR (Rp.int .i64) F as2 ns2 cs2 s21) :
  Calls Tryz.prog 98 #[.slice as1 ns1 cs1, .slice as2 ns2 cs2] w fun e w' => ∃ v F' O', e = .returned v ∧ HS F w [] F' O' w' ∧ (v = .bool r ∧ O' = []) := by
 unfold a5r at hm
 have h := HS.init hs
 refine a0x 26 Tryz.func98 rfl rfl rfl ?_
 refine a0f (a0a (a0b rfl rfl rfl (a0c (a0d (a0f (a0f (a0a (a0e rfl rfl rfl ?_))))))))
 refine a1z hs1.len u22 rfl rfl rfl ?_
 refine a0e rfl rfl rfl ?_
 refine a1z hs2.len u22 rfl rfl rfl ?_
 refine a0v rfl rfl rfl rfl rfl ?_
 refine a0c (a0d ?_)
 rcases a0i hm with ⟨hb1, hm⟩ | ⟨hb1, hm⟩
 ·refine a0u 10 rfl hb1 ?_
  refine a0z rfl (a0f (a0a (a0b rfl rfl rfl (a0c (a0d (a1d (a0n ?_)))))))
  refine a1p rfl rfl ?_
  obtain rfl := Option.some.inj hm
  exact ⟨_, _, _, rfl, h.pick [] (by decide) rfl, rfl, rfl⟩
 refine a0u 10 rfl hb1 ?_
 refine a0s rfl (a1b (a0d (a0f (a0f (a0a (a0e rfl rfl rfl ?_))))))
 refine a1z hs1.len u22 rfl rfl rfl ?_
 refine a0e rfl rfl rfl (a0c (a0d (a1i ?_)))
 intro a hax3
 obtain ⟨kont1, hkont1⟩ : ∃ kont1 : Option Bool, kont1 = (
      some true) := ⟨_, rfl⟩
 replace hm : (fun m (s : Int) => a2t n s11 s21 kont1 m s) n 0 = some r := by rw [hkont1]; exact hm
 refine a5u (id := 0) (fun m (s : Int) => a2t n s11 s21 kont1 m s) (fun (y : Unit) => kont1) r (fun (s : Int) a w' => ∃ (Fx1 : Frz), Frz.le F Fx1 ∧ HS F w [] Fx1 [] w' ∧ Has 26 a [(0, .slice as1 ns1 cs1), (1, .slice as2 ns2 cs2), (12, .int .i64 (s11.length : Int)), (13, .int .i64 s)]) (fun (y : Unit) a w' => ∃ (Fx2 : Frz), Frz.le F Fx2 ∧ HS F w [] Fx2 [] w' ∧ Has 26 a []) (fun _ => rfl) ?_ ?_ hm ⟨_, Frz.refl _, h.pick [] (by decide) rfl, hax3.cut (l := [0, 1, 12, 13]) rfl⟩
 ·clear hm; rintro _u a wx1 hm ⟨Fx2, hF2, hx2, hax1⟩
  rw [hkont1] at hm
  refine a2d (e := .exit 0) hax1 ?_
  refine a1j (a0d (a0f (a0a (a0b rfl rfl rfl (a0c (a0d (a1d ?_)))))))
  refine a1p rfl rfl ?_
  obtain rfl := Option.some.inj hm
  exact ⟨_, _, _, rfl, hx2.pick [] (by decide) rfl, rfl, rfl⟩
 clear hm hkont1; intro hk1 mx1 K ihx1
 rintro i1 a wx2 hm ⟨Fx1, hF1, hx1, hax2⟩
 simp only [a5o] at hm
 refine a1l hax2 ?_
 refine a0f (a0a ?_)
 refine a0v rfl rfl rfl rfl rfl ?_
 refine a0c (a0d (a0f ?_))
 rcases a0i hm with ⟨hb2, hm⟩ | ⟨hb2, hm⟩
 ·refine a0u 14 rfl hb2 ?_
  refine a0z rfl (a1b (a0d (a0f (a1i (a0f (a0a (a0e rfl rfl rfl (a0b rfl rfl rfl (a0c (a0d (a0f ?_)))))))))))
  refine a4s (by kernel_rfl) (by kernel_rfl) hx1 ?_
  refine a1h rfl rfl rfl rfl (fun _ _ _ _ => a0e rfl rfl rfl (a0c (qq rfl))) ?_
  refine a1h rfl rfl rfl rfl (fun _ _ _ _ => a0e rfl rfl rfl (a0c (qq rfl))) ?_
  obtain ⟨ex1, he1, hm⟩ := bind_some hm
  obtain ⟨b1, o1, cs1, hf1, hr1, hrun1⟩ := a5c (P := Tryz.prog) (r := (Rp.int .i64)) u22 sz3 (hs1.mono hF1) he1
  have hc1 : cs1 = [.int .i64 ex1] := hr1
  subst hc1
  refine a4v rfl rfl rfl rfl hrun1 ?_
  refine a1h rfl rfl rfl rfl (fun _ _ hleq hq => a2h (j := 0) ag3 rfl rfl hq (hf1.mono hleq) rfl rfl (a0c (qq rfl))) ?_
  refine a1h rfl rfl rfl rfl (fun _ _ _ _ => a0e rfl rfl rfl (a0c (qq rfl))) ?_
  refine a1h rfl rfl rfl rfl (fun _ _ _ _ => a0e rfl rfl rfl (a0c (qq rfl))) ?_
  obtain ⟨ex2, he2, hm⟩ := bind_some hm
  obtain ⟨b2, o2, cs2, hf2, hr2, hrun2⟩ := a5c (P := Tryz.prog) (r := (Rp.int .i64)) u22 sz3 (hs2.mono hF1) he2
  have hc2 : cs2 = [.int .i64 ex2] := hr2
  subst hc2
  refine a4v rfl rfl rfl rfl hrun2 ?_
  refine a1h rfl rfl rfl rfl (fun _ _ hleq hq => a2h (j := 0) ag3 rfl rfl hq (hf2.mono hleq) rfl rfl (a0c (qq rfl))) ?_
  refine a1h rfl rfl rfl rfl (fun _ _ _ _ => a0v rfl rfl rfl rfl rfl (a0c (qq rfl))) ?_
  refine b3x ?_
  rintro wx3 ⟨Fx3, hF3, hx3⟩
  refine a0d ?_
  rcases a0i hm with ⟨hb3, hm⟩ | ⟨hb3, hm⟩
  ·refine a0u 24 rfl hb3 ?_
   refine a0z rfl (a0f (a0a (a0b rfl rfl rfl (a0c (a0d (a1d (a1n (a0n (a0n (a1n (a0n ?_)))))))))))
   refine a1p rfl rfl ?_
   obtain rfl := Option.some.inj hm
   exact ⟨_, _, _, rfl, hx3.pick [] (by decide) rfl, rfl, rfl⟩
  refine a0u 24 rfl hb3 ?_
  refine a0s rfl (a1b (a2a (a0d (a0a ?_))))
  refine a0v rfl rfl rfl rfl rfl ?_
  refine a0e rfl rfl rfl (a0c ?_)
  refine a0p (fun a ha => ihx1 (iadd .i64 i1 1) a _ hm ?_)
  exact ⟨_, (hF1.trans hF3), hx3.pick [] (by decide) rfl, ha.cut (l := [0, 1, 12, 13]) rfl⟩
 refine a0u 14 rfl hb2 ?_
 refine a0s rfl (a3l (a0q (a0q ?_)))
 refine fun a ha => hk1 () a _ hm ?_
 exact ⟨_, hF1, hx1.pick [] (by decide) rfl, ha.cut (l := []) rfl⟩
theorem ent98 : Ent Tryz.prog 98 := fun _ _ => by kernel_rfl
def b3k (n : Nat) (ax1 : Big) (b1 : Big) : Option Bool :=
 (bif ax1.Sign == b1.Sign then
  (a5r n ax1.Digits b1.Digits).bind fun v2 =>
  some v2
 else
  some false).bind fun v1 =>
 some v1
set_option maxHeartbeats 1000000 in
set_option maxRecDepth 1000000 in
theorem b7v (n : Nat) (ax1 : Big) (b1 : Big) (r : Bool) (hm : b3k n ax1 b1 = some r) {w : World} {F : Frz} (hs : Sat F w) {as1 : Option Addr} {ns1 : Nat} {cs1 : Nat} {as2 : Option Addr} {ns2 : Nat} {cs2 : Nat} (hs1 : SlR (Rp.int .i64) F as1 ns1 cs1 ax1.Digits) (hs2 : SlR (Rp.int .i64) F as2 ns2 cs2 b1.Digits) :
  Calls Tryz.prog 70 #[.agg #[.int .i64 ax1.Sign, .slice as1 ns1 cs1], .agg #[.int .i64 b1.Sign, .slice as2 ns2 cs2]] w fun e w' => ∃ v F' O', e = .returned v ∧ HS F w [] F' O' w' ∧ (v = .bool r ∧ O' = []) := by
 unfold b3k at hm
 have h := HS.init hs
 refine a0x 17 Tryz.func70 rfl rfl rfl ?_
 refine a0f (a0a ?_)
 refine a2o rfl rfl rfl rfl h ?_
 intro b2 wx1 hx1
 refine a2o rfl rfl rfl rfl hx1 ?_
 intro b3 wx2 hx2
 refine a0b rfl rfl rfl (a0c (a0d (a0f (a0a ?_))))
 refine a0h fa24_0 rfl rfl rfl ?_
 refine a0t ag3 rfl rfl hx2 rfl (i := 1) rfl rfl ?_
 refine a0h fa24_0 rfl rfl rfl ?_
 refine a0t ag3 rfl rfl hx2 rfl (i := 0) rfl rfl ?_
 refine a0v rfl rfl rfl rfl rfl ?_
 refine a0e rfl rfl rfl ?_
 obtain ⟨v1, hb1, hm⟩ := bind_some hm
 refine a2k 6 (fun a w' => ∃ (Fx1 : Frz), Frz.le F Fx1 ∧ HS F w [] Fx1 [.box b3 24 [.int .i64 b1.Sign, .slice as2 ns2 cs2], .box b2 24 [.int .i64 ax1.Sign, .slice as1 ns1 cs1]] w' ∧ Has 17 a [(16, .bool v1)]) ?_ ?_
 ·rintro a wx3 ⟨Fx1, hF1, hx3, hax1⟩
  refine a1a hax1 ?_
  refine a0b rfl rfl rfl (a0c (a0d (a1d ?_)))
  refine a1p rfl rfl ?_
  obtain rfl := Option.some.inj hm
  exact ⟨_, _, _, rfl, hx3.pick [] (by decide) rfl, rfl, rfl⟩
 clear hm
 rcases a0i hb1 with ⟨hb2, hb1⟩ | ⟨hb2, hb1⟩
 ·refine a1e 10 rfl hb2 ?_
  refine a0h fa24_1 rfl rfl rfl ?_
  refine a0t ag22 rfl rfl hx2 rfl (i := 1) rfl rfl ?_
  refine a0h fa24_1 rfl rfl rfl ?_
  refine a0t ag22 rfl rfl hx2 rfl (i := 0) rfl rfl ?_
  obtain ⟨v2, hv1, hb1⟩ := bind_some hb1
  refine a0g ent98 rfl rfl rfl rfl hx2 (b1v _ _ _ _ hv1 hx2.sat hs1 hs2) ?_
  rintro _ Fx2 _ wx4 hF2 hx4 ⟨rfl, rfl⟩
  refine a0m rfl rfl rfl rfl (a0c ?_)
  refine a0p (fun a ha => ?_)
  cases hb1
  exact ⟨_, hF2, hx4.pick [0, 1] (by decide) rfl, ha.cut (l := [16]) rfl⟩
 refine a1e 10 rfl hb2 ?_
 refine a0r rfl (by decide) rfl (a0r rfl (by decide) rfl (a0r rfl (by decide) rfl (a0r rfl (by decide) rfl (a0r rfl (by decide) rfl (a0l rfl rfl rfl rfl (a0c ?_))))))
 refine a0p (fun a ha => ?_)
 cases hb1
 exact ⟨_, Frz.refl _, hx2.pick [0, 1] (by decide) rfl, ha.cut (l := [16]) rfl⟩
theorem ap22 : AppIs Tryz.prog 22 3 1 8 := AppIs.of (z := .int .i64 0) (by kernel_rfl) (by kernel_rfl) rfl (by decide) (by decide)
def a1v (_n : Nat) (s1 : (List Int)) : Option (List Int) := app 8 [] s1
set_option maxHeartbeats 1000000 in
theorem a3y (n : Nat) (s1 : (List Int)) (r : (List Int)) (hm : a1v n s1 = some r) {w : World} {F : Frz} (hs : Sat F w) {as1 : Option Addr} {ns1 : Nat} {cs1 : Nat} (hs1 : SlR (Rp.int .i64) F as1 ns1 cs1 s1) :
  Calls Tryz.prog 82 #[.slice as1 ns1 cs1] w fun e w' => ∃ v F' O', e = .returned v ∧ HS F w [] F' O' w' ∧ (∃ (a0_0 : Option Addr) (n0_0 : Nat) (c0_0 : Nat) (xs0_0 : List Value), v = .slice a0_0 n0_0 c0_0 ∧ O' = [.row 3 1 a0_0 n0_0 c0_0 xs0_0] ∧ RowN (Rp.int .i64) F' n0_0 xs0_0 r) := by
 unfold a1v at hm
 have h := HS.init hs
 refine a0x (args := [.slice as1 ns1 cs1]) 8 Tryz.func82 rfl rfl rfl ?_
 refine a0f (a0a (a0b rfl rfl rfl (a0c (a0d (a0f (a0f (a0a (a0e rfl rfl rfl ?_))))))))
 refine d0j u22 rfl rfl rfl ?_
 refine a0c (a0d ?_)
 cases as1 with
 | none =>
  have h0 : s1 = [] := by
   rcases hs1.2.2.2 with h0 | ⟨_, _, _, h0, _⟩
   ·exact h0
   cases h0
  subst h0
  simp only [app, List.length_nil, Nat.add_zero, Nat.zero_mul, Nat.zero_le, if_true, List.append_nil, Option.some.injEq] at hm
  subst hm
  refine a0z rfl (a0f (a0a (a0b rfl rfl rfl (a0c (a0d (a1d (a0n ?_)))))))
  refine a1p rfl rfl ?_
  exact ⟨_, _, _, rfl, h.nilRow 3 1, none, 0, 0, [], rfl, rfl, rfl, rfl⟩
 | some ad =>
  refine a0s rfl (a1b (a0d (a0f (a0a ?_))))
  refine a1x (e := 3) (cs := []) (q := 1) rfl rfl h rfl (fun _ => by kernel_rfl) rfl rfl ?_
  intro b1 w1 h1
  refine a0e rfl rfl rfl ?_
  refine b7d (r := (Rp.int .i64)) ap22 rfl rfl rfl h1 rfl rfl (i := 0) rfl (show RowN (Rp.int .i64) _ 0 [] [] from ⟨rfl, rfl⟩) hs1 hm ?_
  intro a2 c2 w2 xs2 h2 hr2
  refine a0b rfl rfl rfl (a0c (a0d (a1d ?_)))
  refine a1p rfl rfl ?_
  exact ⟨_, _, _, rfl, h2, a2, _, c2, xs2, rfl, rfl, hr2⟩
theorem ent82 : Ent Tryz.prog 82 := fun _ _ => by kernel_rfl
theorem ent76 : Ent Tryz.prog 76 := fun _ _ => by kernel_rfl
def b1f (n : Nat) (ax1 : Big) : Option Big :=
 (a3a n ax1).bind fun v1 =>
 bif !v1 then
  some (⟨0, []⟩ : Big)
 else
  (a1v n ax1.Digits).bind fun v2 =>
  (a1y n (IntKind.i64.wrap (0 - ax1.Sign)) v2).bind fun v3 =>
  some v3
set_option maxHeartbeats 1000000 in
set_option maxRecDepth 1000000 in
theorem a6j (n : Nat) (ax1 : Big) (r : Big) (hm : b1f n ax1 = some r) {w : World} {F : Frz} (hs : Sat F w) {as1 : Option Addr} {ns1 : Nat} {cs1 : Nat} (hs1 : SlR (Rp.int .i64) F as1 ns1 cs1 ax1.Digits) :
  Calls Tryz.prog 50 #[.agg #[.int .i64 ax1.Sign, .slice as1 ns1 cs1]] w fun e w' => ∃ v F' O', e = .returned v ∧ HS F w [] F' O' w' ∧ (∃ (a0_1 : Option Addr) (n0_1 : Nat) (c0_1 : Nat), v = .agg #[.int .i64 r.Sign, .slice a0_1 n0_1 c0_1] ∧ O' = [] ∧ SlR (Rp.int .i64) F' a0_1 n0_1 c0_1 r.Digits) := by
 unfold b1f at hm
 have h := HS.init hs
 refine a0x 14 Tryz.func50 rfl rfl rfl ?_
 refine a0f (a0a ?_)
 refine a2o rfl rfl rfl rfl h ?_
 intro b1 wx1 hx1
 refine a0y ze24 rfl rfl rfl hx1 ?_
 intro b2 wx2 hx2
 refine a0c (a0d (a0f (a0f (a0a ?_))))
 refine a0k ag24 sz24 rfl rfl hx2 rfl (i := 1) rfl rfl ?_
 obtain ⟨v1, hv1, hm⟩ := bind_some hm
 refine a0g ent60 rfl rfl rfl rfl hx2 (a2s _ _ _ hv1 hx2.sat hs1) ?_
 rintro _ Fx1 _ wx3 hF1 hx3 ⟨rfl, rfl⟩
 refine a2x rfl rfl rfl (a0c (a0d ?_))
 rcases a0i hm with ⟨hb1, hm⟩ | ⟨hb1, hm⟩
 ·refine a0u 5 rfl hb1 ?_
  refine a0z rfl (a0f (a0a ?_))
  refine a1r (v := .agg #[.int .i64 0, .slice none 0 0]) rfl rfl rfl (fun _ => by kernel_rfl) ?_
  refine a0o sz24 rfl hx3 rfl rfl rfl rfl (i := 0) rfl rfl rfl rfl ?_
  intro wx4 hx4
  refine a0c (a0d (a1d (a0n ?_)))
  refine a6l rfl ag24 sz24 rfl hx4 rfl (i := 0) rfl ?_
  obtain rfl := Option.some.inj hm
  exact ⟨_, _, _, rfl, hx4.pick [] (by decide) rfl, none, 0, 0, rfl, rfl, SlR.nil _ _⟩
 refine a0u 5 rfl hb1 ?_
 refine a0s rfl (a1b (a0d (a0f ?_)))
 refine a2m (SH Fx1 [.box b1 24 [.int .i64 ax1.Sign, .slice as1 ns1 cs1]]) 8 rfl (by kernel_rfl) hx3 ?_
 intro wx5 hx5
 refine d_tk 0 rfl (by kernel_rfl) rfl rfl rfl rfl (hx5.sh (Frz.refl _) [1] (by decide) rfl) (fun _ _ _ _ _ => a0h fa24_0 rfl rfl rfl (a0c (qq rfl))) ?_
 refine d_tk 1 rfl (by kernel_rfl) rfl rfl rfl rfl (hx5.sh (Frz.refl _) [1] (by decide) rfl) (fun _ _ _ _ hq => a0t ag3 rfl rfl hq rfl (i := 0) rfl rfl (a0c (qq rfl))) ?_
 refine d_tk 2 rfl (by kernel_rfl) rfl rfl rfl rfl (hx5.sh (Frz.refl _) [1] (by decide) rfl) (fun _ _ _ _ _ => c3w rfl rfl rfl (a0c (qq rfl))) ?_
 refine d_tk 3 rfl (by kernel_rfl) rfl rfl rfl rfl (hx5.sh (Frz.refl _) [1] (by decide) rfl) (fun _ _ _ _ _ => a0h fa24_1 rfl rfl rfl (a0c (qq rfl))) ?_
 refine d_tk 4 rfl (by kernel_rfl) rfl rfl rfl rfl (hx5.sh (Frz.refl _) [1] (by decide) rfl) (fun _ _ _ _ hq => a0t ag22 rfl rfl hq rfl (i := 0) rfl rfl (a0c (qq rfl))) ?_
 refine a1c 5 rfl (by kernel_rfl) ?_
 obtain ⟨v2, hv2, hm⟩ := bind_some hm
 refine a0g ent82 rfl rfl rfl rfl hx5 (a3y _ _ _ hv2 hx5.sat (hs1.mono hF1)) ?_
 rintro _ Fx2 _ wx6 hF2 hx6 ⟨as2, ns2, cs2, xss2, rfl, rfl, hs2⟩
 refine a0w (hx6.sh hF2 [2] (by decide) rfl) ?_
 refine a1c 6 rfl (by kernel_rfl) ?_
 obtain ⟨Fx3, hF3, hx7, hsx1⟩ := a1g hx6 (i := 0) rfl hs2
 obtain ⟨v3, hv3, hm⟩ := bind_some hm
 refine a0g ent76 rfl rfl rfl rfl hx7 (a3d _ _ _ _ hv3 hx7.sat hsx1) ?_
 rintro _ Fx4 _ wx7 hF4 hx8 ⟨as3, ns3, cs3, rfl, rfl, hs3⟩
 refine a0w (hx8.sh ((hF2.trans hF3).trans hF4) [1] (by decide) rfl) ?_
 refine a1c 7 rfl (by kernel_rfl) ?_
 refine a0o sz24 rfl hx8 rfl rfl rfl rfl (i := 0) rfl rfl rfl rfl ?_
 intro wx8 hx9
 refine a0w (hx9.sh ((hF2.trans hF3).trans hF4) [1] (by decide) rfl) ?_
 refine a3v (by kernel_rfl) ?_
 refine a0d (a1d ?_)
 refine a6l rfl ag24 sz24 rfl hx9 rfl (i := 0) rfl ?_
 obtain rfl := Option.some.inj hm
 exact ⟨_, _, _, rfl, hx9.pick [] (by decide) rfl, as3, ns3, cs3, rfl, rfl, hs3⟩
theorem zi3 : (Tryz.prog.info? 3).map (·.zero) = some (some (.int .i64 0)) := by kernel_rfl
def a7u (n : Nat) (ax2 : (List Int)) (b2 : (List Int)) (kont1 : Int → (List Int) → Option (List Int)) : Nat → Int → Int → (List Int) → Option (List Int)
 | 0, _, _, _ => none
 | mx1 + 1, carry1, i1, l2 =>
  bif decide (i1 < (ax2.length : Int)) then
   (ix ax2 i1).bind fun ex2 =>
   (bif decide (i1 < (b2.length : Int)) then
    (ix b2 i1).bind fun ex4 =>
    some (iadd .i64 (iadd .i64 carry1 ex2) ex4)
   else
    some (iadd .i64 carry1 ex2)).bind fun carry3 =>
   (ix l2 i1).bind fun _ =>
   (lset l2 i1 (iand .i64 carry3 1048575)).bind fun l5 =>
   (shr .i64 carry3 20).bind fun q1 =>
   a7u n ax2 b2 kont1 mx1 q1 (iadd .i64 i1 1) l5
  else
   kont1 carry1 l2
theorem b3e (n : Nat) (ax2 : (List Int)) (b2 : (List Int)) (kont1 : Int → (List Int) → Option (List Int)) (mx1 : Nat) (carry1 : Int) (i1 : Int) (l2 : List Int) : a7u n ax2 b2 kont1 (mx1 + 1) carry1 i1 l2 =
  bif decide (i1 < (ax2.length : Int)) then
   (ix ax2 i1).bind fun ex2 =>
   (bif decide (i1 < (b2.length : Int)) then
    (ix b2 i1).bind fun ex4 =>
    some (iadd .i64 (iadd .i64 carry1 ex2) ex4)
   else
    some (iadd .i64 carry1 ex2)).bind fun carry3 =>
   (ix l2 i1).bind fun _ =>
   (lset l2 i1 (iand .i64 carry3 1048575)).bind fun l5 =>
   (shr .i64 carry3 20).bind fun q1 =>
   a7u n ax2 b2 kont1 mx1 q1 (iadd .i64 i1 1) l5
  else
   kont1 carry1 l2 := rfl
def b1j (n : Nat) (ax1 : (List Int)) (b1 : (List Int)) : Option (List Int) :=
 (bif decide ((ax1.length : Int) < (b1.length : Int)) then
  some (b1, ax1)
 else
  some (ax1, b1)).bind fun (ax2, b2) =>
 (mks 8 0 (iadd .i64 (ax2.length : Int) 1)).bind fun l1 =>
 a7u n ax2 b2 (fun (carry2 : Int) (l3 : List Int) =>
  (ix l3 (ax2.length : Int)).bind fun _ =>
  (lset l3 (ax2.length : Int) carry2).bind fun l4 =>
  (a2u n l4).bind fun v1 =>
  some v1) n 0 0 l1
set_option maxHeartbeats 1000000 in
set_option maxRecDepth 1000000 in
theorem b5e (n : Nat) (ax1 : (List Int)) (b1 : (List Int)) (r : (List Int)) (hm : b1j n ax1 b1 = some r) {w : World} {F : Frz} (hs : Sat F w) {as1 : Option Addr} {ns1 : Nat} {cs1 : Nat} {as2 : Option Addr} {ns2 : Nat} {cs2 : Nat} (hs1 : SlR (Rp.int .i64) F as1 ns1 cs1 ax1) (hs2 : SlR (Rp.int .i64) F as2 ns2 cs2 b1) :
  Calls Tryz.prog 79 #[.slice as1 ns1 cs1, .slice as2 ns2 cs2] w fun e w' => ∃ v F' O', e = .returned v ∧ HS F w [] F' O' w' ∧ (∃ (a0_0 : Option Addr) (n0_0 : Nat) (c0_0 : Nat) (xs0_0 : List Value), v = .slice a0_0 n0_0 c0_0 ∧ O' = [.row 3 1 a0_0 n0_0 c0_0 xs0_0] ∧ RowN (Rp.int .i64) F' n0_0 xs0_0 r) := by
 unfold b1j at hm
 have h := HS.init hs
 refine a0x 55 Tryz.func79 rfl rfl rfl ?_
 refine a0f (a0a (a0b rfl rfl rfl (a0c (a0d (a0f (a0f (a0a (a0e rfl rfl rfl ?_))))))))
 refine a1z hs1.len u22 rfl rfl rfl ?_
 refine a0e rfl rfl rfl ?_
 refine a1z hs2.len u22 rfl rfl rfl ?_
 refine a0v rfl rfl rfl rfl rfl ?_
 refine a0c (a0d ?_)
 obtain ⟨⟨ax2, b2⟩, hb1, hm⟩ := bind_some hm
 refine b0q (fun a w' => ∃ (as3 : Option Addr) (ns3 : Nat) (cs3 : Nat) (as4 : Option Addr) (ns4 : Nat) (cs4 : Nat), w = w' ∧ (SlR (Rp.int .i64) F as3 ns3 cs3 ax2) ∧ (SlR (Rp.int .i64) F as4 ns4 cs4 b2) ∧ Has 55 a [(0, .slice as3 ns3 cs3), (1, .slice as4 ns4 cs4)]) ?_ ?_
 ·rintro a wx1 ⟨as3, ns3, cs3, as4, ns4, cs4, rfl, hs3, hs4, hax1⟩
  refine a1l hax1 ?_
  refine a0f (a0a (a0e rfl rfl rfl ?_))
  refine a1z hs3.len u22 rfl rfl rfl ?_
  refine a0v rfl rfl rfl rfl rfl ?_
  obtain ⟨l1, hl1, hm⟩ := bind_some hm
  refine b6x (r := (Rp.int .i64)) ap22 zi3 (fun _ => rfl) rfl rfl rfl h rfl rfl hl1 ?_
  intro b3 wx2 xs1 hx1 hr1
  refine a0b rfl rfl rfl (a0c (a0d (a0f (a0a (a0b rfl rfl rfl (a0c (a0d (a0f (a0f (a0a (a0e rfl rfl rfl ?_)))))))))))
  refine a1z hs3.len u22 rfl rfl rfl ?_
  refine a0e rfl rfl rfl (a0c (a0d (a1i ?_)))
  intro a hax7
  obtain ⟨kont1, hkont1⟩ : ∃ kont1 : Int → (List Int) → Option (List Int), kont1 = (fun (carry2 : Int) (l3 : List Int) =>
       (ix l3 (ax2.length : Int)).bind fun ex1 =>
       (lset l3 (ax2.length : Int) carry2).bind fun l4 =>
       (a2u n l4).bind fun v1 =>
       some v1) := ⟨_, rfl⟩
  replace hm : (fun m (s : Int × Int × List Int) => a7u n ax2 b2 kont1 m s.1 s.2.1 s.2.2) n (0, 0, l1) = some r := by rw [hkont1]; exact hm
  refine a5u (id := 0) (fun m (s : Int × Int × List Int) => a7u n ax2 b2 kont1 m s.1 s.2.1 s.2.2) (fun (y : Int × List Int) => kont1 y.1 y.2) r (fun (s : Int × Int × List Int) a w' => ∃ (Fx1 : Frz) (as5 : Option Addr) (ns5 : Nat) (cs5 : Nat) (xss5 : List Value), Frz.le F Fx1 ∧ HS F w [] Fx1 [.row 3 1 as5 ns5 cs5 xss5] w' ∧ (RowN (Rp.int .i64) Fx1 ns5 xss5 s.2.2) ∧ Has 55 a [(0, .slice as3 ns3 cs3), (1, .slice as4 ns4 cs4), (5, .slice as5 ns5 cs5), (6, .int .i64 s.1), (20, .slice as3 ns3 cs3), (21, .int .i64 (ax2.length : Int)), (22, .int .i64 s.2.1)]) (fun (y : Int × List Int) a w' => ∃ (Fx2 : Frz) (as6 : Option Addr) (ns6 : Nat) (cs6 : Nat) (xss6 : List Value), Frz.le F Fx2 ∧ HS F w [] Fx2 [.row 3 1 as6 ns6 cs6 xss6] w' ∧ (RowN (Rp.int .i64) Fx2 ns6 xss6 y.2) ∧ Has 55 a [(0, .slice as3 ns3 cs3), (5, .slice as6 ns6 cs6), (6, .int .i64 y.1)]) (fun _ => rfl) ?_ ?_ hm ⟨_, (some ⟨b3, 0, none⟩), ((iadd .i64 (ax2.length : Int) 1).toNat), ((iadd .i64 (ax2.length : Int) 1).toNat), xs1, Frz.refl _, hx1.pick [0] (by decide) rfl, hr1, hax7.cut (l := [0, 1, 5, 6, 20, 21, 22]) rfl⟩
  ·clear hm; rintro ⟨carry2, l3⟩ a wx3 hm ⟨Fx2, as6, ns6, cs6, xss6, hF2, hx3, hs6, hax2⟩
   rw [hkont1] at hm
   replace hm := hm
   refine a2d (e := .exit 0) hax2 ?_
   refine a1j (a0d (a0f (a0a (a0e rfl rfl rfl (a0e rfl rfl rfl ?_)))))
   refine a1z hs3.len u22 rfl rfl rfl ?_
   refine a0e rfl rfl rfl ?_
   obtain ⟨ex1, he1, hm⟩ := bind_some hm
   refine a5h (r := (Rp.int .i64)) u22 sz3 rfl rfl hx3 rfl rfl (p := 0) rfl rfl hs6 he1 ?_
   intro b4 o1 cs1 hax3 ho1 hr2 hp1
   have hc1 : cs1 = [.int .i64 ex1] := hr2
   subst hc1
   obtain ⟨l4, hl2, hm⟩ := bind_some hm
   refine a4r (r := (Rp.int .i64)) sz3 rfl hx3 rfl rfl rfl rfl rfl (p := 0) rfl rfl hax3 ho1 hs6 rfl rfl hl2 ?_
   intro wx4 xs2 hx4 hr3
   refine a0c (a0d (a0f (a0a (a0e rfl rfl rfl ?_))))
   obtain ⟨v1, hv1, hm⟩ := bind_some hm
   refine b1w ent91 rfl rfl rfl rfl (a6f _ _ _ hv1 (a7l _) (hx4.viewRow (p := 0) rfl rfl hr3)) ?_
   intro ns7 hles7 hvs7
   obtain ⟨hx5, hr4⟩ := hx4.cutN (p := 0) rfl hr3 hles7
   rw [← hvs7] at hr4
   refine a0b rfl rfl rfl (a0c (a0d (a1d ?_)))
   refine a1p rfl rfl ?_
   obtain rfl := Option.some.inj hm
   exact ⟨_, _, _, rfl, hx5.pick [0] (by decide) rfl, as6, ns7, cs6, (xs2.take (ns7 * ((Rp.int .i64)).k)), rfl, rfl, hr4⟩
  clear hm hkont1; intro hk1 mx1 K ihx1
  rintro ⟨carry1, i1, l2⟩ a wx5 hm ⟨Fx1, as5, ns5, cs5, xss5, hF1, hx2, hs5, hax4⟩
  simp only [b3e] at hm
  refine a1l hax4 ?_
  refine a0f (a0a ?_)
  refine a0v rfl rfl rfl rfl rfl ?_
  refine a0c (a0d (a0f ?_))
  rcases a0i hm with ⟨hb2, hm⟩ | ⟨hb2, hm⟩
  ·refine a0u 23 rfl hb2 ?_
   refine a0z rfl (a1b (a0d (a0f (a1i (a0f (a0a (a0e rfl rfl rfl ?_)))))))
   obtain ⟨ex2, he2, hm⟩ := bind_some hm
   refine a3w (r := (Rp.int .i64)) u22 sz3 rfl rfl rfl rfl (hs3.mono hF1) he2 ?_
   intro b5 o2 cs2 hf1 hr5
   have hc2 : cs2 = [.int .i64 ex2] := hr5
   subst hc2
   refine a2h (j := 0) ag3 rfl rfl hx2 hf1 rfl rfl ?_
   refine a0b rfl rfl rfl (a0b rfl rfl rfl (a0c (a0d (a0f (a0a (a0e rfl rfl rfl (a0e rfl rfl rfl ?_)))))))
   refine a0v rfl rfl rfl rfl rfl ?_
   refine a0b rfl rfl rfl (a0c (a0d (a0f (a0f (a0a (a0e rfl rfl rfl (a0e rfl rfl rfl ?_)))))))
   refine a1z hs4.len u22 rfl rfl rfl ?_
   refine a0v rfl rfl rfl rfl rfl ?_
   refine a0c (a0d ?_)
   obtain ⟨carry3, hb3, hm⟩ := bind_some hm
   refine b0q (fun a w' => wx5 = w' ∧ Has 55 a [(0, .slice as3 ns3 cs3), (1, .slice as4 ns4 cs4), (5, .slice as5 ns5 cs5), (6, .int .i64 carry3), (7, .int .i64 i1), (20, .slice as3 ns3 cs3), (21, .int .i64 (ax2.length : Int)), (22, .int .i64 i1)]) ?_ ?_
   ·rintro a wx6 ⟨rfl, hax5⟩
    refine a1l hax5 ?_
    refine a0f (a0a (a0e rfl rfl rfl (a0e rfl rfl rfl (a0e rfl rfl rfl ?_))))
    refine a0v rfl rfl rfl rfl rfl ?_
    obtain ⟨ex3, he3, hm⟩ := bind_some hm
    refine a5h (r := (Rp.int .i64)) u22 sz3 rfl rfl hx2 rfl rfl (p := 0) rfl rfl hs5 he3 ?_
    intro b6 o3 cs3 hax6 ho2 hr6 hp2
    have hc3 : cs3 = [.int .i64 ex3] := hr6
    subst hc3
    obtain ⟨l5, hl3, hm⟩ := bind_some hm
    refine a4r (r := (Rp.int .i64)) sz3 rfl hx2 rfl rfl rfl rfl rfl (p := 0) rfl rfl hax6 ho2 hs5 rfl rfl hl3 ?_
    intro wx7 xs3 hx6 hr7
    refine a0c (a0d (a0a (a0e rfl rfl rfl ?_)))
    obtain ⟨q1, hq1, hm⟩ := bind_some hm
    refine c3m rfl rfl rfl rfl hq1 ?_
    refine a0b rfl rfl rfl (a0c (a2a (a0d (a0a ?_))))
    refine a0v rfl rfl rfl rfl rfl ?_
    refine a0e rfl rfl rfl (a0c ?_)
    refine a0p (fun a ha => ihx1 (q1, (iadd .i64 i1 1), l5) a _ hm ?_)
    exact ⟨_, as5, ns5, cs5, xs3, hF1, hx6.pick [0] (by decide) rfl, hr7, ha.cut (l := [0, 1, 5, 6, 20, 21, 22]) rfl⟩
   clear hm
   rcases a0i hb3 with ⟨hb4, hb3⟩ | ⟨hb4, hb3⟩
   ·refine a0u 33 rfl hb4 ?_
    refine a0z rfl (a0a (a0e rfl rfl rfl (a0e rfl rfl rfl (a0e rfl rfl rfl ?_))))
    obtain ⟨ex4, he4, hb3⟩ := bind_some hb3
    refine a3w (r := (Rp.int .i64)) u22 sz3 rfl rfl rfl rfl (hs4.mono hF1) he4 ?_
    intro b7 o4 cs4 hf2 hr8
    have hc4 : cs4 = [.int .i64 ex4] := hr8
    subst hc4
    refine a2h (j := 0) ag3 rfl rfl hx2 hf2 rfl rfl ?_
    refine a0v rfl rfl rfl rfl rfl ?_
    refine a0b rfl rfl rfl (a0c ?_)
    refine a0p (fun a ha => ?_)
    cases hb3
    exact ⟨rfl, ha.cut (l := [0, 1, 5, 6, 7, 20, 21, 22]) rfl⟩
   refine a0u 33 rfl hb4 ?_
   refine a0s rfl (a1b ?_)
   refine a0p (fun a ha => ?_)
   cases hb3
   exact ⟨rfl, ha.cut (l := [0, 1, 5, 6, 7, 20, 21, 22]) rfl⟩
  refine a0u 23 rfl hb2 ?_
  refine a0s rfl (a3l (a0q (a0q ?_)))
  refine fun a ha => hk1 (carry1, l2) a _ hm ?_
  exact ⟨_, as5, ns5, cs5, xss5, hF1, hx2.pick [0] (by decide) rfl, hs5, ha.cut (l := [0, 5, 6]) rfl⟩
 clear hm
 rcases a0i hb1 with ⟨hb5, hb1⟩ | ⟨hb5, hb1⟩
 ·refine a0u 13 rfl hb5 ?_
  refine a0z rfl (a0a (a0e rfl rfl rfl (a0e rfl rfl rfl (a0b rfl rfl rfl (a0b rfl rfl rfl (a0c ?_))))))
  refine a0p (fun a ha => ?_)
  cases hb1
  exact ⟨as2, ns2, cs2, as1, ns1, cs1, rfl, hs2, hs1, ha.cut (l := [0, 1]) rfl⟩
 refine a0u 13 rfl hb5 ?_
 refine a0s rfl (a1b ?_)
 refine a0p (fun a ha => ?_)
 cases hb1
 exact ⟨as1, ns1, cs1, as2, ns2, cs2, rfl, hs1, hs2, ha.cut (l := [0, 1]) rfl⟩
def a8n (n : Nat) (b1 : (List Int)) (v1 : (List Int)) (kont1 : (List Int) → Option (List Int)) : Nat → Int → Int → (List Int) → Option (List Int)
 | 0, _, _, _ => none
 | mx1 + 1, borrow1, i1, l1 =>
  bif decide (i1 < (v1.length : Int)) then
   (ix l1 i1).bind fun ex1 =>
   (bif decide (i1 < (b1.length : Int)) then
    (ix b1 i1).bind fun ex3 =>
    some (isub .i64 (isub .i64 ex1 borrow1) ex3)
   else
    some (isub .i64 ex1 borrow1)).bind fun nx1 =>
   (shr .i64 nx1 20).bind fun q1 =>
   (ix l1 i1).bind fun _ =>
   (lset l1 i1 (iand .i64 nx1 1048575)).bind fun l3 =>
   a8n n b1 v1 kont1 mx1 (iand .i64 q1 1) (iadd .i64 i1 1) l3
  else
   kont1 l1
theorem b3i (n : Nat) (b1 : (List Int)) (v1 : (List Int)) (kont1 : (List Int) → Option (List Int)) (mx1 : Nat) (borrow1 : Int) (i1 : Int) (l1 : List Int) : a8n n b1 v1 kont1 (mx1 + 1) borrow1 i1 l1 =
  bif decide (i1 < (v1.length : Int)) then
   (ix l1 i1).bind fun ex1 =>
   (bif decide (i1 < (b1.length : Int)) then
    (ix b1 i1).bind fun ex3 =>
    some (isub .i64 (isub .i64 ex1 borrow1) ex3)
   else
    some (isub .i64 ex1 borrow1)).bind fun nx1 =>
   (shr .i64 nx1 20).bind fun q1 =>
   (ix l1 i1).bind fun _ =>
   (lset l1 i1 (iand .i64 nx1 1048575)).bind fun l3 =>
   a8n n b1 v1 kont1 mx1 (iand .i64 q1 1) (iadd .i64 i1 1) l3
  else
   kont1 l1 := rfl
def b3c (n : Nat) (ax1 : (List Int)) (b1 : (List Int)) : Option (List Int) :=
 (a1v n ax1).bind fun v1 =>
 a8n n b1 v1 (fun (l2 : List Int) =>
  (a2u n l2).bind fun v2 =>
  some v2) n 0 0 v1
set_option maxHeartbeats 1000000 in
set_option maxRecDepth 1000000 in
theorem b5n (n : Nat) (ax1 : (List Int)) (b1 : (List Int)) (r : (List Int)) (hm : b3c n ax1 b1 = some r) {w : World} {F : Frz} (hs : Sat F w) {as1 : Option Addr} {ns1 : Nat} {cs1 : Nat} {as2 : Option Addr} {ns2 : Nat} {cs2 : Nat} (hs1 : SlR (Rp.int .i64) F as1 ns1 cs1 ax1) (hs2 : SlR (Rp.int .i64) F as2 ns2 cs2 b1) :
  Calls Tryz.prog 81 #[.slice as1 ns1 cs1, .slice as2 ns2 cs2] w fun e w' => ∃ v F' O', e = .returned v ∧ HS F w [] F' O' w' ∧ (∃ (a0_0 : Option Addr) (n0_0 : Nat) (c0_0 : Nat) (xs0_0 : List Value), v = .slice a0_0 n0_0 c0_0 ∧ O' = [.row 3 1 a0_0 n0_0 c0_0 xs0_0] ∧ RowN (Rp.int .i64) F' n0_0 xs0_0 r) := by
 unfold b3c at hm
 have h := HS.init hs
 refine a0x 43 Tryz.func81 rfl rfl rfl ?_
 refine a0f (a0a (a0b rfl rfl rfl (a0c (a0d (a0f (a0a (a0e rfl rfl rfl ?_)))))))
 obtain ⟨v1, hv1, hm⟩ := bind_some hm
 refine a0g ent82 rfl rfl rfl rfl h (a3y _ _ _ hv1 h.sat hs1) ?_
 rintro _ Fx1 _ wx1 hF1 hx1 ⟨as3, ns3, cs3, xss3, rfl, rfl, hs3⟩
 refine a0b rfl rfl rfl (a0c (a0d (a0f (a0a (a0b rfl rfl rfl (a0c (a0d (a0f (a0f (a0a (a0e rfl rfl rfl ?_)))))))))))
 refine a1z hs3.len u22 rfl rfl rfl ?_
 refine a0e rfl rfl rfl (a0c (a0d (a1i ?_)))
 intro a hax6
 obtain ⟨kont1, hkont1⟩ : ∃ kont1 : (List Int) → Option (List Int), kont1 = (fun (l2 : List Int) =>
       (a2u n l2).bind fun v2 =>
       some v2) := ⟨_, rfl⟩
 replace hm : (fun m (s : Int × Int × List Int) => a8n n b1 v1 kont1 m s.1 s.2.1 s.2.2) n (0, 0, v1) = some r := by rw [hkont1]; exact hm
 refine a5u (id := 0) (fun m (s : Int × Int × List Int) => a8n n b1 v1 kont1 m s.1 s.2.1 s.2.2) (fun (y : List Int) => kont1 y) r (fun (s : Int × Int × List Int) a w' => ∃ (Fx2 : Frz) (as4 : Option Addr) (ns4 : Nat) (cs4 : Nat) (xss4 : List Value), Frz.le Fx1 Fx2 ∧ HS F w [] Fx2 [.row 3 1 as4 ns4 cs4 xss4] w' ∧ (RowN (Rp.int .i64) Fx2 ns4 xss4 s.2.2) ∧ Has 43 a [(1, .slice as2 ns2 cs2), (5, .slice as4 ns4 cs4), (6, .int .i64 s.1), (12, .int .i64 (v1.length : Int)), (13, .int .i64 s.2.1)]) (fun (y : List Int) a w' => ∃ (Fx3 : Frz) (as5 : Option Addr) (ns5 : Nat) (cs5 : Nat) (xss5 : List Value), Frz.le Fx1 Fx3 ∧ HS F w [] Fx3 [.row 3 1 as5 ns5 cs5 xss5] w' ∧ (RowN (Rp.int .i64) Fx3 ns5 xss5 y) ∧ Has 43 a [(5, .slice as5 ns5 cs5)]) (fun _ => rfl) ?_ ?_ hm ⟨_, as3, ns3, cs3, xss3, Frz.refl _, hx1.pick [0] (by decide) rfl, hs3, hax6.cut (l := [1, 5, 6, 12, 13]) rfl⟩
 ·clear hm; rintro l2 a wx2 hm ⟨Fx3, as5, ns5, cs5, xss5, hF3, hx3, hs5, hax1⟩
  rw [hkont1] at hm
  replace hm := hm
  refine a2d (e := .exit 0) hax1 ?_
  refine a1j (a0d (a0f (a0a (a0e rfl rfl rfl ?_))))
  obtain ⟨v2, hv2, hm⟩ := bind_some hm
  refine b1w ent91 rfl rfl rfl rfl (a6f _ _ _ hv2 (a7l _) (hx3.viewRow (p := 0) rfl rfl hs5)) ?_
  intro ns6 hles6 hvs6
  obtain ⟨hx4, hr1⟩ := hx3.cutN (p := 0) rfl hs5 hles6
  rw [← hvs6] at hr1
  refine a0b rfl rfl rfl (a0c (a0d (a1d ?_)))
  refine a1p rfl rfl ?_
  obtain rfl := Option.some.inj hm
  exact ⟨_, _, _, rfl, hx4.pick [0] (by decide) rfl, as5, ns6, cs5, (xss5.take (ns6 * ((Rp.int .i64)).k)), rfl, rfl, hr1⟩
 clear hm hkont1; intro hk1 mx1 K ihx1
 rintro ⟨borrow1, i1, l1⟩ a wx3 hm ⟨Fx2, as4, ns4, cs4, xss4, hF2, hx2, hs4, hax2⟩
 simp only [b3i] at hm
 refine a1l hax2 ?_
 refine a0f (a0a ?_)
 refine a0v rfl rfl rfl rfl rfl ?_
 refine a0c (a0d (a0f ?_))
 rcases a0i hm with ⟨hb1, hm⟩ | ⟨hb1, hm⟩
 ·refine a0u 14 rfl hb1 ?_
  refine a0z rfl (a1b (a0d (a0f (a1i (a0f (a0a (a0e rfl rfl rfl (a0b rfl rfl rfl (a0c (a0d (a0f (a0a (a0e rfl rfl rfl (a0e rfl rfl rfl ?_))))))))))))))
  obtain ⟨ex1, he1, hm⟩ := bind_some hm
  refine a5h (r := (Rp.int .i64)) u22 sz3 rfl rfl hx2 rfl rfl (p := 0) rfl rfl hs4 he1 ?_
  intro b2 o1 cs1 hax3 ho1 hr2 hp1
  have hc1 : cs1 = [.int .i64 ex1] := hr2
  subst hc1
  refine a6z (j := 0) ag3 rfl rfl hx2 rfl (p := 0) rfl rfl hax3 ho1 hp1 rfl ?_
  refine a0e rfl rfl rfl ?_
  refine a0v rfl rfl rfl rfl rfl ?_
  refine a0b rfl rfl rfl (a0c (a0d (a0f (a0f (a0a (a0e rfl rfl rfl (a0e rfl rfl rfl ?_)))))))
  refine a1z hs2.len u22 rfl rfl rfl ?_
  refine a0v rfl rfl rfl rfl rfl ?_
  refine a0c (a0d ?_)
  obtain ⟨nx1, hb2, hm⟩ := bind_some hm
  refine b0q (fun a w' => wx3 = w' ∧ Has 43 a [(1, .slice as2 ns2 cs2), (5, .slice as4 ns4 cs4), (7, .int .i64 i1), (8, .int .i64 nx1), (12, .int .i64 (v1.length : Int)), (13, .int .i64 i1)]) ?_ ?_
  ·rintro a wx4 ⟨rfl, hax4⟩
   refine a1l hax4 ?_
   refine a0f (a0a (a0e rfl rfl rfl ?_))
   obtain ⟨q1, hq1, hm⟩ := bind_some hm
   refine c3m rfl rfl rfl rfl hq1 ?_
   refine a0v rfl rfl rfl rfl rfl ?_
   refine a0b rfl rfl rfl (a0c (a0d (a0a (a0e rfl rfl rfl (a0e rfl rfl rfl (a0e rfl rfl rfl ?_))))))
   refine a0v rfl rfl rfl rfl rfl ?_
   obtain ⟨ex2, he2, hm⟩ := bind_some hm
   refine a5h (r := (Rp.int .i64)) u22 sz3 rfl rfl hx2 rfl rfl (p := 0) rfl rfl hs4 he2 ?_
   intro b3 o2 cs2 hax5 ho2 hr3 hp2
   have hc2 : cs2 = [.int .i64 ex2] := hr3
   subst hc2
   obtain ⟨l3, hl1, hm⟩ := bind_some hm
   refine a4r (r := (Rp.int .i64)) sz3 rfl hx2 rfl rfl rfl rfl rfl (p := 0) rfl rfl hax5 ho2 hs4 rfl rfl hl1 ?_
   intro wx5 xs1 hx5 hr4
   refine a0c (a2a (a0d (a0a ?_)))
   refine a0v rfl rfl rfl rfl rfl ?_
   refine a0e rfl rfl rfl (a0c ?_)
   refine a0p (fun a ha => ihx1 ((iand .i64 q1 1), (iadd .i64 i1 1), l3) a _ hm ?_)
   exact ⟨_, as4, ns4, cs4, xs1, hF2, hx5.pick [0] (by decide) rfl, hr4, ha.cut (l := [1, 5, 6, 12, 13]) rfl⟩
  clear hm
  rcases a0i hb2 with ⟨hb3, hb2⟩ | ⟨hb3, hb2⟩
  ·refine a0u 25 rfl hb3 ?_
   refine a0z rfl (a0a (a0e rfl rfl rfl (a0e rfl rfl rfl (a0e rfl rfl rfl ?_))))
   obtain ⟨ex3, he3, hb2⟩ := bind_some hb2
   refine a3w (r := (Rp.int .i64)) u22 sz3 rfl rfl rfl rfl ((hs2.mono hF1).mono hF2) he3 ?_
   intro b4 o3 cs3 hf1 hr5
   have hc3 : cs3 = [.int .i64 ex3] := hr5
   subst hc3
   refine a2h (j := 0) ag3 rfl rfl hx2 hf1 rfl rfl ?_
   refine a0v rfl rfl rfl rfl rfl ?_
   refine a0b rfl rfl rfl (a0c ?_)
   refine a0p (fun a ha => ?_)
   cases hb2
   exact ⟨rfl, ha.cut (l := [1, 5, 7, 8, 12, 13]) rfl⟩
  refine a0u 25 rfl hb3 ?_
  refine a0s rfl (a1b ?_)
  refine a0p (fun a ha => ?_)
  cases hb2
  exact ⟨rfl, ha.cut (l := [1, 5, 7, 8, 12, 13]) rfl⟩
 refine a0u 14 rfl hb1 ?_
 refine a0s rfl (a3l (a0q (a0q ?_)))
 refine fun a ha => hk1 l1 a _ hm ?_
 exact ⟨_, as4, ns4, cs4, xss4, hF2, hx2.pick [0] (by decide) rfl, hs4, ha.cut (l := [5]) rfl⟩
def a7o (n : Nat) (b1 : (List Int)) (i1 : Int) (ex1 : Int) (kont2 : Int → (List Int) → Option (List Int)) : Nat → Int → Int → (List Int) → Option (List Int)
 | 0, _, _, _ => none
 | mx2 + 1, carry1, i2, l4 =>
  bif decide (i2 < (b1.length : Int)) then
   (ix b1 i2).bind fun ex4 =>
   (ix l4 (iadd .i64 i1 i2)).bind fun ex5 =>
   (shr .i64 (iadd .i64 (iadd .i64 ex5 (imul .i64 ex1 ex4)) carry1) 20).bind fun q1 =>
   (ix l4 (iadd .i64 i1 i2)).bind fun _ =>
   (lset l4 (iadd .i64 i1 i2) (iand .i64 (iadd .i64 (iadd .i64 ex5 (imul .i64 ex1 ex4)) carry1) 1048575)).bind fun l7 =>
   a7o n b1 i1 ex1 kont2 mx2 q1 (iadd .i64 i2 1) l7
  else
   kont2 carry1 l4
theorem b2t (n : Nat) (b1 : (List Int)) (i1 : Int) (ex1 : Int) (kont2 : Int → (List Int) → Option (List Int)) (mx2 : Nat) (carry1 : Int) (i2 : Int) (l4 : List Int) : a7o n b1 i1 ex1 kont2 (mx2 + 1) carry1 i2 l4 =
  bif decide (i2 < (b1.length : Int)) then
   (ix b1 i2).bind fun ex4 =>
   (ix l4 (iadd .i64 i1 i2)).bind fun ex5 =>
   (shr .i64 (iadd .i64 (iadd .i64 ex5 (imul .i64 ex1 ex4)) carry1) 20).bind fun q1 =>
   (ix l4 (iadd .i64 i1 i2)).bind fun _ =>
   (lset l4 (iadd .i64 i1 i2) (iand .i64 (iadd .i64 (iadd .i64 ex5 (imul .i64 ex1 ex4)) carry1) 1048575)).bind fun l7 =>
   a7o n b1 i1 ex1 kont2 mx2 q1 (iadd .i64 i2 1) l7
  else
   kont2 carry1 l4 := rfl
def a6y (n : Nat) (ax1 : (List Int)) (b1 : (List Int)) (kont1 : (List Int) → Option (List Int)) : Nat → Int → (List Int) → Option (List Int)
 | 0, _, _ => none
 | mx1 + 1, i1, l2 =>
  bif decide (i1 < (ax1.length : Int)) then
   (ix ax1 i1).bind fun ex1 =>
   a7o n b1 i1 ex1 (fun (carry2 : Int) (l5 : List Int) =>
    (ix l5 (iadd .i64 i1 (b1.length : Int))).bind fun ex2 =>
    (ix l5 (iadd .i64 i1 (b1.length : Int))).bind fun _ =>
    (lset l5 (iadd .i64 i1 (b1.length : Int)) (iadd .i64 ex2 carry2)).bind fun l6 =>
    a6y n ax1 b1 kont1 mx1 (iadd .i64 i1 1) l6) n 0 0 l2
  else
   kont1 l2
theorem b2w (n : Nat) (ax1 : (List Int)) (b1 : (List Int)) (kont1 : (List Int) → Option (List Int)) (mx1 : Nat) (i1 : Int) (l2 : List Int) : a6y n ax1 b1 kont1 (mx1 + 1) i1 l2 =
  bif decide (i1 < (ax1.length : Int)) then
   (ix ax1 i1).bind fun ex1 =>
   a7o n b1 i1 ex1 (fun (carry2 : Int) (l5 : List Int) =>
    (ix l5 (iadd .i64 i1 (b1.length : Int))).bind fun ex2 =>
    (ix l5 (iadd .i64 i1 (b1.length : Int))).bind fun _ =>
    (lset l5 (iadd .i64 i1 (b1.length : Int)) (iadd .i64 ex2 carry2)).bind fun l6 =>
    a6y n ax1 b1 kont1 mx1 (iadd .i64 i1 1) l6) n 0 0 l2
  else
   kont1 l2 := rfl
def a8o (n : Nat) (ax1 : (List Int)) (b1 : (List Int)) : Option (List Int) :=
 (mks 8 0 (iadd .i64 (ax1.length : Int) (b1.length : Int))).bind fun l1 =>
 a6y n ax1 b1 (fun (l3 : List Int) =>
  (a2u n l3).bind fun v1 =>
  some v1) n 0 l1
set_option maxHeartbeats 1000000 in
set_option maxRecDepth 1000000 in
theorem b3t (n : Nat) (ax1 : (List Int)) (b1 : (List Int)) (r : (List Int)) (hm : a8o n ax1 b1 = some r) {w : World} {F : Frz} (hs : Sat F w) {as1 : Option Addr} {ns1 : Nat} {cs1 : Nat} {as2 : Option Addr} {ns2 : Nat} {cs2 : Nat} (hs1 : SlR (Rp.int .i64) F as1 ns1 cs1 ax1) (hs2 : SlR (Rp.int .i64) F as2 ns2 cs2 b1) :
  Calls Tryz.prog 77 #[.slice as1 ns1 cs1, .slice as2 ns2 cs2] w fun e w' => ∃ v F' O', e = .returned v ∧ HS F w [] F' O' w' ∧ (∃ (a0_0 : Option Addr) (n0_0 : Nat) (c0_0 : Nat) (xs0_0 : List Value), v = .slice a0_0 n0_0 c0_0 ∧ O' = [.row 3 1 a0_0 n0_0 c0_0 xs0_0] ∧ RowN (Rp.int .i64) F' n0_0 xs0_0 r) := by
 unfold a8o at hm
 have h := HS.init hs
 refine a0x 67 Tryz.func77 rfl rfl rfl ?_
 refine a0f (a0a (a0b rfl rfl rfl (a0c (a0d (a0f (a0a (a0e rfl rfl rfl ?_)))))))
 refine a1z hs1.len u22 rfl rfl rfl ?_
 refine a0e rfl rfl rfl ?_
 refine a1z hs2.len u22 rfl rfl rfl ?_
 refine a0v rfl rfl rfl rfl rfl ?_
 obtain ⟨l1, hl1, hm⟩ := bind_some hm
 refine b6x (r := (Rp.int .i64)) ap22 zi3 (fun _ => rfl) rfl rfl rfl h rfl rfl hl1 ?_
 intro b2 wx1 xs1 hx1 hr1
 refine a0b rfl rfl rfl (a0c (a0d (a0f (a0f (a0a (a0e rfl rfl rfl ?_))))))
 refine a1z hs1.len u22 rfl rfl rfl ?_
 refine a0e rfl rfl rfl (a0c (a0d (a1i ?_)))
 intro a hax10
 obtain ⟨kont1, hkont1⟩ : ∃ kont1 : (List Int) → Option (List Int), kont1 = (fun (l3 : List Int) =>
       (a2u n l3).bind fun v1 =>
       some v1) := ⟨_, rfl⟩
 replace hm : (fun m (s : Int × List Int) => a6y n ax1 b1 kont1 m s.1 s.2) n (0, l1) = some r := by rw [hkont1]; exact hm
 refine a5u (id := 0) (fun m (s : Int × List Int) => a6y n ax1 b1 kont1 m s.1 s.2) (fun (y : List Int) => kont1 y) r (fun (s : Int × List Int) a w' => ∃ (Fx1 : Frz) (as3 : Option Addr) (ns3 : Nat) (cs3 : Nat) (xss3 : List Value), Frz.le F Fx1 ∧ HS F w [] Fx1 [.row 3 1 as3 ns3 cs3 xss3] w' ∧ (RowN (Rp.int .i64) Fx1 ns3 xss3 s.2) ∧ Has 67 a [(1, .slice as2 ns2 cs2), (5, .slice as3 ns3 cs3), (18, .slice as1 ns1 cs1), (19, .int .i64 (ax1.length : Int)), (20, .int .i64 s.1)]) (fun (y : List Int) a w' => ∃ (Fx2 : Frz) (as4 : Option Addr) (ns4 : Nat) (cs4 : Nat) (xss4 : List Value), Frz.le F Fx2 ∧ HS F w [] Fx2 [.row 3 1 as4 ns4 cs4 xss4] w' ∧ (RowN (Rp.int .i64) Fx2 ns4 xss4 y) ∧ Has 67 a [(5, .slice as4 ns4 cs4)]) (fun _ => rfl) ?_ ?_ hm ⟨_, (some ⟨b2, 0, none⟩), ((iadd .i64 (ax1.length : Int) (b1.length : Int)).toNat), ((iadd .i64 (ax1.length : Int) (b1.length : Int)).toNat), xs1, Frz.refl _, hx1.pick [0] (by decide) rfl, hr1, hax10.cut (l := [1, 5, 18, 19, 20]) rfl⟩
 ·clear hm; rintro l3 a wx2 hm ⟨Fx2, as4, ns4, cs4, xss4, hF2, hx3, hs4, hax1⟩
  rw [hkont1] at hm
  replace hm := hm
  refine a2d (e := .exit 0) hax1 ?_
  refine a1j (a0d (a0f (a0a (a0e rfl rfl rfl ?_))))
  obtain ⟨v1, hv1, hm⟩ := bind_some hm
  refine b1w ent91 rfl rfl rfl rfl (a6f _ _ _ hv1 (a7l _) (hx3.viewRow (p := 0) rfl rfl hs4)) ?_
  intro ns5 hles5 hvs5
  obtain ⟨hx4, hr2⟩ := hx3.cutN (p := 0) rfl hs4 hles5
  rw [← hvs5] at hr2
  refine a0b rfl rfl rfl (a0c (a0d (a1d ?_)))
  refine a1p rfl rfl ?_
  obtain rfl := Option.some.inj hm
  exact ⟨_, _, _, rfl, hx4.pick [0] (by decide) rfl, as4, ns5, cs4, (xss4.take (ns5 * ((Rp.int .i64)).k)), rfl, rfl, hr2⟩
 clear hm hkont1; intro hk1 mx1 K ihx1
 rintro ⟨i1, l2⟩ a wx3 hm ⟨Fx1, as3, ns3, cs3, xss3, hF1, hx2, hs3, hax2⟩
 simp only [b2w] at hm
 refine a1l hax2 ?_
 refine a0f (a0a ?_)
 refine a0v rfl rfl rfl rfl rfl ?_
 refine a0c (a0d (a0f ?_))
 rcases a0i hm with ⟨hb1, hm⟩ | ⟨hb1, hm⟩
 ·refine a0u 21 rfl hb1 ?_
  refine a0z rfl (a1b (a0d (a0f (a1i (a0f (a0a (a0e rfl rfl rfl ?_)))))))
  obtain ⟨ex1, he1, hm⟩ := bind_some hm
  refine a3w (r := (Rp.int .i64)) u22 sz3 rfl rfl rfl rfl (hs1.mono hF1) he1 ?_
  intro b3 o1 cs1 hf1 hr3
  have hc1 : cs1 = [.int .i64 ex1] := hr3
  subst hc1
  refine a2h (j := 0) ag3 rfl rfl hx2 hf1 rfl rfl ?_
  refine a0b rfl rfl rfl (a0b rfl rfl rfl (a0c (a0d (a0f (a0a (a0b rfl rfl rfl (a0c (a0d (a0f (a0f (a0a (a0e rfl rfl rfl ?_))))))))))))
  refine a1z hs2.len u22 rfl rfl rfl ?_
  refine a0e rfl rfl rfl (a0c (a0d (a1i ?_)))
  intro a hax9
  obtain ⟨kont2, hkont2⟩ : ∃ kont2 : Int → (List Int) → Option (List Int), kont2 = (fun (carry2 : Int) (l5 : List Int) =>
      (ix l5 (iadd .i64 i1 (b1.length : Int))).bind fun ex2 =>
      (ix l5 (iadd .i64 i1 (b1.length : Int))).bind fun ex3 =>
      (lset l5 (iadd .i64 i1 (b1.length : Int)) (iadd .i64 ex2 carry2)).bind fun l6 =>
      a6y n ax1 b1 kont1 mx1 (iadd .i64 i1 1) l6) := ⟨_, rfl⟩
  replace hm : (fun m (s : Int × Int × List Int) => a7o n b1 i1 ex1 kont2 m s.1 s.2.1 s.2.2) n (0, 0, l2) = some r := by rw [hkont2]; exact hm
  refine a5u (id := 2) (fun m (s : Int × Int × List Int) => a7o n b1 i1 ex1 kont2 m s.1 s.2.1 s.2.2) (fun (y : Int × List Int) => kont2 y.1 y.2) r (fun (s : Int × Int × List Int) a w' => ∃ (Fx3 : Frz) (as6 : Option Addr) (ns6 : Nat) (cs6 : Nat) (xss6 : List Value), Frz.le Fx1 Fx3 ∧ HS F w [] Fx3 [.row 3 1 as6 ns6 cs6 xss6] w' ∧ (RowN (Rp.int .i64) Fx3 ns6 xss6 s.2.2) ∧ Has 67 a [(1, .slice as2 ns2 cs2), (5, .slice as6 ns6 cs6), (6, .int .i64 i1), (7, .int .i64 ex1), (8, .int .i64 s.1), (18, .slice as1 ns1 cs1), (19, .int .i64 (ax1.length : Int)), (20, .int .i64 i1), (25, .slice as2 ns2 cs2), (26, .int .i64 (b1.length : Int)), (27, .int .i64 s.2.1)]) (fun (y : Int × List Int) a w' => ∃ (Fx4 : Frz) (as7 : Option Addr) (ns7 : Nat) (cs7 : Nat) (xss7 : List Value), Frz.le Fx1 Fx4 ∧ HS F w [] Fx4 [.row 3 1 as7 ns7 cs7 xss7] w' ∧ (RowN (Rp.int .i64) Fx4 ns7 xss7 y.2) ∧ Has 67 a [(1, .slice as2 ns2 cs2), (5, .slice as7 ns7 cs7), (6, .int .i64 i1), (8, .int .i64 y.1), (18, .slice as1 ns1 cs1), (19, .int .i64 (ax1.length : Int)), (20, .int .i64 i1)]) (fun _ => rfl) ?_ ?_ hm ⟨_, as3, ns3, cs3, xss3, Frz.refl _, hx2.pick [0] (by decide) rfl, hs3, hax9.cut (l := [1, 5, 6, 7, 8, 18, 19, 20, 25, 26, 27]) rfl⟩
  ·clear hm; rintro ⟨carry2, l5⟩ a wx4 hm ⟨Fx4, as7, ns7, cs7, xss7, hF4, hx6, hs7, hax3⟩
   rw [hkont2] at hm
   replace hm := hm
   refine a2d (e := .exit 2) hax3 ?_
   refine a1j (a0d (a0a (a0e rfl rfl rfl (a0e rfl rfl rfl (a0e rfl rfl rfl ?_)))))
   refine a1z hs2.len u22 rfl rfl rfl ?_
   refine a0v rfl rfl rfl rfl rfl ?_
   obtain ⟨ex2, he2, hm⟩ := bind_some hm
   refine a5h (r := (Rp.int .i64)) u22 sz3 rfl rfl hx6 rfl rfl (p := 0) rfl rfl hs7 he2 ?_
   intro b4 o2 cs2 hax4 ho1 hr4 hp1
   have hc2 : cs2 = [.int .i64 ex2] := hr4
   subst hc2
   refine a6z (j := 0) ag3 rfl rfl hx6 rfl (p := 0) rfl rfl hax4 ho1 hp1 rfl ?_
   refine a0e rfl rfl rfl ?_
   refine a0v rfl rfl rfl rfl rfl ?_
   obtain ⟨ex3, he3, hm⟩ := bind_some hm
   refine a5h (r := (Rp.int .i64)) u22 sz3 rfl rfl hx6 rfl rfl (p := 0) rfl rfl hs7 he3 ?_
   intro b5 o3 cs3 hax5 ho2 hr5 hp2
   have hc3 : cs3 = [.int .i64 ex3] := hr5
   subst hc3
   obtain ⟨l6, hl2, hm⟩ := bind_some hm
   refine a4r (r := (Rp.int .i64)) sz3 rfl hx6 rfl rfl rfl rfl rfl (p := 0) rfl rfl hax5 ho2 hs7 rfl rfl hl2 ?_
   intro wx5 xs2 hx7 hr6
   refine a0c (a2a (a0d (a0a ?_)))
   refine a0v rfl rfl rfl rfl rfl ?_
   refine a0e rfl rfl rfl (a0c ?_)
   refine a0p (fun a ha => ihx1 ((iadd .i64 i1 1), l6) a _ hm ?_)
   exact ⟨_, as7, ns7, cs7, xs2, (hF1.trans hF4), hx7.pick [0] (by decide) rfl, hr6, ha.cut (l := [1, 5, 18, 19, 20]) rfl⟩
  clear hm hkont2; intro hk2 mx2 K ihx2
  rintro ⟨carry1, i2, l4⟩ a wx6 hm ⟨Fx3, as6, ns6, cs6, xss6, hF3, hx5, hs6, hax6⟩
  simp only [b2t] at hm
  refine a1l hax6 ?_
  refine a0f (a0a ?_)
  refine a0v rfl rfl rfl rfl rfl ?_
  refine a0c (a0d (a0f ?_))
  rcases a0i hm with ⟨hb2, hm⟩ | ⟨hb2, hm⟩
  ·refine a0u 28 rfl hb2 ?_
   refine a0z rfl (a1b (a0d (a0f (a1i (a0f (a0a (a0e rfl rfl rfl ?_)))))))
   obtain ⟨ex4, he4, hm⟩ := bind_some hm
   refine a3w (r := (Rp.int .i64)) u22 sz3 rfl rfl rfl rfl ((hs2.mono hF1).mono hF3) he4 ?_
   intro b6 o4 cs4 hf2 hr7
   have hc4 : cs4 = [.int .i64 ex4] := hr7
   subst hc4
   refine a2h (j := 0) ag3 rfl rfl hx5 hf2 rfl rfl ?_
   refine a0b rfl rfl rfl (a0b rfl rfl rfl (a0c (a0d (a0f (a0a (a0e rfl rfl rfl (a0e rfl rfl rfl (a0e rfl rfl rfl ?_))))))))
   refine a0v rfl rfl rfl rfl rfl ?_
   obtain ⟨ex5, he5, hm⟩ := bind_some hm
   refine a5h (r := (Rp.int .i64)) u22 sz3 rfl rfl hx5 rfl rfl (p := 0) rfl rfl hs6 he5 ?_
   intro b7 o5 cs5 hax7 ho3 hr8 hp3
   have hc5 : cs5 = [.int .i64 ex5] := hr8
   subst hc5
   refine a6z (j := 0) ag3 rfl rfl hx5 rfl (p := 0) rfl rfl hax7 ho3 hp3 rfl ?_
   refine a0e rfl rfl rfl (a0e rfl rfl rfl ?_)
   refine a0v rfl rfl rfl rfl rfl ?_
   refine a0v rfl rfl rfl rfl rfl ?_
   refine a0e rfl rfl rfl ?_
   refine a0v rfl rfl rfl rfl rfl ?_
   refine a0b rfl rfl rfl (a0c (a0d (a0a (a0e rfl rfl rfl (a0e rfl rfl rfl (a0e rfl rfl rfl ?_))))))
   refine a0v rfl rfl rfl rfl rfl ?_
   refine a0e rfl rfl rfl ?_
   refine a0v rfl rfl rfl rfl rfl ?_
   refine a0e rfl rfl rfl ?_
   obtain ⟨q1, hq1, hm⟩ := bind_some hm
   refine c3m rfl rfl rfl rfl hq1 ?_
   obtain ⟨ex6, he6, hm⟩ := bind_some hm
   refine a5h (r := (Rp.int .i64)) u22 sz3 rfl rfl hx5 rfl rfl (p := 0) rfl rfl hs6 he6 ?_
   intro b8 o6 cs6 hax8 ho4 hr9 hp4
   have hc6 : cs6 = [.int .i64 ex6] := hr9
   subst hc6
   obtain ⟨l7, hl3, hm⟩ := bind_some hm
   refine a4r (r := (Rp.int .i64)) sz3 rfl hx5 rfl rfl rfl rfl rfl (p := 0) rfl rfl hax8 ho4 hs6 rfl rfl hl3 ?_
   intro wx7 xs3 hx8 hr10
   refine a0b rfl rfl rfl (a0c (a2a (a0d (a0a ?_))))
   refine a0v rfl rfl rfl rfl rfl ?_
   refine a0e rfl rfl rfl (a0c ?_)
   refine a0p (fun a ha => ihx2 (q1, (iadd .i64 i2 1), l7) a _ hm ?_)
   exact ⟨_, as6, ns6, cs6, xs3, hF3, hx8.pick [0] (by decide) rfl, hr10, ha.cut (l := [1, 5, 6, 7, 8, 18, 19, 20, 25, 26, 27]) rfl⟩
  refine a0u 28 rfl hb2 ?_
  refine a0s rfl (a3l (a0q (a0q ?_)))
  refine fun a ha => hk2 (carry1, l4) a _ hm ?_
  exact ⟨_, as6, ns6, cs6, xss6, hF3, hx5.pick [0] (by decide) rfl, hs6, ha.cut (l := [1, 5, 6, 8, 18, 19, 20]) rfl⟩
 refine a0u 21 rfl hb1 ?_
 refine a0s rfl (a3l (a0q (a0q ?_)))
 refine fun a ha => hk1 l2 a _ hm ?_
 exact ⟨_, as3, ns3, cs3, xss3, hF1, hx2.pick [0] (by decide) rfl, hs3, ha.cut (l := [5]) rfl⟩
def a6u (n : Nat) (ax1 : (List Int)) (d1 : Int) (kont1 : Int → (List Int) → Option ((List Int) × Int)) : Nat → Int → Int → (List Int) → Option ((List Int) × Int)
 | 0, _, _, _ => none
 | mx1 + 1, rx1, i1, l2 =>
  bif decide (0 ≤ i1) then
   (shl .i64 rx1 20).bind fun q1 =>
   (ix ax1 i1).bind fun ex1 =>
   (quo .i64 (ior .i64 q1 ex1) d1).bind fun q2 =>
   (ix l2 i1).bind fun _ =>
   (lset l2 i1 q2).bind fun l4 =>
   (rem (ior .i64 q1 ex1) d1).bind fun q3 =>
   a6u n ax1 d1 kont1 mx1 q3 (isub .i64 i1 1) l4
  else
   kont1 rx1 l2
theorem b1h (n : Nat) (ax1 : (List Int)) (d1 : Int) (kont1 : Int → (List Int) → Option ((List Int) × Int)) (mx1 : Nat) (rx1 : Int) (i1 : Int) (l2 : List Int) : a6u n ax1 d1 kont1 (mx1 + 1) rx1 i1 l2 =
  bif decide (0 ≤ i1) then
   (shl .i64 rx1 20).bind fun q1 =>
   (ix ax1 i1).bind fun ex1 =>
   (quo .i64 (ior .i64 q1 ex1) d1).bind fun q2 =>
   (ix l2 i1).bind fun _ =>
   (lset l2 i1 q2).bind fun l4 =>
   (rem (ior .i64 q1 ex1) d1).bind fun q3 =>
   a6u n ax1 d1 kont1 mx1 q3 (isub .i64 i1 1) l4
  else
   kont1 rx1 l2 := rfl
def a5s (n : Nat) (ax1 : (List Int)) (d1 : Int) : Option ((List Int) × Int) :=
 (mks 8 0 (ax1.length : Int)).bind fun l1 =>
 a6u n ax1 d1 (fun (rx2 : Int) (l3 : List Int) =>
  (a2u n l3).bind fun v1 =>
  some (v1, rx2)) n 0 (isub .i64 (ax1.length : Int) 1) l1
set_option maxHeartbeats 1000000 in
set_option maxRecDepth 1000000 in
theorem b2n (n : Nat) (ax1 : (List Int)) (d1 : Int) (r : ((List Int) × Int)) (hm : a5s n ax1 d1 = some r) {w : World} {F : Frz} (hs : Sat F w) {as1 : Option Addr} {ns1 : Nat} {cs1 : Nat} (hs1 : SlR (Rp.int .i64) F as1 ns1 cs1 ax1) :
  Calls Tryz.prog 99 #[.slice as1 ns1 cs1, .int .i64 d1] w fun e w' => ∃ v F' O', e = .returned v ∧ HS F w [] F' O' w' ∧ (∃ (a0_0 : Option Addr) (n0_0 : Nat) (c0_0 : Nat) (xs0_0 : List Value), v = .tuple #[.slice a0_0 n0_0 c0_0, .int .i64 r.2] ∧ O' = [.row 3 1 a0_0 n0_0 c0_0 xs0_0] ∧ RowN (Rp.int .i64) F' n0_0 xs0_0 r.1) := by
 unfold a5s at hm
 have h := HS.init hs
 refine a0x 38 Tryz.func99 rfl rfl rfl ?_
 refine a0f (a0a (a0b rfl rfl rfl (a0b rfl rfl rfl (a0c (a0d (a0f (a0a (a0e rfl rfl rfl ?_))))))))
 refine a1z hs1.len u22 rfl rfl rfl ?_
 obtain ⟨l1, hl1, hm⟩ := bind_some hm
 refine b6x (r := (Rp.int .i64)) ap22 zi3 (fun _ => rfl) rfl rfl rfl h rfl rfl hl1 ?_
 intro b1 wx1 xs1 hx1 hr1
 refine a0b rfl rfl rfl (a0c (a0d (a0f (a0a (a0b rfl rfl rfl (a0c (a0d (a0f (a0f (a0a (a0e rfl rfl rfl ?_)))))))))))
 refine a1z hs1.len u22 rfl rfl rfl ?_
 refine a0v rfl rfl rfl rfl rfl ?_
 refine a0b rfl rfl rfl (a0c (a0d (a1i ?_)))
 intro a hax4
 obtain ⟨kont1, hkont1⟩ : ∃ kont1 : Int → (List Int) → Option ((List Int) × Int), kont1 = (fun (rx2 : Int) (l3 : List Int) =>
       (a2u n l3).bind fun v1 =>
       some (v1, rx2)) := ⟨_, rfl⟩
 replace hm : (fun m (s : Int × Int × List Int) => a6u n ax1 d1 kont1 m s.1 s.2.1 s.2.2) n (0, (isub .i64 (ax1.length : Int) 1), l1) = some r := by rw [hkont1]; exact hm
 refine a5u (id := 0) (fun m (s : Int × Int × List Int) => a6u n ax1 d1 kont1 m s.1 s.2.1 s.2.2) (fun (y : Int × List Int) => kont1 y.1 y.2) r (fun (s : Int × Int × List Int) a w' => ∃ (Fx1 : Frz) (as2 : Option Addr) (ns2 : Nat) (cs2 : Nat) (xss2 : List Value), Frz.le F Fx1 ∧ HS F w [] Fx1 [.row 3 1 as2 ns2 cs2 xss2] w' ∧ (RowN (Rp.int .i64) Fx1 ns2 xss2 s.2.2) ∧ Has 38 a [(0, .slice as1 ns1 cs1), (1, .int .i64 d1), (6, .slice as2 ns2 cs2), (7, .int .i64 s.1), (8, .int .i64 s.2.1)]) (fun (y : Int × List Int) a w' => ∃ (Fx2 : Frz) (as3 : Option Addr) (ns3 : Nat) (cs3 : Nat) (xss3 : List Value), Frz.le F Fx2 ∧ HS F w [] Fx2 [.row 3 1 as3 ns3 cs3 xss3] w' ∧ (RowN (Rp.int .i64) Fx2 ns3 xss3 y.2) ∧ Has 38 a [(6, .slice as3 ns3 cs3), (7, .int .i64 y.1)]) (fun _ => rfl) ?_ ?_ hm ⟨_, (some ⟨b1, 0, none⟩), ((ax1.length : Int).toNat), ((ax1.length : Int).toNat), xs1, Frz.refl _, hx1.pick [0] (by decide) rfl, hr1, hax4.cut (l := [0, 1, 6, 7, 8]) rfl⟩
 ·clear hm; rintro ⟨rx2, l3⟩ a wx2 hm ⟨Fx2, as3, ns3, cs3, xss3, hF2, hx3, hs3, hax1⟩
  rw [hkont1] at hm
  replace hm := hm
  refine a2d (e := .exit 0) hax1 ?_
  refine a1j (a0d (a0f (a0a (a0e rfl rfl rfl ?_))))
  obtain ⟨v1, hv1, hm⟩ := bind_some hm
  refine b1w ent91 rfl rfl rfl rfl (a6f _ _ _ hv1 (a7l _) (hx3.viewRow (p := 0) rfl rfl hs3)) ?_
  intro ns4 hles4 hvs4
  obtain ⟨hx4, hr2⟩ := hx3.cutN (p := 0) rfl hs3 hles4
  rw [← hvs4] at hr2
  refine a0e rfl rfl rfl (a0b rfl rfl rfl (a0b rfl rfl rfl (a0c (a0d (a1d ?_)))))
  refine a1k (vl := [.slice as3 ns4 cs3, .int .i64 rx2]) rfl ⟨a1w rfl, a1w rfl, trivial⟩ (by simp) ?_
  obtain rfl := Option.some.inj hm
  exact ⟨_, _, _, rfl, hx4.pick [0] (by decide) rfl, as3, ns4, cs3, (xss3.take (ns4 * ((Rp.int .i64)).k)), rfl, rfl, hr2⟩
 clear hm hkont1; intro hk1 mx1 K ihx1
 rintro ⟨rx1, i1, l2⟩ a wx3 hm ⟨Fx1, as2, ns2, cs2, xss2, hF1, hx2, hs2, hax2⟩
 simp only [b1h] at hm
 refine a1l hax2 ?_
 refine a0f (a0f (a0a (a0e rfl rfl rfl ?_)))
 refine a0v rfl rfl rfl rfl rfl ?_
 refine a0c (a0d ?_)
 rcases a0i hm with ⟨hb1, hm⟩ | ⟨hb1, hm⟩
 ·refine a0u 16 rfl hb1 ?_
  refine a0z rfl (a1b (a0d (a0f (a1i (a0f (a0a (a0e rfl rfl rfl ?_)))))))
  obtain ⟨q1, hq1, hm⟩ := bind_some hm
  refine c6x rfl rfl rfl rfl hq1 ?_
  refine a0e rfl rfl rfl (a0e rfl rfl rfl ?_)
  obtain ⟨ex1, he1, hm⟩ := bind_some hm
  refine a3w (r := (Rp.int .i64)) u22 sz3 rfl rfl rfl rfl (hs1.mono hF1) he1 ?_
  intro b2 o1 cs1 hf1 hr3
  have hc1 : cs1 = [.int .i64 ex1] := hr3
  subst hc1
  refine a2h (j := 0) ag3 rfl rfl hx2 hf1 rfl rfl ?_
  refine a0v rfl rfl rfl rfl rfl ?_
  refine a0b rfl rfl rfl (a0c (a0d (a0f (a0a (a0e rfl rfl rfl (a0e rfl rfl rfl (a0e rfl rfl rfl (a0e rfl rfl rfl ?_))))))))
  obtain ⟨q2, hq2, hm⟩ := bind_some hm
  refine c2b rfl rfl rfl rfl hq2 ?_
  obtain ⟨ex2, he2, hm⟩ := bind_some hm
  refine a5h (r := (Rp.int .i64)) u22 sz3 rfl rfl hx2 rfl rfl (p := 0) rfl rfl hs2 he2 ?_
  intro b3 o2 cs2 hax3 ho1 hr4 hp1
  have hc2 : cs2 = [.int .i64 ex2] := hr4
  subst hc2
  obtain ⟨l4, hl2, hm⟩ := bind_some hm
  refine a4r (r := (Rp.int .i64)) sz3 rfl hx2 rfl rfl rfl rfl rfl (p := 0) rfl rfl hax3 ho1 hs2 rfl rfl hl2 ?_
  intro wx4 xs2 hx5 hr5
  refine a0c (a0d (a0a (a0e rfl rfl rfl (a0e rfl rfl rfl ?_))))
  obtain ⟨q3, hq3, hm⟩ := bind_some hm
  refine c3i rfl rfl rfl rfl hq3 ?_
  refine a0b rfl rfl rfl (a0c (a2a (a0d (a0a (a0e rfl rfl rfl ?_)))))
  refine a0v rfl rfl rfl rfl rfl ?_
  refine a0b rfl rfl rfl (a0c ?_)
  refine a0p (fun a ha => ihx1 (q3, (isub .i64 i1 1), l4) a _ hm ?_)
  exact ⟨_, as2, ns2, cs2, xs2, hF1, hx5.pick [0] (by decide) rfl, hr5, ha.cut (l := [0, 1, 6, 7, 8]) rfl⟩
 refine a0u 16 rfl hb1 ?_
 refine a0s rfl (a3l (a0q (a0q ?_)))
 refine fun a ha => hk1 (rx1, l2) a _ hm ?_
 exact ⟨_, as2, ns2, cs2, xss2, hF1, hx2.pick [0] (by decide) rfl, hs2, ha.cut (l := [6, 7]) rfl⟩
def a4u (n : Nat) (v1 : (List Int)) (l2 : List Int) (kont1 : (List Int) → Option ((List Int) × Int)) : Nat → Int → Int → (List Int) → Option ((List Int) × Int)
 | 0, _, _, _ => none
 | mx1 + 1, carry1, i2, l3 =>
  bif decide (i2 < (l2.length : Int)) then
   (ix l3 i2).bind fun ex1 =>
   (bif decide (i2 < (v1.length : Int)) then
    (ix v1 i2).bind fun ex3 =>
    some (iadd .i64 (iadd .i64 carry1 ex1) ex3)
   else
    some (iadd .i64 carry1 ex1)).bind fun carry2 =>
   (ix l3 i2).bind fun _ =>
   (lset l3 i2 (iand .i64 carry2 1048575)).bind fun l5 =>
   (shr .i64 carry2 20).bind fun q1 =>
   a4u n v1 l2 kont1 mx1 q1 (iadd .i64 i2 1) l5
  else
   kont1 l3
theorem a9p (n : Nat) (v1 : (List Int)) (l2 : List Int) (kont1 : (List Int) → Option ((List Int) × Int)) (mx1 : Nat) (carry1 : Int) (i2 : Int) (l3 : List Int) : a4u n v1 l2 kont1 (mx1 + 1) carry1 i2 l3 =
  bif decide (i2 < (l2.length : Int)) then
   (ix l3 i2).bind fun ex1 =>
   (bif decide (i2 < (v1.length : Int)) then
    (ix v1 i2).bind fun ex3 =>
    some (iadd .i64 (iadd .i64 carry1 ex1) ex3)
   else
    some (iadd .i64 carry1 ex1)).bind fun carry2 =>
   (ix l3 i2).bind fun _ =>
   (lset l3 i2 (iand .i64 carry2 1048575)).bind fun l5 =>
   (shr .i64 carry2 20).bind fun q1 =>
   a4u n v1 l2 kont1 mx1 q1 (iadd .i64 i2 1) l5
  else
   kont1 l3 := rfl
def a6a (n : Nat) (u1 : (List Int)) (v1 : (List Int)) (guess1 : Int) (kont2 : Int → (List Int) → Option ((List Int) × Int)) : Nat → Int → Int → (List Int) → Option ((List Int) × Int)
 | 0, _, _, _ => none
 | mx2 + 1, borrow1, i1, l1 =>
  bif decide (i1 < (u1.length : Int)) then
   (ix l1 i1).bind fun ex4 =>
   (bif decide (i1 < (v1.length : Int)) then
    (ix v1 i1).bind fun ex6 =>
    some (isub .i64 (isub .i64 ex4 borrow1) (imul .i64 guess1 ex6))
   else
    some (isub .i64 ex4 borrow1)).bind fun nx1 =>
   (ix l1 i1).bind fun _ =>
   (lset l1 i1 (iand .i64 nx1 1048575)).bind fun l6 =>
   (shr .i64 nx1 20).bind fun q2 =>
   a6a n u1 v1 guess1 kont2 mx2 (IntKind.i64.wrap (0 - q2)) (iadd .i64 i1 1) l6
  else
   kont2 borrow1 l1
theorem a9y (n : Nat) (u1 : (List Int)) (v1 : (List Int)) (guess1 : Int) (kont2 : Int → (List Int) → Option ((List Int) × Int)) (mx2 : Nat) (borrow1 : Int) (i1 : Int) (l1 : List Int) : a6a n u1 v1 guess1 kont2 (mx2 + 1) borrow1 i1 l1 =
  bif decide (i1 < (u1.length : Int)) then
   (ix l1 i1).bind fun ex4 =>
   (bif decide (i1 < (v1.length : Int)) then
    (ix v1 i1).bind fun ex6 =>
    some (isub .i64 (isub .i64 ex4 borrow1) (imul .i64 guess1 ex6))
   else
    some (isub .i64 ex4 borrow1)).bind fun nx1 =>
   (ix l1 i1).bind fun _ =>
   (lset l1 i1 (iand .i64 nx1 1048575)).bind fun l6 =>
   (shr .i64 nx1 20).bind fun q2 =>
   a6a n u1 v1 guess1 kont2 mx2 (IntKind.i64.wrap (0 - q2)) (iadd .i64 i1 1) l6
  else
   kont2 borrow1 l1 := rfl
def a7t (n : Nat) (u1 : (List Int)) (v1 : (List Int)) (guess1 : Int) : Option ((List Int) × Int) :=
 a6a n u1 v1 guess1 (fun (borrow2 : Int) (l2 : List Int) =>
  bif borrow2 == 0 then
   some (l2, guess1)
  else
   a4u n v1 l2 (fun (l4 : List Int) =>
    some (l4, isub .i64 guess1 1)) n 0 0 l2) n 0 0 u1
set_option maxHeartbeats 1000000 in
set_option maxRecDepth 1000000 in
theorem b9q (n : Nat) (u1 : (List Int)) (v1 : (List Int)) (guess1 : Int) (r : ((List Int) × Int)) (hm : a7t n u1 v1 guess1 = some r) {w : World} {F : Frz} (hs : Sat F w) {au1 : Option Addr} {nu1 : Nat} {cu1 : Nat} {preu1 xsu1 postu1 : List Value} {as1 : Option Addr} {ns1 : Nat} {cs1 : Nat} (hbu1 : (OE.win 3 1 au1 nu1 cu1 preu1 xsu1 postu1).ok w) (hfu1 : ∀ b, (OE.win 3 1 au1 nu1 cu1 preu1 xsu1 postu1).blk = some b → F b = none) (hru1 : RowN (Rp.int .i64) F nu1 xsu1 u1) (hs1 : SlR (Rp.int .i64) F as1 ns1 cs1 v1) :
  Calls Tryz.prog 115 #[.slice au1 nu1 cu1, .slice as1 ns1 cs1, .int .i64 guess1] w fun e w' => ∃ v F' xs' O', e = .returned v ∧ HS F w (blks (OE.win 3 1 au1 nu1 cu1 preu1 xsu1 postu1)) F' (.win 3 1 au1 nu1 cu1 preu1 xs' postu1 :: O') w' ∧ (v = .int .i64 r.2 ∧ O' = [] ∧ RowN (Rp.int .i64) F' nu1 xs' r.1) := by
 unfold a7t at hm
 have h := HS.lendE hs hbu1 hfu1
 refine a0x 78 Tryz.func115 rfl rfl rfl ?_
 refine a0f (a0a (a0b rfl rfl rfl (a0c (a0d (a0f (a0a (a0b rfl rfl rfl (a0c (a0d (a0f (a0f (a0a (a0e rfl rfl rfl ?_)))))))))))))
 refine a1z hru1.len u22 rfl rfl rfl ?_
 refine a0e rfl rfl rfl (a0c (a0d (a1i ?_)))
 intro a hax12
 obtain ⟨kont2, hkont2⟩ : ∃ kont2 : Int → (List Int) → Option ((List Int) × Int), kont2 = (fun (borrow2 : Int) (l2 : List Int) =>
       bif borrow2 == 0 then
        some (l2, guess1)
       else
        a4u n v1 l2 (fun (l4 : List Int) =>
         some (l4, isub .i64 guess1 1)) n 0 0 l2) := ⟨_, rfl⟩
 replace hm : (fun m (s : Int × Int × List Int) => a6a n u1 v1 guess1 kont2 m s.1 s.2.1 s.2.2) n (0, 0, u1) = some r := by rw [hkont2]; exact hm
 refine a5u (id := 0) (fun m (s : Int × Int × List Int) => a6a n u1 v1 guess1 kont2 m s.1 s.2.1 s.2.2) (fun (y : Int × List Int) => kont2 y.1 y.2) r (fun (s : Int × Int × List Int) a w' => ∃ (Fx1 : Frz) (xss2 : List Value), Frz.le F Fx1 ∧ HS F w (blks (OE.win 3 1 au1 nu1 cu1 preu1 xsu1 postu1)) Fx1 [.win 3 1 au1 nu1 cu1 preu1 xss2 postu1] w' ∧ (RowN (Rp.int .i64) Fx1 nu1 xss2 s.2.2) ∧ Has 78 a [(0, .slice au1 nu1 cu1), (1, .slice as1 ns1 cs1), (2, .int .i64 guess1), (7, .int .i64 s.1), (13, .int .i64 (u1.length : Int)), (14, .int .i64 s.2.1)]) (fun (y : Int × List Int) a w' => ∃ (Fx2 : Frz) (xss3 : List Value), Frz.le F Fx2 ∧ HS F w (blks (OE.win 3 1 au1 nu1 cu1 preu1 xsu1 postu1)) Fx2 [.win 3 1 au1 nu1 cu1 preu1 xss3 postu1] w' ∧ (RowN (Rp.int .i64) Fx2 nu1 xss3 y.2) ∧ Has 78 a [(0, .slice au1 nu1 cu1), (1, .slice as1 ns1 cs1), (2, .int .i64 guess1), (7, .int .i64 y.1)]) (fun _ => rfl) ?_ ?_ hm ⟨_, xsu1, Frz.refl _, h.pick [0] (by decide) rfl, hru1, hax12.cut (l := [0, 1, 2, 7, 13, 14]) rfl⟩
 ·clear hm; rintro ⟨borrow2, l2⟩ a wx1 hm ⟨Fx2, xss3, hF2, hx2, hs3, hax1⟩
  rw [hkont2] at hm
  replace hm := hm
  refine a2d (e := .exit 0) hax1 ?_
  refine a1j (a0d (a0f (a0f (a0a (a0e rfl rfl rfl ?_)))))
  refine a0v rfl rfl rfl rfl rfl ?_
  refine a0c (a0d ?_)
  rcases a0i hm with ⟨hb1, hm⟩ | ⟨hb1, hm⟩
  ·refine a0u 45 rfl hb1 ?_
   refine a0z rfl (a0f (a0a (a0e rfl rfl rfl (a0b rfl rfl rfl (a0c (a0d (a1d (a0n ?_))))))))
   refine a1p rfl rfl ?_
   obtain rfl := Option.some.inj hm
   exact ⟨_, _, _, _, rfl, hx2.pick [0] (by decide) rfl, rfl, rfl, hs3⟩
  refine a0u 45 rfl hb1 ?_
  refine a0s rfl (a1b (a0d (a0f (a0a (a0b rfl rfl rfl (a0c (a0d (a0f (a0f (a0a (a0e rfl rfl rfl ?_)))))))))))
  refine a1z hs3.len u22 rfl rfl rfl ?_
  refine a0e rfl rfl rfl (a0c (a0d (a1i ?_)))
  intro a hax7
  obtain ⟨kont1, hkont1⟩ : ∃ kont1 : (List Int) → Option ((List Int) × Int), kont1 = (fun (l4 : List Int) =>
      some (l4, isub .i64 guess1 1)) := ⟨_, rfl⟩
  replace hm : (fun m (s : Int × Int × List Int) => a4u n v1 l2 kont1 m s.1 s.2.1 s.2.2) n (0, 0, l2) = some r := by rw [hkont1]; exact hm
  refine a5u (id := 2) (fun m (s : Int × Int × List Int) => a4u n v1 l2 kont1 m s.1 s.2.1 s.2.2) (fun (y : List Int) => kont1 y) r (fun (s : Int × Int × List Int) a w' => ∃ (Fx3 : Frz) (xss4 : List Value), Frz.le Fx2 Fx3 ∧ HS F w (blks (OE.win 3 1 au1 nu1 cu1 preu1 xsu1 postu1)) Fx3 [.win 3 1 au1 nu1 cu1 preu1 xss4 postu1] w' ∧ (RowN (Rp.int .i64) Fx3 nu1 xss4 s.2.2) ∧ Has 78 a [(0, .slice au1 nu1 cu1), (1, .slice as1 ns1 cs1), (2, .int .i64 guess1), (10, .int .i64 s.1), (48, .int .i64 (l2.length : Int)), (49, .int .i64 s.2.1)]) (fun (y : List Int) a w' => ∃ (Fx4 : Frz) (xss5 : List Value), Frz.le Fx2 Fx4 ∧ HS F w (blks (OE.win 3 1 au1 nu1 cu1 preu1 xsu1 postu1)) Fx4 [.win 3 1 au1 nu1 cu1 preu1 xss5 postu1] w' ∧ (RowN (Rp.int .i64) Fx4 nu1 xss5 y) ∧ Has 78 a [(2, .int .i64 guess1)]) (fun _ => rfl) ?_ ?_ hm ⟨_, xss3, Frz.refl _, hx2.pick [0] (by decide) rfl, hs3, hax7.cut (l := [0, 1, 2, 10, 48, 49]) rfl⟩
  ·clear hm; rintro l4 a wx2 hm ⟨Fx4, xss5, hF4, hx4, hs5, hax2⟩
   rw [hkont1] at hm
   replace hm := hm
   refine a2d (e := .exit 2) hax2 ?_
   refine a1j (a0d (a0f (a0a (a0e rfl rfl rfl ?_))))
   refine a0v rfl rfl rfl rfl rfl ?_
   refine a0b rfl rfl rfl (a0c (a0d (a1d ?_)))
   refine a1p rfl rfl ?_
   obtain rfl := Option.some.inj hm
   exact ⟨_, _, _, _, rfl, hx4.pick [0] (by decide) rfl, rfl, rfl, hs5⟩
  clear hm hkont1; intro hk1 mx1 K ihx1
  rintro ⟨carry1, i2, l3⟩ a wx3 hm ⟨Fx3, xss4, hF3, hx3, hs4, hax3⟩
  simp only [a9p] at hm
  refine a1l hax3 ?_
  refine a0f (a0a ?_)
  refine a0v rfl rfl rfl rfl rfl ?_
  refine a0c (a0d (a0f ?_))
  rcases a0i hm with ⟨hb2, hm⟩ | ⟨hb2, hm⟩
  ·refine a0u 50 rfl hb2 ?_
   refine a0z rfl (a1b (a0d (a0f (a1i (a0f (a0a (a0e rfl rfl rfl (a0b rfl rfl rfl (a0c (a0d (a0f (a0a (a0e rfl rfl rfl (a0e rfl rfl rfl (a0e rfl rfl rfl ?_)))))))))))))))
   obtain ⟨ex1, he1, hm⟩ := bind_some hm
   refine a5h (r := (Rp.int .i64)) u22 sz3 rfl rfl hx3 rfl rfl (p := 0) rfl rfl hs4 he1 ?_
   intro b1 o1 cs1 hax4 ho1 hr1 hp1
   have hc1 : cs1 = [.int .i64 ex1] := hr1
   subst hc1
   refine a6z (j := 0) ag3 rfl rfl hx3 rfl (p := 0) rfl rfl hax4 ho1 hp1 rfl ?_
   refine a0v rfl rfl rfl rfl rfl ?_
   refine a0b rfl rfl rfl (a0c (a0d (a0f (a0f (a0a (a0e rfl rfl rfl (a0e rfl rfl rfl ?_)))))))
   refine a1z hs1.len u22 rfl rfl rfl ?_
   refine a0v rfl rfl rfl rfl rfl ?_
   refine a0c (a0d ?_)
   obtain ⟨carry2, hb3, hm⟩ := bind_some hm
   refine b0q (fun a w' => wx3 = w' ∧ Has 78 a [(0, .slice au1 nu1 cu1), (1, .slice as1 ns1 cs1), (2, .int .i64 guess1), (10, .int .i64 carry2), (11, .int .i64 i2), (48, .int .i64 (l2.length : Int)), (49, .int .i64 i2)]) ?_ ?_
   ·rintro a wx4 ⟨rfl, hax5⟩
    refine a1l hax5 ?_
    refine a0f (a0a (a0e rfl rfl rfl (a0e rfl rfl rfl (a0e rfl rfl rfl ?_))))
    refine a0v rfl rfl rfl rfl rfl ?_
    obtain ⟨ex2, he2, hm⟩ := bind_some hm
    refine a5h (r := (Rp.int .i64)) u22 sz3 rfl rfl hx3 rfl rfl (p := 0) rfl rfl hs4 he2 ?_
    intro b2 o2 cs2 hax6 ho2 hr2 hp2
    have hc2 : cs2 = [.int .i64 ex2] := hr2
    subst hc2
    obtain ⟨l5, hl1, hm⟩ := bind_some hm
    refine a4r (r := (Rp.int .i64)) sz3 rfl hx3 rfl rfl rfl rfl rfl (p := 0) rfl rfl hax6 ho2 hs4 rfl rfl hl1 ?_
    intro wx5 xs1 hx5 hr3
    refine a0c (a0d (a0a (a0e rfl rfl rfl ?_)))
    obtain ⟨q1, hq1, hm⟩ := bind_some hm
    refine c3m rfl rfl rfl rfl hq1 ?_
    refine a0b rfl rfl rfl (a0c (a2a (a0d (a0a ?_))))
    refine a0v rfl rfl rfl rfl rfl ?_
    refine a0e rfl rfl rfl (a0c ?_)
    refine a0p (fun a ha => ihx1 (q1, (iadd .i64 i2 1), l5) a _ hm ?_)
    exact ⟨_, xs1, hF3, hx5.pick [0] (by decide) rfl, hr3, ha.cut (l := [0, 1, 2, 10, 48, 49]) rfl⟩
   clear hm
   rcases a0i hb3 with ⟨hb4, hb3⟩ | ⟨hb4, hb3⟩
   ·refine a0u 61 rfl hb4 ?_
    refine a0z rfl (a0a (a0e rfl rfl rfl (a0e rfl rfl rfl (a0e rfl rfl rfl ?_))))
    obtain ⟨ex3, he3, hb3⟩ := bind_some hb3
    refine a3w (r := (Rp.int .i64)) u22 sz3 rfl rfl rfl rfl ((hs1.mono hF2).mono hF3) he3 ?_
    intro b3 o3 cs3 hf1 hr4
    have hc3 : cs3 = [.int .i64 ex3] := hr4
    subst hc3
    refine a2h (j := 0) ag3 rfl rfl hx3 hf1 rfl rfl ?_
    refine a0v rfl rfl rfl rfl rfl ?_
    refine a0b rfl rfl rfl (a0c ?_)
    refine a0p (fun a ha => ?_)
    cases hb3
    exact ⟨rfl, ha.cut (l := [0, 1, 2, 10, 11, 48, 49]) rfl⟩
   refine a0u 61 rfl hb4 ?_
   refine a0s rfl (a1b ?_)
   refine a0p (fun a ha => ?_)
   cases hb3
   exact ⟨rfl, ha.cut (l := [0, 1, 2, 10, 11, 48, 49]) rfl⟩
  refine a0u 50 rfl hb2 ?_
  refine a0s rfl (a3l (a0q (a0q ?_)))
  refine fun a ha => hk1 l3 a _ hm ?_
  exact ⟨_, xss4, hF3, hx3.pick [0] (by decide) rfl, hs4, ha.cut (l := [2]) rfl⟩
 clear hm hkont2; intro hk2 mx2 K ihx2
 rintro ⟨borrow1, i1, l1⟩ a wx6 hm ⟨Fx1, xss2, hF1, hx1, hs2, hax8⟩
 simp only [a9y] at hm
 refine a1l hax8 ?_
 refine a0f (a0a ?_)
 refine a0v rfl rfl rfl rfl rfl ?_
 refine a0c (a0d (a0f ?_))
 rcases a0i hm with ⟨hb5, hm⟩ | ⟨hb5, hm⟩
 ·refine a0u 15 rfl hb5 ?_
  refine a0z rfl (a1b (a0d (a0f (a1i (a0f (a0a (a0e rfl rfl rfl (a0b rfl rfl rfl (a0c (a0d (a0f (a0a (a0e rfl rfl rfl (a0e rfl rfl rfl ?_))))))))))))))
  obtain ⟨ex4, he4, hm⟩ := bind_some hm
  refine a5h (r := (Rp.int .i64)) u22 sz3 rfl rfl hx1 rfl rfl (p := 0) rfl rfl hs2 he4 ?_
  intro b4 o4 cs4 hax9 ho3 hr5 hp3
  have hc4 : cs4 = [.int .i64 ex4] := hr5
  subst hc4
  refine a6z (j := 0) ag3 rfl rfl hx1 rfl (p := 0) rfl rfl hax9 ho3 hp3 rfl ?_
  refine a0e rfl rfl rfl ?_
  refine a0v rfl rfl rfl rfl rfl ?_
  refine a0b rfl rfl rfl (a0c (a0d (a0f (a0f (a0a (a0e rfl rfl rfl (a0e rfl rfl rfl ?_)))))))
  refine a1z hs1.len u22 rfl rfl rfl ?_
  refine a0v rfl rfl rfl rfl rfl ?_
  refine a0c (a0d ?_)
  obtain ⟨nx1, hb6, hm⟩ := bind_some hm
  refine b0q (fun a w' => wx6 = w' ∧ Has 78 a [(0, .slice au1 nu1 cu1), (1, .slice as1 ns1 cs1), (2, .int .i64 guess1), (8, .int .i64 i1), (9, .int .i64 nx1), (13, .int .i64 (u1.length : Int)), (14, .int .i64 i1)]) ?_ ?_
  ·rintro a wx7 ⟨rfl, hax10⟩
   refine a1l hax10 ?_
   refine a0f (a0a (a0e rfl rfl rfl (a0e rfl rfl rfl (a0e rfl rfl rfl ?_))))
   refine a0v rfl rfl rfl rfl rfl ?_
   obtain ⟨ex5, he5, hm⟩ := bind_some hm
   refine a5h (r := (Rp.int .i64)) u22 sz3 rfl rfl hx1 rfl rfl (p := 0) rfl rfl hs2 he5 ?_
   intro b5 o5 cs5 hax11 ho4 hr6 hp4
   have hc5 : cs5 = [.int .i64 ex5] := hr6
   subst hc5
   obtain ⟨l6, hl2, hm⟩ := bind_some hm
   refine a4r (r := (Rp.int .i64)) sz3 rfl hx1 rfl rfl rfl rfl rfl (p := 0) rfl rfl hax11 ho4 hs2 rfl rfl hl2 ?_
   intro wx8 xs2 hx6 hr7
   refine a0c (a0d (a0a (a0e rfl rfl rfl ?_)))
   obtain ⟨q2, hq2, hm⟩ := bind_some hm
   refine c3m rfl rfl rfl rfl hq2 ?_
   refine c3w rfl rfl rfl ?_
   refine a0b rfl rfl rfl (a0c (a2a (a0d (a0a ?_))))
   refine a0v rfl rfl rfl rfl rfl ?_
   refine a0e rfl rfl rfl (a0c ?_)
   refine a0p (fun a ha => ihx2 ((IntKind.i64.wrap (0 - q2)), (iadd .i64 i1 1), l6) a _ hm ?_)
   exact ⟨_, xs2, hF1, hx6.pick [0] (by decide) rfl, hr7, ha.cut (l := [0, 1, 2, 7, 13, 14]) rfl⟩
  clear hm
  rcases a0i hb6 with ⟨hb7, hb6⟩ | ⟨hb7, hb6⟩
  ·refine a0u 26 rfl hb7 ?_
   refine a0z rfl (a0a (a0e rfl rfl rfl (a0e rfl rfl rfl (a0e rfl rfl rfl (a0e rfl rfl rfl ?_)))))
   obtain ⟨ex6, he6, hb6⟩ := bind_some hb6
   refine a3w (r := (Rp.int .i64)) u22 sz3 rfl rfl rfl rfl (hs1.mono hF1) he6 ?_
   intro b6 o6 cs6 hf2 hr8
   have hc6 : cs6 = [.int .i64 ex6] := hr8
   subst hc6
   refine a2h (j := 0) ag3 rfl rfl hx1 hf2 rfl rfl ?_
   refine a0v rfl rfl rfl rfl rfl ?_
   refine a0v rfl rfl rfl rfl rfl ?_
   refine a0b rfl rfl rfl (a0c ?_)
   refine a0p (fun a ha => ?_)
   cases hb6
   exact ⟨rfl, ha.cut (l := [0, 1, 2, 8, 9, 13, 14]) rfl⟩
  refine a0u 26 rfl hb7 ?_
  refine a0s rfl (a1b ?_)
  refine a0p (fun a ha => ?_)
  cases hb6
  exact ⟨rfl, ha.cut (l := [0, 1, 2, 8, 9, 13, 14]) rfl⟩
 refine a0u 15 rfl hb5 ?_
 refine a0s rfl (a3l (a0q (a0q ?_)))
 refine fun a ha => hk2 (borrow1, l1) a _ hm ?_
 exact ⟨_, xss2, hF1, hx1.pick [0] (by decide) rfl, hs2, ha.cut (l := [0, 1, 2, 7]) rfl⟩
end Go.Proofs.YtaanocaobllohaaGreatDoor.M
