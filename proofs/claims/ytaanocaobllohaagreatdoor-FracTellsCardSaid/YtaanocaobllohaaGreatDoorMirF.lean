/-
  THE MIRRORS of the fractions' and the big integers' functions, of their references and of the laws, and that each call returns what its mirror says. Printed by gen.py.
-/
import Derived.Test.YtaanocaobllohaaGreatDoorRows
import Derived.Test.YtaanocaobllohaaGreatDoorTrim
import Derived.Test.YtaanocaobllohaaGreatDoorExtC
import Derived.Test.YtaanocaobllohaaGreatDoorRtX
import Derived.Test.YtaanocaobllohaaGreatDoorMirC
namespace Go.Proofs.YtaanocaobllohaaGreatDoor.M
open Go Go.RowKit Rt
theorem ent124 : Ent Tryz.prog 124 := fun _ _ => by kernel_rfl
def a3f (n : Nat) (s1 : Bs) : Option Int :=
 bif [47] == s1 then
  some 0
 else
  (sidx [47] 0).bind fun c1 =>
  (stringslite_IndexByte n s1 c1).bind fun v1 =>
  some v1
set_option maxHeartbeats 1000000 in
set_option maxRecDepth 1000000 in
theorem a9e (n : Nat) (s1 : Bs) (r : Int) (hm : a3f n s1 = some r) {w : World}  :
  Calls Tryz.prog 106 #[vs s1, vs [47]] w fun e w' => e = .returned (.int .i64 r) ∧ w' = w := by
 unfold a3f at hm
 refine a0x 143 Tryz.func106 rfl rfl rfl ?_
 refine a0f (a0a (a0b rfl rfl rfl (a0c (a0d (a0f (a0a (a0e rfl rfl rfl ?_)))))))
 refine a8k u9 rfl rfl rfl ?_
 refine a0b rfl rfl rfl (a0c (a0d (a0f (a1i (a0f (a0a (a0e rfl rfl rfl ?_)))))))
 refine a0v rfl rfl rfl rfl rfl ?_
 refine a0e rfl rfl rfl (a0e rfl rfl rfl (a0e rfl rfl rfl ?_))
 refine b2d rfl rfl rfl rfl rfl ?_
 refine a0l rfl rfl rfl rfl (a0b rfl rfl rfl (a0c (a0d ?_)))
 rcases a0i hm with ⟨hb1, hm⟩ | ⟨hb1, hm⟩
 ·refine a0u 16 rfl hb1 ?_
  refine a0z rfl (a0f (a0a (a0b rfl rfl rfl (a0c (a0d (a1d (a1n (a0n ?_))))))))
  refine a1p rfl rfl ?_
  obtain rfl := Option.some.inj hm
  exact ⟨rfl, rfl⟩
 refine a0u 16 rfl hb1 ?_
 refine a0s rfl (a0f (a0a (a0e rfl rfl rfl ?_)))
 refine a0v rfl rfl rfl rfl rfl ?_
 refine a0b rfl rfl rfl (a0c (a0d (a0z rfl (a0f (a0a (a0e rfl rfl rfl (a0e rfl rfl rfl ?_)))))))
 obtain ⟨c1, hc1, hm⟩ := bind_some hm
 refine b3y u9 rfl rfl rfl rfl hc1 ?_
 obtain ⟨v1, hv1, hm⟩ := bind_some hm
 refine a4e ent124 rfl rfl rfl rfl (b1m _ _ _ _ hv1) ?_
 refine a0b rfl rfl rfl (a0c (a0d (a1d (a1n (a0n ?_)))))
 refine a1p rfl rfl ?_
 obtain rfl := Option.some.inj hm
 exact ⟨rfl, rfl⟩
theorem ent106 : Ent Tryz.prog 106 := fun _ _ => by kernel_rfl
def a4n (n : Nat) (s1 : Bs) : Option (Bs × Bs × Bool) :=
 (a3f n s1).bind fun v1 =>
 bif decide (0 ≤ v1) then
  (ssl s1 0 v1).bind fun t1 =>
  (ssl s1 (iadd .i64 v1 1) s1.length).bind fun t2 =>
  some (t1, t2, true)
 else
  some (s1, [], false)
set_option maxHeartbeats 1000000 in
set_option maxRecDepth 1000000 in
theorem b0j (n : Nat) (s1 : Bs) (r : (Bs × Bs × Bool)) (hm : a4n n s1 = some r) {w : World} {F : Frz} (hs : Sat F w)  :
  Calls Tryz.prog 88 #[vs s1, vs [47]] w fun e w' => ∃ v F' O', e = .returned v ∧ HS F w [] F' O' w' ∧ (v = .tuple #[vs r.1, vs r.2.1, .bool r.2.2] ∧ O' = []) := by
 unfold a4n at hm
 have h := HS.init hs
 refine a0x 23 Tryz.func88 rfl rfl rfl ?_
 refine a0f (a0a (a0b rfl rfl rfl (a0b rfl rfl rfl (a0b rfl rfl rfl (a0c (a0d (a0f (a0f (a0a (a0e rfl rfl rfl (a0e rfl rfl rfl ?_)))))))))))
 obtain ⟨v1, hv1, hm⟩ := bind_some hm
 refine a4e ent106 rfl rfl rfl rfl (a9e _ _ _ hv1) ?_
 refine a0b rfl rfl rfl (a0c (a0d (a0f (a0a (a0e rfl rfl rfl ?_)))))
 refine a0v rfl rfl rfl rfl rfl ?_
 refine a0c (a0d ?_)
 rcases a0i hm with ⟨hb1, hm⟩ | ⟨hb1, hm⟩
 ·refine a0u 12 rfl hb1 ?_
  refine a0z rfl (a0f ?_)
  refine a4s (by kernel_rfl) (by kernel_rfl) h ?_
  refine a1h rfl rfl rfl rfl (fun _ _ _ _ => a0e rfl rfl rfl (a0c (qq rfl))) ?_
  refine a1h rfl rfl rfl rfl (fun _ _ _ _ => a0e rfl rfl rfl (a0c (qq rfl))) ?_
  obtain ⟨t1, hc1, hm⟩ := bind_some hm
  refine a1h rfl rfl rfl rfl (fun _ _ _ _ => b9w u9 rfl rfl rfl rfl hc1 (a0c (qq rfl))) ?_
  refine a1h rfl rfl rfl rfl (fun _ _ _ _ => a0e rfl rfl rfl (a0c (qq rfl))) ?_
  refine a1h rfl rfl rfl rfl (fun _ _ _ _ => a0e rfl rfl rfl (a0c (qq rfl))) ?_
  refine a1h rfl rfl rfl rfl (fun _ _ _ _ => a0e rfl rfl rfl (a0c (qq rfl))) ?_
  refine a1h rfl rfl rfl rfl (fun _ _ _ _ => a8k u9 rfl rfl rfl (a0c (qq rfl))) ?_
  refine a1h rfl rfl rfl rfl (fun _ _ _ _ => a0v rfl rfl rfl rfl rfl (a0c (qq rfl))) ?_
  obtain ⟨t2, hc2, hm⟩ := bind_some hm
  refine a1h rfl rfl rfl rfl (fun _ _ _ _ => b7b u9 rfl rfl rfl rfl hc2 (a0c (qq rfl))) ?_
  refine a1h rfl rfl rfl rfl (fun _ _ _ _ => a0b rfl rfl rfl (a0c (qq rfl))) ?_
  refine a1h rfl rfl rfl rfl (fun _ _ _ _ => a0b rfl rfl rfl (a0c (qq rfl))) ?_
  refine a1h rfl rfl rfl rfl (fun _ _ _ _ => a0b rfl rfl rfl (a0c (qq rfl))) ?_
  refine b3x ?_
  rintro wx1 ⟨Fx1, hF1, hx1⟩
  refine a0d (a1d (a0n ?_))
  refine a1k (vl := [vs t1, vs t2, .bool true]) rfl ⟨a1w rfl, a1w rfl, a1w rfl, trivial⟩ (by simp) ?_
  obtain rfl := Option.some.inj hm
  exact ⟨_, _, _, rfl, hx1.pick [] (by decide) rfl, rfl, rfl⟩
 refine a0u 12 rfl hb1 ?_
 refine a0s rfl (a1b (a0d (a0f (a0a (a0e rfl rfl rfl (a0b rfl rfl rfl (a0b rfl rfl rfl (a0b rfl rfl rfl (a0c (a0d (a1d ?_)))))))))))
 refine a1k (vl := [vs s1, vs [], .bool false]) rfl ⟨a1w rfl, a1w rfl, a1w rfl, trivial⟩ (by simp) ?_
 obtain rfl := Option.some.inj hm
 exact ⟨_, _, _, rfl, h.pick [] (by decide) rfl, rfl, rfl⟩
theorem ent88 : Ent Tryz.prog 88 := fun _ _ => by kernel_rfl
def strings_Cut (n : Nat) (s1 : Bs) : Option (Bs × Bs × Bool) :=
 (a4n n s1).bind fun v1 =>
 some (v1.1, v1.2.1, v1.2.2)
set_option maxHeartbeats 1000000 in
set_option maxRecDepth 1000000 in
theorem b8x (n : Nat) (s1 : Bs) (r : (Bs × Bs × Bool)) (hm : strings_Cut n s1 = some r) {w : World} {F : Frz} (hs : Sat F w)  :
  Calls Tryz.prog 57 #[vs s1, vs [47]] w fun e w' => ∃ v F' O', e = .returned v ∧ HS F w [] F' O' w' ∧ (v = .tuple #[vs r.1, vs r.2.1, .bool r.2.2] ∧ O' = []) := by
 unfold strings_Cut at hm
 have h := HS.init hs
 refine a0x 13 Tryz.func57 rfl rfl rfl ?_
 refine a0f (a0a (a0b rfl rfl rfl (a0b rfl rfl rfl (a0b rfl rfl rfl (a0c (a0d (a0f (a0a (a0e rfl rfl rfl (a0e rfl rfl rfl ?_))))))))))
 obtain ⟨v1, hv1, hm⟩ := bind_some hm
 refine a0g ent88 rfl rfl rfl rfl h (b0j _ _ _ hv1 h.sat) ?_
 rintro _ Fx1 _ wx1 hF1 hx1 ⟨rfl, rfl⟩
 refine a0j rfl rfl rfl rfl (a0j rfl rfl rfl rfl (a0j rfl rfl rfl rfl (a0b rfl rfl rfl (a0b rfl rfl rfl (a0b rfl rfl rfl (a0c (a0d (a1d ?_))))))))
 refine a1k (vl := [vs v1.1, vs v1.2.1, .bool v1.2.2]) rfl ⟨a1w rfl, a1w rfl, a1w rfl, trivial⟩ (by simp) ?_
 obtain rfl := Option.some.inj hm
 exact ⟨_, _, _, rfl, hx1.pick [] (by decide) rfl, rfl, rfl⟩
def a4o (n : Nat) (ax1 : Big) (b1 : Big) (kont1 : Option Bool) : Nat → Int → Option Bool
 | 0, _ => none
 | mx1 + 1, i1 =>
  bif decide (i1 < (ax1.Digits.length : Int)) then
   (ix ax1.Digits i1).bind fun ex1 =>
   (ix b1.Digits i1).bind fun ex2 =>
   bif ex1 != ex2 then
    some false
   else
    a4o n ax1 b1 kont1 mx1 (iadd .i64 i1 1)
  else
   kont1
theorem a7y (n : Nat) (ax1 : Big) (b1 : Big) (kont1 : Option Bool) (mx1 : Nat) (i1 : Int) : a4o n ax1 b1 kont1 (mx1 + 1) i1 =
  bif decide (i1 < (ax1.Digits.length : Int)) then
   (ix ax1.Digits i1).bind fun ex1 =>
   (ix b1.Digits i1).bind fun ex2 =>
   bif ex1 != ex2 then
    some false
   else
    a4o n ax1 b1 kont1 mx1 (iadd .i64 i1 1)
  else
   kont1 := rfl
def a5i (n : Nat) (ax1 : Big) (b1 : Big) : Option Bool :=
 (bif ax1.Sign != b1.Sign then
  some true
 else
  some ((ax1.Digits.length : Int) != (b1.Digits.length : Int))).bind fun v1 =>
 bif v1 then
  some false
 else
  a4o n ax1 b1 (
   some true) n 0
set_option maxHeartbeats 1000000 in
set_option maxRecDepth 1000000 in
theorem a7m (n : Nat) (ax1 : Big) (b1 : Big) (r : Bool) (hm : a5i n ax1 b1 = some r) {w : World} {F : Frz} (hs : Sat F w) {as1 : Option Addr} {ns1 : Nat} {cs1 : Nat} {as2 : Option Addr} {ns2 : Nat} {cs2 : Nat} (hs1 : SlR (Rp.int .i64) F as1 ns1 cs1 ax1.Digits) (hs2 : SlR (Rp.int .i64) F as2 ns2 cs2 b1.Digits) :
  Calls Tryz.prog 42 #[.agg #[.int .i64 ax1.Sign, .slice as1 ns1 cs1], .agg #[.int .i64 b1.Sign, .slice as2 ns2 cs2]] w fun e w' => ∃ v F' O', e = .returned v ∧ HS F w [] F' O' w' ∧ (v = .bool r ∧ O' = []) := by
 unfold a5i at hm
 have h := HS.init hs
 refine a0x 38 Tryz.func42 rfl rfl rfl ?_
 refine a0f (a0a ?_)
 refine a2o rfl rfl rfl rfl h ?_
 intro b2 wx1 hx1
 refine a2o rfl rfl rfl rfl hx1 ?_
 intro b3 wx2 hx2
 refine a0b rfl rfl rfl (a0c (a0d (a0f (a0f (a0a ?_)))))
 refine a0h fa24_0 rfl rfl rfl ?_
 refine a0t ag3 rfl rfl hx2 rfl (i := 1) rfl rfl ?_
 refine a0h fa24_0 rfl rfl rfl ?_
 refine a0t ag3 rfl rfl hx2 rfl (i := 0) rfl rfl ?_
 refine a0v rfl rfl rfl rfl rfl ?_
 refine a0e rfl rfl rfl ?_
 obtain ⟨v1, hb1, hm⟩ := bind_some hm
 refine a2k 8 (fun a w' => wx2 = w' ∧ Has 38 a [(2, .pointer (some ⟨b2, 0, none⟩)), (3, .pointer (some ⟨b3, 0, none⟩)), (19, .bool v1)]) ?_ ?_
 ·rintro a wx3 ⟨rfl, hax1⟩
  refine a1a hax1 ?_
  refine a0c (a0d ?_)
  rcases a0i hm with ⟨hb2, hm⟩ | ⟨hb2, hm⟩
  ·refine a0u 19 rfl hb2 ?_
   refine a0z rfl (a0f (a0a (a0b rfl rfl rfl (a0c (a0d (a1d (a0n ?_)))))))
   refine a1p rfl rfl ?_
   obtain rfl := Option.some.inj hm
   exact ⟨_, _, _, rfl, hx2.pick [] (by decide) rfl, rfl, rfl⟩
  refine a0u 19 rfl hb2 ?_
  refine a0s rfl (a1b (a0d (a0f (a0f (a0a (a0b rfl rfl rfl (a0c (a0d (a1i ?_)))))))))
  intro a hax4
  obtain ⟨kont1, hkont1⟩ : ∃ kont1 : Option Bool, kont1 = (
      some true) := ⟨_, rfl⟩
  replace hm : (fun m (s : Int) => a4o n ax1 b1 kont1 m s) n 0 = some r := by rw [hkont1]; exact hm
  refine a5u (id := 0) (fun m (s : Int) => a4o n ax1 b1 kont1 m s) (fun (y : Unit) => kont1) r (fun (s : Int) a w' => ∃ (Fx1 : Frz), Frz.le F Fx1 ∧ HS F w [] Fx1 [.box b3 24 [.int .i64 b1.Sign, .slice as2 ns2 cs2], .box b2 24 [.int .i64 ax1.Sign, .slice as1 ns1 cs1]] w' ∧ Has 38 a [(2, .pointer (some ⟨b2, 0, none⟩)), (3, .pointer (some ⟨b3, 0, none⟩)), (5, .int .i64 s)]) (fun (y : Unit) a w' => ∃ (Fx2 : Frz), Frz.le F Fx2 ∧ HS F w [] Fx2 [] w' ∧ Has 38 a []) (fun _ => rfl) ?_ ?_ hm ⟨_, Frz.refl _, hx2.pick [0, 1] (by decide) rfl, hax4.cut (l := [2, 3, 5]) rfl⟩
  ·clear hm; rintro _u a wx4 hm ⟨Fx2, hF2, hx4, hax2⟩
   rw [hkont1] at hm
   refine a2d (e := .exit 0) hax2 ?_
   refine a1j (a0d (a0f (a0a (a0b rfl rfl rfl (a0c (a0d (a1d ?_)))))))
   refine a1p rfl rfl ?_
   obtain rfl := Option.some.inj hm
   exact ⟨_, _, _, rfl, hx4.pick [] (by decide) rfl, rfl, rfl⟩
  clear hm hkont1; intro hk1 mx1 K ihx1
  rintro i1 a wx5 hm ⟨Fx1, hF1, hx3, hax3⟩
  simp only [a7y] at hm
  refine a1l hax3 ?_
  refine a0f (a0f (a0a (a0e rfl rfl rfl ?_)))
  refine a0h fa24_1 rfl rfl rfl ?_
  refine a0t ag22 rfl rfl hx3 rfl (i := 1) rfl rfl ?_
  refine a1z hs1.len u22 rfl rfl rfl ?_
  refine a0v rfl rfl rfl rfl rfl ?_
  refine a0c (a0d ?_)
  rcases a0i hm with ⟨hb3, hm⟩ | ⟨hb3, hm⟩
  ·refine a0u 24 rfl hb3 ?_
   refine a0z rfl (a1b (a0d (a0f (a1i (a0f ?_)))))
   refine a4s (by kernel_rfl) (by kernel_rfl) hx3 ?_
   refine a1h rfl rfl rfl rfl (fun _ _ _ _ => a0h fa24_1 rfl rfl rfl (a0c (qq rfl))) ?_
   refine a1h rfl rfl rfl rfl (fun _ _ _ hq => a0t ag22 rfl rfl hq rfl (i := 1) rfl rfl (a0c (qq rfl))) ?_
   refine a1h rfl rfl rfl rfl (fun _ _ _ _ => a0e rfl rfl rfl (a0c (qq rfl))) ?_
   obtain ⟨ex1, he1, hm⟩ := bind_some hm
   obtain ⟨b4, o1, cs1, hf1, hr1, hrun1⟩ := a5c (P := Tryz.prog) (r := (Rp.int .i64)) u22 sz3 (hs1.mono hF1) he1
   have hc1 : cs1 = [.int .i64 ex1] := hr1
   subst hc1
   refine a4v rfl rfl rfl rfl hrun1 ?_
   refine a1h rfl rfl rfl rfl (fun _ _ hleq hq => a2h (j := 0) ag3 rfl rfl hq (hf1.mono hleq) rfl rfl (a0c (qq rfl))) ?_
   refine a1h rfl rfl rfl rfl (fun _ _ _ _ => a0h fa24_1 rfl rfl rfl (a0c (qq rfl))) ?_
   refine a1h rfl rfl rfl rfl (fun _ _ _ hq => a0t ag22 rfl rfl hq rfl (i := 0) rfl rfl (a0c (qq rfl))) ?_
   refine a1h rfl rfl rfl rfl (fun _ _ _ _ => a0e rfl rfl rfl (a0c (qq rfl))) ?_
   obtain ⟨ex2, he2, hm⟩ := bind_some hm
   obtain ⟨b5, o2, cs2, hf2, hr2, hrun2⟩ := a5c (P := Tryz.prog) (r := (Rp.int .i64)) u22 sz3 (hs2.mono hF1) he2
   have hc2 : cs2 = [.int .i64 ex2] := hr2
   subst hc2
   refine a4v rfl rfl rfl rfl hrun2 ?_
   refine a1h rfl rfl rfl rfl (fun _ _ hleq hq => a2h (j := 0) ag3 rfl rfl hq (hf2.mono hleq) rfl rfl (a0c (qq rfl))) ?_
   refine a1h rfl rfl rfl rfl (fun _ _ _ _ => a0v rfl rfl rfl rfl rfl (a0c (qq rfl))) ?_
   refine b3x ?_
   rintro wx6 ⟨Fx3, hF3, hx5⟩
   refine a0d ?_
   rcases a0i hm with ⟨hb4, hm⟩ | ⟨hb4, hm⟩
   ·refine a0u 37 rfl hb4 ?_
    refine a0z rfl (a0f (a0a (a0b rfl rfl rfl (a0c (a0d (a1d (a1n (a0n (a0n (a1n (a0n ?_)))))))))))
    refine a1p rfl rfl ?_
    obtain rfl := Option.some.inj hm
    exact ⟨_, _, _, rfl, hx5.pick [] (by decide) rfl, rfl, rfl⟩
   refine a0u 37 rfl hb4 ?_
   refine a0s rfl (a1b (a2a (a0d (a0a (a0e rfl rfl rfl ?_)))))
   refine a0v rfl rfl rfl rfl rfl ?_
   refine a0b rfl rfl rfl (a0c ?_)
   refine a0p (fun a ha => ihx1 (iadd .i64 i1 1) a _ hm ?_)
   exact ⟨_, (hF1.trans hF3), hx5.pick [0, 1] (by decide) rfl, ha.cut (l := [2, 3, 5]) rfl⟩
  refine a0u 24 rfl hb3 ?_
  refine a0s rfl (a3l (a0q (a0q ?_)))
  refine fun a ha => hk1 () a _ hm ?_
  exact ⟨_, hF1, hx3.pick [] (by decide) rfl, ha.cut (l := []) rfl⟩
 clear hm
 rcases a0i hb1 with ⟨hb5, hb1⟩ | ⟨hb5, hb1⟩
 ·refine a1e 11 rfl hb5 ?_
  refine a0r rfl (by decide) rfl (a0r rfl (by decide) rfl (a0r rfl (by decide) rfl (a0r rfl (by decide) rfl (a0r rfl (by decide) rfl (a0r rfl (by decide) rfl (a0r rfl (by decide) rfl (a0m rfl rfl rfl rfl (a0c ?_))))))))
  refine a0p (fun a ha => ?_)
  cases hb1
  exact ⟨rfl, ha.cut (l := [2, 3, 19]) rfl⟩
 refine a1e 11 rfl hb5 ?_
 refine a0h fa24_1 rfl rfl rfl ?_
 refine a0t ag22 rfl rfl hx2 rfl (i := 1) rfl rfl ?_
 refine a1z hs1.len u22 rfl rfl rfl ?_
 refine a0h fa24_1 rfl rfl rfl ?_
 refine a0t ag22 rfl rfl hx2 rfl (i := 0) rfl rfl ?_
 refine a1z hs2.len u22 rfl rfl rfl ?_
 refine a0v rfl rfl rfl rfl rfl ?_
 refine a0l rfl rfl rfl rfl (a0c ?_)
 refine a0p (fun a ha => ?_)
 cases hb1
 exact ⟨rfl, ha.cut (l := [2, 3, 19]) rfl⟩
structure Frac where
 P : Big
 Q : Big
 deriving DecidableEq, Inhabited
def rp_Frac : Rp Frac where
 k := 4
 R := fun F cs x => ∃ (a1 : Option Addr) (n1 : Nat) (c1 : Nat) (a3 : Option Addr) (n3 : Nat) (c3 : Nat), cs = [.int .i64 x.P.Sign, .slice a1 n1 c1, .int .i64 x.Q.Sign, .slice a3 n3 c3] ∧ SlR (Rp.int .i64) F a1 n1 c1 x.P.Digits ∧ SlR (Rp.int .i64) F a3 n3 c3 x.Q.Digits
 len := by rintro F cs x ⟨a1, n1, c1, a3, n3, c3, h, _⟩; simp [h]
 mono := by rintro F F' cs x hF ⟨a1, n1, c1, a3, n3, c3, h, h0, h1⟩; exact ⟨a1, n1, c1, a3, n3, c3, h, h0.mono hF, h1.mono hF⟩
 one := by rintro F cs x ⟨a1, n1, c1, a3, n3, c3, h, _⟩ u hu; subst h; simp at hu; rcases hu with rfl | rfl | rfl | rfl <;> rfl
theorem fa26_0 : b8l Tryz.prog 26 0 0 := fun _ _ _ => by kernel_rfl
theorem ent42 : Ent Tryz.prog 42 := fun _ _ => by kernel_rfl
theorem fa26_1 : b8l Tryz.prog 26 1 2 := fun _ _ _ => by kernel_rfl
def a3j (n : Nat) (ax1 : Frac) (b1 : Frac) : Option Bool :=
 (a5i n ax1.P b1.P).bind fun v1 =>
 (bif v1 then
  (a5i n ax1.Q b1.Q).bind fun v3 =>
  some v3
 else
  some false).bind fun v2 =>
 some v2
set_option maxHeartbeats 1000000 in
set_option maxRecDepth 1000000 in
theorem a3c (n : Nat) (ax1 : Frac) (b1 : Frac) (r : Bool) (hm : a3j n ax1 b1 = some r) {w : World} {F : Frz} (hs : Sat F w) {as1 : Option Addr} {ns1 : Nat} {cs1 : Nat} {as2 : Option Addr} {ns2 : Nat} {cs2 : Nat} {as3 : Option Addr} {ns3 : Nat} {cs3 : Nat} {as4 : Option Addr} {ns4 : Nat} {cs4 : Nat} (hs1 : SlR (Rp.int .i64) F as1 ns1 cs1 ax1.P.Digits) (hs2 : SlR (Rp.int .i64) F as2 ns2 cs2 ax1.Q.Digits) (hs3 : SlR (Rp.int .i64) F as3 ns3 cs3 b1.P.Digits) (hs4 : SlR (Rp.int .i64) F as4 ns4 cs4 b1.Q.Digits) :
  Calls Tryz.prog 14 #[.agg #[.int .i64 ax1.P.Sign, .slice as1 ns1 cs1, .int .i64 ax1.Q.Sign, .slice as2 ns2 cs2], .agg #[.int .i64 b1.P.Sign, .slice as3 ns3 cs3, .int .i64 b1.Q.Sign, .slice as4 ns4 cs4]] w fun e w' => ∃ v F' O', e = .returned v ∧ HS F w [] F' O' w' ∧ (v = .bool r ∧ O' = []) := by
 unfold a3j at hm
 have h := HS.init hs
 refine a0x 17 Tryz.func14 rfl rfl rfl ?_
 refine a0f (a0a ?_)
 refine a2o rfl rfl rfl rfl h ?_
 intro b2 wx1 hx1
 refine a2o rfl rfl rfl rfl hx1 ?_
 intro b3 wx2 hx2
 refine a0b rfl rfl rfl (a0c (a0d (a0f (a0a ?_))))
 refine a0h fa26_0 rfl rfl rfl ?_
 refine a1f (cs' := [.int .i64 ax1.P.Sign, .slice as1 ns1 cs1]) ag24 sz24 rfl rfl hx2 rfl (i := 1) rfl rfl rfl ?_
 refine a0h fa26_0 rfl rfl rfl ?_
 refine a1f (cs' := [.int .i64 b1.P.Sign, .slice as3 ns3 cs3]) ag24 sz24 rfl rfl hx2 rfl (i := 0) rfl rfl rfl ?_
 obtain ⟨v1, hv1, hm⟩ := bind_some hm
 refine a0g ent42 rfl rfl rfl rfl hx2 (a7m _ _ _ _ hv1 hx2.sat hs1 hs3) ?_
 rintro _ Fx1 _ wx3 hF1 hx3 ⟨rfl, rfl⟩
 refine a0e rfl rfl rfl ?_
 obtain ⟨v2, hb1, hm⟩ := bind_some hm
 refine a2k 6 (fun a w' => ∃ (Fx2 : Frz), Frz.le Fx1 Fx2 ∧ HS F w [] Fx2 [.box b3 26 [.int .i64 b1.P.Sign, .slice as3 ns3 cs3, .int .i64 b1.Q.Sign, .slice as4 ns4 cs4], .box b2 26 [.int .i64 ax1.P.Sign, .slice as1 ns1 cs1, .int .i64 ax1.Q.Sign, .slice as2 ns2 cs2]] w' ∧ Has 17 a [(16, .bool v2)]) ?_ ?_
 ·rintro a wx4 ⟨Fx2, hF2, hx4, hax1⟩
  refine a1a hax1 ?_
  refine a0b rfl rfl rfl (a0c (a0d (a1d ?_)))
  refine a1p rfl rfl ?_
  obtain rfl := Option.some.inj hm
  exact ⟨_, _, _, rfl, hx4.pick [] (by decide) rfl, rfl, rfl⟩
 clear hm
 rcases a0i hb1 with ⟨hb2, hb1⟩ | ⟨hb2, hb1⟩
 ·refine a1e 10 rfl hb2 ?_
  refine a0h fa26_1 rfl rfl rfl ?_
  refine a1f (cs' := [.int .i64 ax1.Q.Sign, .slice as2 ns2 cs2]) ag24 sz24 rfl rfl hx3 rfl (i := 1) rfl rfl rfl ?_
  refine a0h fa26_1 rfl rfl rfl ?_
  refine a1f (cs' := [.int .i64 b1.Q.Sign, .slice as4 ns4 cs4]) ag24 sz24 rfl rfl hx3 rfl (i := 0) rfl rfl rfl ?_
  obtain ⟨v3, hv2, hb1⟩ := bind_some hb1
  refine a0g ent42 rfl rfl rfl rfl hx3 (a7m _ _ _ _ hv2 hx3.sat (hs2.mono hF1) (hs4.mono hF1)) ?_
  rintro _ Fx3 _ wx5 hF3 hx5 ⟨rfl, rfl⟩
  refine a0m rfl rfl rfl rfl (a0c ?_)
  refine a0p (fun a ha => ?_)
  cases hb1
  exact ⟨_, hF3, hx5.pick [0, 1] (by decide) rfl, ha.cut (l := [16]) rfl⟩
 refine a1e 10 rfl hb2 ?_
 refine a0r rfl (by decide) rfl (a0r rfl (by decide) rfl (a0r rfl (by decide) rfl (a0r rfl (by decide) rfl (a0r rfl (by decide) rfl (a0l rfl rfl rfl rfl (a0c ?_))))))
 refine a0p (fun a ha => ?_)
 cases hb1
 exact ⟨_, Frz.refl _, hx3.pick [0, 1] (by decide) rfl, ha.cut (l := [16]) rfl⟩
def b1o (_n : Nat) (f1 : Frac) (nx1 : Int) : Option Bool :=
 (bif decide ((f1.P.Digits.length : Int) ≤ nx1) then
  some (decide ((f1.Q.Digits.length : Int) ≤ nx1))
 else
  some false).bind fun v1 =>
 some v1
set_option maxHeartbeats 1000000 in
set_option maxRecDepth 1000000 in
theorem b5w (n : Nat) (f1 : Frac) (nx1 : Int) (r : Bool) (hm : b1o n f1 nx1 = some r) {w : World} {F : Frz} (hs : Sat F w) {as1 : Option Addr} {ns1 : Nat} {cs1 : Nat} {as2 : Option Addr} {ns2 : Nat} {cs2 : Nat} (hs1 : SlR (Rp.int .i64) F as1 ns1 cs1 f1.P.Digits) (hs2 : SlR (Rp.int .i64) F as2 ns2 cs2 f1.Q.Digits) :
  Calls Tryz.prog 9 #[.agg #[.int .i64 f1.P.Sign, .slice as1 ns1 cs1, .int .i64 f1.Q.Sign, .slice as2 ns2 cs2], .int .i64 nx1] w fun e w' => ∃ v F' O', e = .returned v ∧ HS F w [] F' O' w' ∧ (v = .bool r ∧ O' = []) := by
 unfold b1o at hm
 have h := HS.init hs
 refine a0x 19 Tryz.func9 rfl rfl rfl ?_
 refine a0f (a0a ?_)
 refine a2o rfl rfl rfl rfl h ?_
 intro b1 wx1 hx1
 refine a0b rfl rfl rfl (a0c (a0d (a0f (a0a ?_))))
 refine a0h fa26_0 rfl rfl rfl ?_
 refine a0h fa24_1 rfl rfl rfl ?_
 refine a0t ag22 rfl rfl hx1 rfl (i := 0) rfl rfl ?_
 refine a1z hs1.len u22 rfl rfl rfl ?_
 refine a0e rfl rfl rfl ?_
 refine a0v rfl rfl rfl rfl rfl ?_
 refine a0e rfl rfl rfl ?_
 obtain ⟨v1, hb1, hm⟩ := bind_some hm
 refine a2k 7 (fun a w' => wx1 = w' ∧ Has 19 a [(18, .bool v1)]) ?_ ?_
 ·rintro a wx2 ⟨rfl, hax1⟩
  refine a1a hax1 ?_
  refine a0b rfl rfl rfl (a0c (a0d (a1d ?_)))
  refine a1p rfl rfl ?_
  obtain rfl := Option.some.inj hm
  exact ⟨_, _, _, rfl, hx1.pick [] (by decide) rfl, rfl, rfl⟩
 clear hm
 rcases a0i hb1 with ⟨hb2, hb1⟩ | ⟨hb2, hb1⟩
 ·refine a1e 11 rfl hb2 ?_
  refine a0h fa26_1 rfl rfl rfl ?_
  refine a0h fa24_1 rfl rfl rfl ?_
  refine a0t ag22 rfl rfl hx1 rfl (i := 0) rfl rfl ?_
  refine a1z hs2.len u22 rfl rfl rfl ?_
  refine a0e rfl rfl rfl ?_
  refine a0v rfl rfl rfl rfl rfl ?_
  refine a0m rfl rfl rfl rfl (a0c ?_)
  refine a0p (fun a ha => ?_)
  cases hb1
  exact ⟨rfl, ha.cut (l := [18]) rfl⟩
 refine a1e 11 rfl hb2 ?_
 refine a0r rfl (by decide) rfl (a0r rfl (by decide) rfl (a0r rfl (by decide) rfl (a0r rfl (by decide) rfl (a0r rfl (by decide) rfl (a0r rfl (by decide) rfl (a0l rfl rfl rfl rfl (a0c ?_)))))))
 refine a0p (fun a ha => ?_)
 cases hb1
 exact ⟨rfl, ha.cut (l := [18]) rfl⟩
theorem ent95 : Ent Tryz.prog 95 := fun _ _ => by kernel_rfl
def b4v (n : Nat) (ax1 : Big) : Option Bool :=
 (b8i n ax1).bind fun v1 =>
 (bif v1.2 then
  some (v1.1 == 1)
 else
  some false).bind fun v2 =>
 some v2
set_option maxHeartbeats 1000000 in
set_option maxRecDepth 1000000 in
theorem c2e (n : Nat) (ax1 : Big) (r : Bool) (hm : b4v n ax1 = some r) {w : World} {F : Frz} (hs : Sat F w) {as1 : Option Addr} {ns1 : Nat} {cs1 : Nat} (hs1 : SlR (Rp.int .i64) F as1 ns1 cs1 ax1.Digits) :
  Calls Tryz.prog 67 #[.agg #[.int .i64 ax1.Sign, .slice as1 ns1 cs1]] w fun e w' => ∃ v F' O', e = .returned v ∧ HS F w [] F' O' w' ∧ (v = .bool r ∧ O' = []) := by
 unfold b4v at hm
 have h := HS.init hs
 refine a0x 15 Tryz.func67 rfl rfl rfl ?_
 refine a0f (a0a ?_)
 refine a2o rfl rfl rfl rfl h ?_
 intro b1 wx1 hx1
 refine a0b rfl rfl rfl (a0c (a0d (a0f (a0a ?_))))
 refine a0k ag24 sz24 rfl rfl hx1 rfl (i := 0) rfl rfl ?_
 obtain ⟨v1, hv1, hm⟩ := bind_some hm
 refine a0g ent95 rfl rfl rfl rfl hx1 (c3t _ _ _ hv1 hx1.sat hs1) ?_
 rintro _ Fx1 _ wx2 hF1 hx2 ⟨rfl, rfl⟩
 refine a0e rfl rfl rfl (a0j rfl rfl rfl rfl (a0j rfl rfl rfl rfl (a0b rfl rfl rfl (a0b rfl rfl rfl (a0c (a0d (a0f (a0a (a0e rfl rfl rfl (a0e rfl rfl rfl ?_))))))))))
 obtain ⟨v2, hb1, hm⟩ := bind_some hm
 refine a2k 3 (fun a w' => wx2 = w' ∧ Has 15 a [(14, .bool v2)]) ?_ ?_
 ·rintro a wx3 ⟨rfl, hax1⟩
  refine a1a hax1 ?_
  refine a0b rfl rfl rfl (a0c (a0d (a1d ?_)))
  refine a1p rfl rfl ?_
  obtain rfl := Option.some.inj hm
  exact ⟨_, _, _, rfl, hx2.pick [] (by decide) rfl, rfl, rfl⟩
 clear hm
 rcases a0i hb1 with ⟨hb2, hb1⟩ | ⟨hb2, hb1⟩
 ·refine a1e 11 rfl hb2 ?_
  refine a0e rfl rfl rfl ?_
  refine a0v rfl rfl rfl rfl rfl ?_
  refine a0m rfl rfl rfl rfl (a0c ?_)
  refine a0p (fun a ha => ?_)
  cases hb1
  exact ⟨rfl, ha.cut (l := [14]) rfl⟩
 refine a1e 11 rfl hb2 ?_
 refine a0r rfl (by decide) rfl (a0r rfl (by decide) rfl (a0l rfl rfl rfl rfl (a0c ?_)))
 refine a0p (fun a ha => ?_)
 cases hb1
 exact ⟨rfl, ha.cut (l := [14]) rfl⟩
theorem ent61 : Ent Tryz.prog 61 := fun _ _ => by kernel_rfl
theorem ent67 : Ent Tryz.prog 67 := fun _ _ => by kernel_rfl
def a2n (n : Nat) (f1 : Frac) : Option Bool :=
 (a3a n f1.P).bind fun v1 =>
 (bif !v1 then
  some true
 else
  (a3a n f1.Q).bind fun v7 =>
  some (!v7)).bind fun v2 =>
 (bif v2 then
  some true
 else
  some (f1.Q.Sign != 1)).bind fun v3 =>
 bif v3 then
  some false
 else
  (b3h n f1.P f1.Q).bind fun v4 =>
  (bif v4.2 == 0 then
   (b4v n v4.1).bind fun v6 =>
   some v6
  else
   some false).bind fun v5 =>
  some v5
set_option maxHeartbeats 1000000 in
set_option maxRecDepth 1000000 in
theorem a2e (n : Nat) (f1 : Frac) (r : Bool) (hm : a2n n f1 = some r) {w : World} {F : Frz} (hs : Sat F w) {as1 : Option Addr} {ns1 : Nat} {cs1 : Nat} {as2 : Option Addr} {ns2 : Nat} {cs2 : Nat} (hs1 : SlR (Rp.int .i64) F as1 ns1 cs1 f1.P.Digits) (hs2 : SlR (Rp.int .i64) F as2 ns2 cs2 f1.Q.Digits) :
  Calls Tryz.prog 25 #[.agg #[.int .i64 f1.P.Sign, .slice as1 ns1 cs1, .int .i64 f1.Q.Sign, .slice as2 ns2 cs2]] w fun e w' => ∃ v F' O', e = .returned v ∧ HS F w [] F' O' w' ∧ (v = .bool r ∧ O' = []) := by
 unfold a2n at hm
 have h := HS.init hs
 refine a0x 35 Tryz.func25 rfl rfl rfl ?_
 refine a0f (a0a ?_)
 refine a2o rfl rfl rfl rfl h ?_
 intro b1 wx1 hx1
 refine a0b rfl rfl rfl (a0c (a0d (a0f (a0f (a0a ?_)))))
 refine a0h fa26_0 rfl rfl rfl ?_
 refine a1f (cs' := [.int .i64 f1.P.Sign, .slice as1 ns1 cs1]) ag24 sz24 rfl rfl hx1 rfl (i := 0) rfl rfl rfl ?_
 obtain ⟨v1, hv1, hm⟩ := bind_some hm
 refine a0g ent60 rfl rfl rfl rfl hx1 (a2s _ _ _ hv1 hx1.sat hs1) ?_
 rintro _ Fx1 _ wx2 hF1 hx2 ⟨rfl, rfl⟩
 refine a2x rfl rfl rfl (a0e rfl rfl rfl ?_)
 obtain ⟨v2, hb1, hm⟩ := bind_some hm
 refine a2k 5 (fun a w' => ∃ (Fx2 : Frz), Frz.le Fx1 Fx2 ∧ HS F w [] Fx2 [.box b1 26 [.int .i64 f1.P.Sign, .slice as1 ns1 cs1, .int .i64 f1.Q.Sign, .slice as2 ns2 cs2]] w' ∧ Has 35 a [(1, .pointer (some ⟨b1, 0, none⟩)), (14, .bool v2)]) ?_ ?_
 ·rintro a wx3 ⟨Fx2, hF2, hx3, hax1⟩
  refine a1a hax1 ?_
  refine a0e rfl rfl rfl ?_
  obtain ⟨v3, hb2, hm⟩ := bind_some hm
  refine a2k 5 (fun a w' => wx3 = w' ∧ Has 35 a [(1, .pointer (some ⟨b1, 0, none⟩)), (20, .bool v3)]) ?_ ?_
  ·rintro a wx4 ⟨rfl, hax2⟩
   refine a1a hax2 ?_
   refine a0c (a0d ?_)
   rcases a0i hm with ⟨hb3, hm⟩ | ⟨hb3, hm⟩
   ·refine a0u 20 rfl hb3 ?_
    refine a0z rfl (a0f (a0a (a0b rfl rfl rfl (a0c (a0d (a1d (a0n ?_)))))))
    refine a1p rfl rfl ?_
    obtain rfl := Option.some.inj hm
    exact ⟨_, _, _, rfl, hx3.pick [] (by decide) rfl, rfl, rfl⟩
   refine a0u 20 rfl hb3 ?_
   refine a0s rfl (a1b (a0d (a0f (a0a ?_))))
   refine a0h fa26_0 rfl rfl rfl ?_
   refine a1f (cs' := [.int .i64 f1.P.Sign, .slice as1 ns1 cs1]) ag24 sz24 rfl rfl hx3 rfl (i := 0) rfl rfl rfl ?_
   refine a0h fa26_1 rfl rfl rfl ?_
   refine a1f (cs' := [.int .i64 f1.Q.Sign, .slice as2 ns2 cs2]) ag24 sz24 rfl rfl hx3 rfl (i := 0) rfl rfl rfl ?_
   obtain ⟨v4, hv2, hm⟩ := bind_some hm
   refine a0g ent61 rfl rfl rfl rfl hx3 (b1p _ _ _ _ hv2 hx3.sat ((hs1.mono hF1).mono hF2) ((hs2.mono hF1).mono hF2)) ?_
   rintro _ Fx3 _ wx5 hF3 hx4 ⟨as3, ns3, cs3, rfl, rfl, hs3⟩
   refine a0e rfl rfl rfl (a0j rfl rfl rfl rfl (a0j rfl rfl rfl rfl ?_))
   refine a0y ze24 rfl rfl rfl hx4 ?_
   intro b2 wx6 hx5
   refine a0o sz24 rfl hx5 rfl rfl rfl rfl (i := 0) rfl rfl rfl rfl ?_
   intro wx7 hx6
   refine a0b rfl rfl rfl (a0c (a0d (a0f (a0a (a0e rfl rfl rfl ?_)))))
   refine a0v rfl rfl rfl rfl rfl ?_
   refine a0e rfl rfl rfl ?_
   obtain ⟨v5, hb4, hm⟩ := bind_some hm
   refine a2k 3 (fun a w' => ∃ (Fx4 : Frz), Frz.le Fx3 Fx4 ∧ HS F w [] Fx4 [.box b2 24 [.int .i64 v4.1.Sign, .slice as3 ns3 cs3], .box b1 26 [.int .i64 f1.P.Sign, .slice as1 ns1 cs1, .int .i64 f1.Q.Sign, .slice as2 ns2 cs2]] w' ∧ Has 35 a [(34, .bool v5)]) ?_ ?_
   ·rintro a wx8 ⟨Fx4, hF4, hx7, hax3⟩
    refine a1a hax3 ?_
    refine a0b rfl rfl rfl (a0c (a0d (a1d ?_)))
    refine a1p rfl rfl ?_
    obtain rfl := Option.some.inj hm
    exact ⟨_, _, _, rfl, hx7.pick [] (by decide) rfl, rfl, rfl⟩
   clear hm
   rcases a0i hb4 with ⟨hb5, hb4⟩ | ⟨hb5, hb4⟩
   ·refine a1e 31 rfl hb5 ?_
    refine a0k ag24 sz24 rfl rfl hx6 rfl (i := 0) rfl rfl ?_
    obtain ⟨v6, hv3, hb4⟩ := bind_some hb4
    refine a0g ent67 rfl rfl rfl rfl hx6 (c2e _ _ _ hv3 hx6.sat hs3) ?_
    rintro _ Fx5 _ wx9 hF5 hx8 ⟨rfl, rfl⟩
    refine a0m rfl rfl rfl rfl (a0c ?_)
    refine a0p (fun a ha => ?_)
    cases hb4
    exact ⟨_, hF5, hx8.pick [0, 1] (by decide) rfl, ha.cut (l := [34]) rfl⟩
   refine a1e 31 rfl hb5 ?_
   refine a0r rfl (by decide) rfl (a0r rfl (by decide) rfl (a0l rfl rfl rfl rfl (a0c ?_)))
   refine a0p (fun a ha => ?_)
   cases hb4
   exact ⟨_, Frz.refl _, hx6.pick [0, 1] (by decide) rfl, ha.cut (l := [34]) rfl⟩
  clear hm
  rcases a0i hb2 with ⟨hb6, hb2⟩ | ⟨hb6, hb2⟩
  ·refine a1e 15 rfl hb6 ?_
   refine a0r rfl (by decide) rfl (a0r rfl (by decide) rfl (a0r rfl (by decide) rfl (a0r rfl (by decide) rfl (a0m rfl rfl rfl rfl (a0c ?_)))))
   refine a0p (fun a ha => ?_)
   cases hb2
   exact ⟨rfl, ha.cut (l := [1, 20]) rfl⟩
  refine a1e 15 rfl hb6 ?_
  refine a0h fa26_1 rfl rfl rfl ?_
  refine a0h fa24_0 rfl rfl rfl ?_
  refine a0t ag3 rfl rfl hx3 rfl (i := 0) rfl rfl ?_
  refine a0v rfl rfl rfl rfl rfl ?_
  refine a0l rfl rfl rfl rfl (a0c ?_)
  refine a0p (fun a ha => ?_)
  cases hb2
  exact ⟨rfl, ha.cut (l := [1, 20]) rfl⟩
 clear hm
 rcases a0i hb1 with ⟨hb7, hb1⟩ | ⟨hb7, hb1⟩
 ·refine a1e 9 rfl hb7 ?_
  refine a0r rfl (by decide) rfl (a0r rfl (by decide) rfl (a0r rfl (by decide) rfl (a0r rfl (by decide) rfl (a0m rfl rfl rfl rfl (a0c ?_)))))
  refine a0p (fun a ha => ?_)
  cases hb1
  exact ⟨_, Frz.refl _, hx2.pick [0] (by decide) rfl, ha.cut (l := [1, 14]) rfl⟩
 refine a1e 9 rfl hb7 ?_
 refine a0h fa26_1 rfl rfl rfl ?_
 refine a1f (cs' := [.int .i64 f1.Q.Sign, .slice as2 ns2 cs2]) ag24 sz24 rfl rfl hx2 rfl (i := 0) rfl rfl rfl ?_
 obtain ⟨v7, hv4, hb1⟩ := bind_some hb1
 refine a0g ent60 rfl rfl rfl rfl hx2 (a2s _ _ _ hv4 hx2.sat (hs2.mono hF1)) ?_
 rintro _ Fx6 _ wx10 hF6 hx9 ⟨rfl, rfl⟩
 refine a2x rfl rfl rfl (a0l rfl rfl rfl rfl (a0c ?_))
 refine a0p (fun a ha => ?_)
 cases hb1
 exact ⟨_, hF6, hx9.pick [0] (by decide) rfl, ha.cut (l := [1, 14]) rfl⟩
theorem ent70 : Ent Tryz.prog 70 := fun _ _ => by kernel_rfl
def a8g (n : Nat) (ax1 : Frac) (b1 : Frac) : Option Bool :=
 (b3k n ax1.P b1.P).bind fun v1 =>
 (bif v1 then
  (b3k n ax1.Q b1.Q).bind fun v3 =>
  some v3
 else
  some false).bind fun v2 =>
 some v2
set_option maxHeartbeats 1000000 in
set_option maxRecDepth 1000000 in
theorem a8y (n : Nat) (ax1 : Frac) (b1 : Frac) (r : Bool) (hm : a8g n ax1 b1 = some r) {w : World} {F : Frz} (hs : Sat F w) {as1 : Option Addr} {ns1 : Nat} {cs1 : Nat} {as2 : Option Addr} {ns2 : Nat} {cs2 : Nat} {as3 : Option Addr} {ns3 : Nat} {cs3 : Nat} {as4 : Option Addr} {ns4 : Nat} {cs4 : Nat} (hs1 : SlR (Rp.int .i64) F as1 ns1 cs1 ax1.P.Digits) (hs2 : SlR (Rp.int .i64) F as2 ns2 cs2 ax1.Q.Digits) (hs3 : SlR (Rp.int .i64) F as3 ns3 cs3 b1.P.Digits) (hs4 : SlR (Rp.int .i64) F as4 ns4 cs4 b1.Q.Digits) :
  Calls Tryz.prog 29 #[.agg #[.int .i64 ax1.P.Sign, .slice as1 ns1 cs1, .int .i64 ax1.Q.Sign, .slice as2 ns2 cs2], .agg #[.int .i64 b1.P.Sign, .slice as3 ns3 cs3, .int .i64 b1.Q.Sign, .slice as4 ns4 cs4]] w fun e w' => ∃ v F' O', e = .returned v ∧ HS F w [] F' O' w' ∧ (v = .bool r ∧ O' = []) := by
 unfold a8g at hm
 have h := HS.init hs
 refine a0x 17 Tryz.func29 rfl rfl rfl ?_
 refine a0f (a0a ?_)
 refine a2o rfl rfl rfl rfl h ?_
 intro b2 wx1 hx1
 refine a2o rfl rfl rfl rfl hx1 ?_
 intro b3 wx2 hx2
 refine a0b rfl rfl rfl (a0c (a0d (a0f (a0a ?_))))
 refine a0h fa26_0 rfl rfl rfl ?_
 refine a1f (cs' := [.int .i64 ax1.P.Sign, .slice as1 ns1 cs1]) ag24 sz24 rfl rfl hx2 rfl (i := 1) rfl rfl rfl ?_
 refine a0h fa26_0 rfl rfl rfl ?_
 refine a1f (cs' := [.int .i64 b1.P.Sign, .slice as3 ns3 cs3]) ag24 sz24 rfl rfl hx2 rfl (i := 0) rfl rfl rfl ?_
 obtain ⟨v1, hv1, hm⟩ := bind_some hm
 refine a0g ent70 rfl rfl rfl rfl hx2 (b7v _ _ _ _ hv1 hx2.sat hs1 hs3) ?_
 rintro _ Fx1 _ wx3 hF1 hx3 ⟨rfl, rfl⟩
 refine a0e rfl rfl rfl ?_
 obtain ⟨v2, hb1, hm⟩ := bind_some hm
 refine a2k 6 (fun a w' => ∃ (Fx2 : Frz), Frz.le Fx1 Fx2 ∧ HS F w [] Fx2 [.box b3 26 [.int .i64 b1.P.Sign, .slice as3 ns3 cs3, .int .i64 b1.Q.Sign, .slice as4 ns4 cs4], .box b2 26 [.int .i64 ax1.P.Sign, .slice as1 ns1 cs1, .int .i64 ax1.Q.Sign, .slice as2 ns2 cs2]] w' ∧ Has 17 a [(16, .bool v2)]) ?_ ?_
 ·rintro a wx4 ⟨Fx2, hF2, hx4, hax1⟩
  refine a1a hax1 ?_
  refine a0b rfl rfl rfl (a0c (a0d (a1d ?_)))
  refine a1p rfl rfl ?_
  obtain rfl := Option.some.inj hm
  exact ⟨_, _, _, rfl, hx4.pick [] (by decide) rfl, rfl, rfl⟩
 clear hm
 rcases a0i hb1 with ⟨hb2, hb1⟩ | ⟨hb2, hb1⟩
 ·refine a1e 10 rfl hb2 ?_
  refine a0h fa26_1 rfl rfl rfl ?_
  refine a1f (cs' := [.int .i64 ax1.Q.Sign, .slice as2 ns2 cs2]) ag24 sz24 rfl rfl hx3 rfl (i := 1) rfl rfl rfl ?_
  refine a0h fa26_1 rfl rfl rfl ?_
  refine a1f (cs' := [.int .i64 b1.Q.Sign, .slice as4 ns4 cs4]) ag24 sz24 rfl rfl hx3 rfl (i := 0) rfl rfl rfl ?_
  obtain ⟨v3, hv2, hb1⟩ := bind_some hb1
  refine a0g ent70 rfl rfl rfl rfl hx3 (b7v _ _ _ _ hv2 hx3.sat (hs2.mono hF1) (hs4.mono hF1)) ?_
  rintro _ Fx3 _ wx5 hF3 hx5 ⟨rfl, rfl⟩
  refine a0m rfl rfl rfl rfl (a0c ?_)
  refine a0p (fun a ha => ?_)
  cases hb1
  exact ⟨_, hF3, hx5.pick [0, 1] (by decide) rfl, ha.cut (l := [16]) rfl⟩
 refine a1e 10 rfl hb2 ?_
 refine a0r rfl (by decide) rfl (a0r rfl (by decide) rfl (a0r rfl (by decide) rfl (a0r rfl (by decide) rfl (a0r rfl (by decide) rfl (a0l rfl rfl rfl rfl (a0c ?_))))))
 refine a0p (fun a ha => ?_)
 cases hb1
 exact ⟨_, Frz.refl _, hx3.pick [0, 1] (by decide) rfl, ha.cut (l := [16]) rfl⟩
theorem ze26 : c2i Tryz.prog 26 (.agg #[.int .i64 0, .slice none 0 0, .int .i64 0, .slice none 0 0]) := fun _ => by kernel_rfl
theorem sz26 : a5w Tryz.prog 26 4 := fun _ => by kernel_rfl
theorem ag26 : b3w Tryz.prog 26 true := fun _ => by kernel_rfl
theorem ent50 : Ent Tryz.prog 50 := fun _ _ => by kernel_rfl
theorem ent62 : Ent Tryz.prog 62 := fun _ _ => by kernel_rfl
def a7b (n : Nat) (p1 : Big) (q1 : Big) : Option (Frac × Int) :=
 (a3a n p1).bind fun v1 =>
 (bif !v1 then
  some true
 else
  (a3a n q1).bind fun v11 =>
  some (!v11)).bind fun v2 =>
 bif v2 then
  some ((⟨(⟨0, []⟩ : Big), (⟨0, []⟩ : Big)⟩ : Frac), 1)
 else
  bif q1.Sign == 0 then
   some ((⟨(⟨0, []⟩ : Big), (⟨0, []⟩ : Big)⟩ : Frac), 14)
  else
   bif decide (q1.Sign < 0) then
    (b1f n p1).bind fun v3 =>
    (b1f n q1).bind fun v4 =>
    (b3h n v3 v4).bind fun v5 =>
    (b0g n v3 v5.1).bind fun v6 =>
    (b0g n v4 v5.1).bind fun v7 =>
    some ((⟨v6.1, v7.1⟩ : Frac), 0)
   else
    (b3h n p1 q1).bind fun v8 =>
    (b0g n p1 v8.1).bind fun v9 =>
    (b0g n q1 v8.1).bind fun v10 =>
    some ((⟨v9.1, v10.1⟩ : Frac), 0)
set_option maxHeartbeats 1000000 in
set_option maxRecDepth 1000000 in
theorem b0c (n : Nat) (p1 : Big) (q1 : Big) (r : (Frac × Int)) (hm : a7b n p1 q1 = some r) {w : World} {F : Frz} (hs : Sat F w) {as1 : Option Addr} {ns1 : Nat} {cs1 : Nat} {as2 : Option Addr} {ns2 : Nat} {cs2 : Nat} (hs1 : SlR (Rp.int .i64) F as1 ns1 cs1 p1.Digits) (hs2 : SlR (Rp.int .i64) F as2 ns2 cs2 q1.Digits) :
  Calls Tryz.prog 23 #[.agg #[.int .i64 p1.Sign, .slice as1 ns1 cs1], .agg #[.int .i64 q1.Sign, .slice as2 ns2 cs2]] w fun e w' => ∃ v F' O', e = .returned v ∧ HS F w [] F' O' w' ∧ (∃ (a0_1 : Option Addr) (n0_1 : Nat) (c0_1 : Nat) (a0_3 : Option Addr) (n0_3 : Nat) (c0_3 : Nat), v = .tuple #[.agg #[.int .i64 r.1.P.Sign, .slice a0_1 n0_1 c0_1, .int .i64 r.1.Q.Sign, .slice a0_3 n0_3 c0_3], .int .i64 r.2] ∧ O' = [] ∧ SlR (Rp.int .i64) F' a0_1 n0_1 c0_1 r.1.P.Digits ∧ SlR (Rp.int .i64) F' a0_3 n0_3 c0_3 r.1.Q.Digits) := by
 unfold a7b at hm
 have h := HS.init hs
 refine a0x 60 Tryz.func23 rfl rfl rfl ?_
 refine a0f (a0a ?_)
 refine a2o rfl rfl rfl rfl h ?_
 intro b1 wx1 hx1
 refine a2o rfl rfl rfl rfl hx1 ?_
 intro b2 wx2 hx2
 refine a0y ze26 rfl rfl rfl hx2 ?_
 intro b3 wx3 hx3
 refine a0b rfl rfl rfl (a0c (a0d (a0f (a1i (a0f (a0a ?_))))))
 refine a0k ag24 sz24 rfl rfl hx3 rfl (i := 2) rfl rfl ?_
 obtain ⟨v1, hv1, hm⟩ := bind_some hm
 refine a0g ent60 rfl rfl rfl rfl hx3 (a2s _ _ _ hv1 hx3.sat hs1) ?_
 rintro _ Fx1 _ wx4 hF1 hx4 ⟨rfl, rfl⟩
 refine a2x rfl rfl rfl (a0e rfl rfl rfl ?_)
 obtain ⟨v2, hb1, hm⟩ := bind_some hm
 refine a2k 4 (fun a w' => ∃ (Fx2 : Frz), Frz.le Fx1 Fx2 ∧ HS F w [] Fx2 [.box b3 26 [.int .i64 0, .slice none 0 0, .int .i64 0, .slice none 0 0], .box b2 24 [.int .i64 q1.Sign, .slice as2 ns2 cs2], .box b1 24 [.int .i64 p1.Sign, .slice as1 ns1 cs1]] w' ∧ Has 60 a [(2, .pointer (some ⟨b1, 0, none⟩)), (3, .pointer (some ⟨b2, 0, none⟩)), (4, .pointer (some ⟨b3, 0, none⟩)), (22, .bool v2)]) ?_ ?_
 ·rintro a wx5 ⟨Fx2, hF2, hx5, hax1⟩
  refine a1a hax1 ?_
  refine a0b rfl rfl rfl (a0c (a0d ?_))
  rcases a0i hm with ⟨hb2, hm⟩ | ⟨hb2, hm⟩
  ·refine a0u 14 rfl hb2 ?_
   refine a0z rfl (a0f (a0a ?_))
   refine a1r (v := .agg #[.int .i64 0, .slice none 0 0, .int .i64 0, .slice none 0 0]) rfl rfl rfl (fun _ => by kernel_rfl) ?_
   refine a0o sz26 rfl hx5 rfl rfl rfl rfl (i := 0) rfl rfl rfl rfl ?_
   intro wx6 hx6
   refine a0b rfl rfl rfl (a0c (a0d (a1d (a1n (a0n ?_)))))
   refine a1k (vl := [.agg #[.int .i64 0, .slice none 0 0, .int .i64 0, .slice none 0 0], .int .i64 1]) rfl ⟨a1q ag26 sz26 rfl hx6 rfl (i := 0) rfl, a1w rfl, trivial⟩ (by simp) ?_
   obtain rfl := Option.some.inj hm
   exact ⟨_, _, _, rfl, hx6.pick [] (by decide) rfl, none, 0, 0, none, 0, 0, rfl, rfl, SlR.nil _ _, SlR.nil _ _⟩
  refine a0u 14 rfl hb2 ?_
  refine a0s rfl (a0f (a0a ?_))
  refine a0h fa24_0 rfl rfl rfl ?_
  refine a0t ag3 rfl rfl hx5 rfl (i := 1) rfl rfl ?_
  refine a0v rfl rfl rfl rfl rfl ?_
  refine a0b rfl rfl rfl (a0c (a0d ?_))
  rcases a0i hm with ⟨hb3, hm⟩ | ⟨hb3, hm⟩
  ·refine a0u 24 rfl hb3 ?_
   refine a0z rfl (a0f (a0a ?_))
   refine a1r (v := .agg #[.int .i64 0, .slice none 0 0, .int .i64 0, .slice none 0 0]) rfl rfl rfl (fun _ => by kernel_rfl) ?_
   refine a0o sz26 rfl hx5 rfl rfl rfl rfl (i := 0) rfl rfl rfl rfl ?_
   intro wx7 hx7
   refine a0b rfl rfl rfl (a0c (a0d (a1d (a1n (a0n ?_)))))
   refine a1k (vl := [.agg #[.int .i64 0, .slice none 0 0, .int .i64 0, .slice none 0 0], .int .i64 14]) rfl ⟨a1q ag26 sz26 rfl hx7 rfl (i := 0) rfl, a1w rfl, trivial⟩ (by simp) ?_
   obtain rfl := Option.some.inj hm
   exact ⟨_, _, _, rfl, hx7.pick [] (by decide) rfl, none, 0, 0, none, 0, 0, rfl, rfl, SlR.nil _ _, SlR.nil _ _⟩
  refine a0u 24 rfl hb3 ?_
  refine a0s rfl (a0f (a0a ?_))
  refine a0h fa24_0 rfl rfl rfl ?_
  refine a0t ag3 rfl rfl hx5 rfl (i := 1) rfl rfl ?_
  refine a0v rfl rfl rfl rfl rfl ?_
  refine a0b rfl rfl rfl (a0c (a0d ?_))
  rcases a0i hm with ⟨hb4, hm⟩ | ⟨hb4, hm⟩
  ·refine a0u 29 rfl hb4 ?_
   refine a0z rfl ?_
   refine a2m (SH Fx2 [.box b3 26 [.int .i64 0, .slice none 0 0, .int .i64 0, .slice none 0 0]]) 6 rfl (by kernel_rfl) hx5 ?_
   intro wx8 hx8
   refine b8r 0 2 rfl rfl (by kernel_rfl) ?_ ?_
   ·refine a0k ag24 sz24 rfl rfl hx8 rfl (i := 2) rfl rfl ?_
    refine a0w (hx8.sh (Frz.refl _) [0] (by decide) rfl) ?_
    refine b8r 1 2 rfl rfl (by kernel_rfl) ?_ ?_
    ·obtain ⟨v3, hv2, hm⟩ := bind_some hm
     refine a0g ent50 rfl rfl rfl rfl hx8 (a6j _ _ _ hv2 hx8.sat ((hs1.mono hF1).mono hF2)) ?_
     rintro _ Fx3 _ wx9 hF3 hx9 ⟨as3, ns3, cs3, rfl, rfl, hs3⟩
     refine a0w (hx9.sh hF3 [0] (by decide) rfl) ?_
     refine a1c 2 rfl (by kernel_rfl) ?_
     refine a0k ag24 sz24 rfl rfl hx9 rfl (i := 1) rfl rfl ?_
     refine a0w (hx9.sh hF3 [0] (by decide) rfl) ?_
     refine a1c 3 rfl (by kernel_rfl) ?_
     obtain ⟨v4, hv3, hm⟩ := bind_some hm
     refine a0g ent50 rfl rfl rfl rfl hx9 (a6j _ _ _ hv3 hx9.sat (((hs2.mono hF1).mono hF2).mono hF3)) ?_
     rintro _ Fx4 _ wx10 hF4 hx10 ⟨as4, ns4, cs4, rfl, rfl, hs4⟩
     refine a0w (hx10.sh (hF3.trans hF4) [0] (by decide) rfl) ?_
     refine a1c 4 rfl (by kernel_rfl) ?_
     refine a0o sz24 rfl hx10 rfl rfl rfl rfl (i := 2) rfl rfl rfl rfl ?_
     intro wx11 hx11
     refine a0w (hx11.sh (hF3.trans hF4) [0] (by decide) rfl) ?_
     refine a1c 5 rfl (by kernel_rfl) ?_
     refine a0o sz24 rfl hx11 rfl rfl rfl rfl (i := 1) rfl rfl rfl rfl ?_
     intro wx12 hx12
     refine a0w (hx12.sh (hF3.trans hF4) [0] (by decide) rfl) ?_
     refine a3v (by kernel_rfl) ?_
     refine a2a (a0d (a0f (a0a ?_)))
     refine a0k ag24 sz24 rfl rfl hx12 rfl (i := 2) rfl rfl ?_
     refine a0k ag24 sz24 rfl rfl hx12 rfl (i := 1) rfl rfl ?_
     obtain ⟨v5, hv4, hm⟩ := bind_some hm
     refine a0g ent61 rfl rfl rfl rfl hx12 (b1p _ _ _ _ hv4 hx12.sat (hs3.mono hF4) hs4) ?_
     rintro _ Fx5 _ wx13 hF5 hx13 ⟨as5, ns5, cs5, rfl, rfl, hs5⟩
     refine a0e rfl rfl rfl (a0j rfl rfl rfl rfl (a0j rfl rfl rfl rfl ?_))
     refine a0y ze24 rfl rfl rfl hx13 ?_
     intro b4 wx14 hx14
     refine a0o sz24 rfl hx14 rfl rfl rfl rfl (i := 0) rfl rfl rfl rfl ?_
     intro wx15 hx15
     refine a0b rfl rfl rfl (a0c (a0d (a0f (a0a ?_))))
     refine a0k ag24 sz24 rfl rfl hx15 rfl (i := 3) rfl rfl ?_
     refine a0k ag24 sz24 rfl rfl hx15 rfl (i := 0) rfl rfl ?_
     obtain ⟨v6, hv5, hm⟩ := bind_some hm
     refine a0g ent62 rfl rfl rfl rfl hx15 (a7a _ _ _ _ hv5 hx15.sat ((hs3.mono hF4).mono hF5) hs5) ?_
     rintro _ Fx6 _ wx16 hF6 hx16 ⟨as6, ns6, cs6, as7, ns7, cs7, rfl, rfl, hs6, hs7⟩
     refine a0e rfl rfl rfl (a0j rfl rfl rfl rfl (a0j rfl rfl rfl rfl (a0j rfl rfl rfl rfl ?_)))
     refine a0y ze24 rfl rfl rfl hx16 ?_
     intro b5 wx17 hx17
     refine a0y ze24 rfl rfl rfl hx17 ?_
     intro b6 wx18 hx18
     refine a0o sz24 rfl hx18 rfl rfl rfl rfl (i := 1) rfl rfl rfl rfl ?_
     intro wx19 hx19
     refine a0o sz24 rfl hx19 rfl rfl rfl rfl (i := 0) rfl rfl rfl rfl ?_
     intro wx20 hx20
     refine a0b rfl rfl rfl (a0c (a0d (a0f (a0a ?_))))
     refine a0k ag24 sz24 rfl rfl hx20 rfl (i := 4) rfl rfl ?_
     refine a0k ag24 sz24 rfl rfl hx20 rfl (i := 2) rfl rfl ?_
     obtain ⟨v7, hv6, hm⟩ := bind_some hm
     refine a0g ent62 rfl rfl rfl rfl hx20 (a7a _ _ _ _ hv6 hx20.sat ((hs4.mono hF5).mono hF6) (hs5.mono hF6)) ?_
     rintro _ Fx7 _ wx21 hF7 hx21 ⟨as8, ns8, cs8, as9, ns9, cs9, rfl, rfl, hs8, hs9⟩
     refine a0e rfl rfl rfl (a0j rfl rfl rfl rfl (a0j rfl rfl rfl rfl (a0j rfl rfl rfl rfl ?_)))
     refine a0y ze24 rfl rfl rfl hx21 ?_
     intro b7 wx22 hx22
     refine a0y ze24 rfl rfl rfl hx22 ?_
     intro b8 wx23 hx23
     refine a0o sz24 rfl hx23 rfl rfl rfl rfl (i := 1) rfl rfl rfl rfl ?_
     intro wx24 hx24
     refine a0o sz24 rfl hx24 rfl rfl rfl rfl (i := 0) rfl rfl rfl rfl ?_
     intro wx25 hx25
     refine a0b rfl rfl rfl (a0c (a0d (a0f (a0a ?_))))
     refine a0k ag24 sz24 rfl rfl hx25 rfl (i := 3) rfl rfl ?_
     refine a0k ag24 sz24 rfl rfl hx25 rfl (i := 1) rfl rfl ?_
     refine a1r (v := .agg #[.int .i64 v6.1.Sign, .slice as6 ns6 cs6, .int .i64 v7.1.Sign, .slice as8 ns8 cs8]) rfl rfl rfl (fun _ => by kernel_rfl) ?_
     refine a0o sz26 rfl hx25 rfl rfl rfl rfl (i := 5) rfl rfl rfl rfl ?_
     intro wx26 hx26
     refine a0b rfl rfl rfl (a0c (a0d (a1d ?_)))
     refine a1k (vl := [.agg #[.int .i64 v6.1.Sign, .slice as6 ns6 cs6, .int .i64 v7.1.Sign, .slice as8 ns8 cs8], .int .i64 0]) rfl ⟨a1q ag26 sz26 rfl hx26 rfl (i := 5) rfl, a1w rfl, trivial⟩ (by simp) ?_
     obtain rfl := Option.some.inj hm
     exact ⟨_, _, _, rfl, hx26.pick [] (by decide) rfl, as6, ns6, cs6, as8, ns8, cs8, rfl, rfl, (hs6.mono hF7), hs8⟩
    refine a0k ag24 sz24 rfl rfl hx8 rfl (i := 1) rfl rfl ?_
    refine a0w (hx8.sh (Frz.refl _) [0] (by decide) rfl) ?_
    refine a1c 1 rfl (by kernel_rfl) ?_
    obtain ⟨v3, hv2, hm⟩ := bind_some hm
    refine a0g ent50 rfl rfl rfl rfl hx8 (a6j _ _ _ hv2 hx8.sat ((hs1.mono hF1).mono hF2)) ?_
    rintro _ Fx3 _ wx9 hF3 hx9 ⟨as3, ns3, cs3, rfl, rfl, hs3⟩
    refine a0w (hx9.sh hF3 [0] (by decide) rfl) ?_
    refine a1c 3 rfl (by kernel_rfl) ?_
    obtain ⟨v4, hv3, hm⟩ := bind_some hm
    refine a0g ent50 rfl rfl rfl rfl hx9 (a6j _ _ _ hv3 hx9.sat (((hs2.mono hF1).mono hF2).mono hF3)) ?_
    rintro _ Fx4 _ wx10 hF4 hx10 ⟨as4, ns4, cs4, rfl, rfl, hs4⟩
    refine a0w (hx10.sh (hF3.trans hF4) [0] (by decide) rfl) ?_
    refine a1c 4 rfl (by kernel_rfl) ?_
    refine a0o sz24 rfl hx10 rfl rfl rfl rfl (i := 2) rfl rfl rfl rfl ?_
    intro wx11 hx11
    refine a0w (hx11.sh (hF3.trans hF4) [0] (by decide) rfl) ?_
    refine a1c 5 rfl (by kernel_rfl) ?_
    refine a0o sz24 rfl hx11 rfl rfl rfl rfl (i := 1) rfl rfl rfl rfl ?_
    intro wx12 hx12
    refine a0w (hx12.sh (hF3.trans hF4) [0] (by decide) rfl) ?_
    refine a3v (by kernel_rfl) ?_
    refine a2a (a0d (a0f (a0a ?_)))
    refine a0k ag24 sz24 rfl rfl hx12 rfl (i := 2) rfl rfl ?_
    refine a0k ag24 sz24 rfl rfl hx12 rfl (i := 1) rfl rfl ?_
    obtain ⟨v5, hv4, hm⟩ := bind_some hm
    refine a0g ent61 rfl rfl rfl rfl hx12 (b1p _ _ _ _ hv4 hx12.sat (hs3.mono hF4) hs4) ?_
    rintro _ Fx5 _ wx13 hF5 hx13 ⟨as5, ns5, cs5, rfl, rfl, hs5⟩
    refine a0e rfl rfl rfl (a0j rfl rfl rfl rfl (a0j rfl rfl rfl rfl ?_))
    refine a0y ze24 rfl rfl rfl hx13 ?_
    intro b4 wx14 hx14
    refine a0o sz24 rfl hx14 rfl rfl rfl rfl (i := 0) rfl rfl rfl rfl ?_
    intro wx15 hx15
    refine a0b rfl rfl rfl (a0c (a0d (a0f (a0a ?_))))
    refine a0k ag24 sz24 rfl rfl hx15 rfl (i := 3) rfl rfl ?_
    refine a0k ag24 sz24 rfl rfl hx15 rfl (i := 0) rfl rfl ?_
    obtain ⟨v6, hv5, hm⟩ := bind_some hm
    refine a0g ent62 rfl rfl rfl rfl hx15 (a7a _ _ _ _ hv5 hx15.sat ((hs3.mono hF4).mono hF5) hs5) ?_
    rintro _ Fx6 _ wx16 hF6 hx16 ⟨as6, ns6, cs6, as7, ns7, cs7, rfl, rfl, hs6, hs7⟩
    refine a0e rfl rfl rfl (a0j rfl rfl rfl rfl (a0j rfl rfl rfl rfl (a0j rfl rfl rfl rfl ?_)))
    refine a0y ze24 rfl rfl rfl hx16 ?_
    intro b5 wx17 hx17
    refine a0y ze24 rfl rfl rfl hx17 ?_
    intro b6 wx18 hx18
    refine a0o sz24 rfl hx18 rfl rfl rfl rfl (i := 1) rfl rfl rfl rfl ?_
    intro wx19 hx19
    refine a0o sz24 rfl hx19 rfl rfl rfl rfl (i := 0) rfl rfl rfl rfl ?_
    intro wx20 hx20
    refine a0b rfl rfl rfl (a0c (a0d (a0f (a0a ?_))))
    refine a0k ag24 sz24 rfl rfl hx20 rfl (i := 4) rfl rfl ?_
    refine a0k ag24 sz24 rfl rfl hx20 rfl (i := 2) rfl rfl ?_
    obtain ⟨v7, hv6, hm⟩ := bind_some hm
    refine a0g ent62 rfl rfl rfl rfl hx20 (a7a _ _ _ _ hv6 hx20.sat ((hs4.mono hF5).mono hF6) (hs5.mono hF6)) ?_
    rintro _ Fx7 _ wx21 hF7 hx21 ⟨as8, ns8, cs8, as9, ns9, cs9, rfl, rfl, hs8, hs9⟩
    refine a0e rfl rfl rfl (a0j rfl rfl rfl rfl (a0j rfl rfl rfl rfl (a0j rfl rfl rfl rfl ?_)))
    refine a0y ze24 rfl rfl rfl hx21 ?_
    intro b7 wx22 hx22
    refine a0y ze24 rfl rfl rfl hx22 ?_
    intro b8 wx23 hx23
    refine a0o sz24 rfl hx23 rfl rfl rfl rfl (i := 1) rfl rfl rfl rfl ?_
    intro wx24 hx24
    refine a0o sz24 rfl hx24 rfl rfl rfl rfl (i := 0) rfl rfl rfl rfl ?_
    intro wx25 hx25
    refine a0b rfl rfl rfl (a0c (a0d (a0f (a0a ?_))))
    refine a0k ag24 sz24 rfl rfl hx25 rfl (i := 3) rfl rfl ?_
    refine a0k ag24 sz24 rfl rfl hx25 rfl (i := 1) rfl rfl ?_
    refine a1r (v := .agg #[.int .i64 v6.1.Sign, .slice as6 ns6 cs6, .int .i64 v7.1.Sign, .slice as8 ns8 cs8]) rfl rfl rfl (fun _ => by kernel_rfl) ?_
    refine a0o sz26 rfl hx25 rfl rfl rfl rfl (i := 5) rfl rfl rfl rfl ?_
    intro wx26 hx26
    refine a0b rfl rfl rfl (a0c (a0d (a1d ?_)))
    refine a1k (vl := [.agg #[.int .i64 v6.1.Sign, .slice as6 ns6 cs6, .int .i64 v7.1.Sign, .slice as8 ns8 cs8], .int .i64 0]) rfl ⟨a1q ag26 sz26 rfl hx26 rfl (i := 5) rfl, a1w rfl, trivial⟩ (by simp) ?_
    obtain rfl := Option.some.inj hm
    exact ⟨_, _, _, rfl, hx26.pick [] (by decide) rfl, as6, ns6, cs6, as8, ns8, cs8, rfl, rfl, (hs6.mono hF7), hs8⟩
   refine a0k ag24 sz24 rfl rfl hx8 rfl (i := 1) rfl rfl ?_
   refine a0w (hx8.sh (Frz.refl _) [0] (by decide) rfl) ?_
   refine a1c 0 rfl (by kernel_rfl) ?_
   refine a0k ag24 sz24 rfl rfl hx8 rfl (i := 2) rfl rfl ?_
   refine a0w (hx8.sh (Frz.refl _) [0] (by decide) rfl) ?_
   refine a1c 1 rfl (by kernel_rfl) ?_
   obtain ⟨v3, hv2, hm⟩ := bind_some hm
   refine a0g ent50 rfl rfl rfl rfl hx8 (a6j _ _ _ hv2 hx8.sat ((hs1.mono hF1).mono hF2)) ?_
   rintro _ Fx3 _ wx9 hF3 hx9 ⟨as3, ns3, cs3, rfl, rfl, hs3⟩
   refine a0w (hx9.sh hF3 [0] (by decide) rfl) ?_
   refine a1c 3 rfl (by kernel_rfl) ?_
   obtain ⟨v4, hv3, hm⟩ := bind_some hm
   refine a0g ent50 rfl rfl rfl rfl hx9 (a6j _ _ _ hv3 hx9.sat (((hs2.mono hF1).mono hF2).mono hF3)) ?_
   rintro _ Fx4 _ wx10 hF4 hx10 ⟨as4, ns4, cs4, rfl, rfl, hs4⟩
   refine a0w (hx10.sh (hF3.trans hF4) [0] (by decide) rfl) ?_
   refine a1c 4 rfl (by kernel_rfl) ?_
   refine a0o sz24 rfl hx10 rfl rfl rfl rfl (i := 2) rfl rfl rfl rfl ?_
   intro wx11 hx11
   refine a0w (hx11.sh (hF3.trans hF4) [0] (by decide) rfl) ?_
   refine a1c 5 rfl (by kernel_rfl) ?_
   refine a0o sz24 rfl hx11 rfl rfl rfl rfl (i := 1) rfl rfl rfl rfl ?_
   intro wx12 hx12
   refine a0w (hx12.sh (hF3.trans hF4) [0] (by decide) rfl) ?_
   refine a3v (by kernel_rfl) ?_
   refine a2a (a0d (a0f (a0a ?_)))
   refine a0k ag24 sz24 rfl rfl hx12 rfl (i := 2) rfl rfl ?_
   refine a0k ag24 sz24 rfl rfl hx12 rfl (i := 1) rfl rfl ?_
   obtain ⟨v5, hv4, hm⟩ := bind_some hm
   refine a0g ent61 rfl rfl rfl rfl hx12 (b1p _ _ _ _ hv4 hx12.sat (hs3.mono hF4) hs4) ?_
   rintro _ Fx5 _ wx13 hF5 hx13 ⟨as5, ns5, cs5, rfl, rfl, hs5⟩
   refine a0e rfl rfl rfl (a0j rfl rfl rfl rfl (a0j rfl rfl rfl rfl ?_))
   refine a0y ze24 rfl rfl rfl hx13 ?_
   intro b4 wx14 hx14
   refine a0o sz24 rfl hx14 rfl rfl rfl rfl (i := 0) rfl rfl rfl rfl ?_
   intro wx15 hx15
   refine a0b rfl rfl rfl (a0c (a0d (a0f (a0a ?_))))
   refine a0k ag24 sz24 rfl rfl hx15 rfl (i := 3) rfl rfl ?_
   refine a0k ag24 sz24 rfl rfl hx15 rfl (i := 0) rfl rfl ?_
   obtain ⟨v6, hv5, hm⟩ := bind_some hm
   refine a0g ent62 rfl rfl rfl rfl hx15 (a7a _ _ _ _ hv5 hx15.sat ((hs3.mono hF4).mono hF5) hs5) ?_
   rintro _ Fx6 _ wx16 hF6 hx16 ⟨as6, ns6, cs6, as7, ns7, cs7, rfl, rfl, hs6, hs7⟩
   refine a0e rfl rfl rfl (a0j rfl rfl rfl rfl (a0j rfl rfl rfl rfl (a0j rfl rfl rfl rfl ?_)))
   refine a0y ze24 rfl rfl rfl hx16 ?_
   intro b5 wx17 hx17
   refine a0y ze24 rfl rfl rfl hx17 ?_
   intro b6 wx18 hx18
   refine a0o sz24 rfl hx18 rfl rfl rfl rfl (i := 1) rfl rfl rfl rfl ?_
   intro wx19 hx19
   refine a0o sz24 rfl hx19 rfl rfl rfl rfl (i := 0) rfl rfl rfl rfl ?_
   intro wx20 hx20
   refine a0b rfl rfl rfl (a0c (a0d (a0f (a0a ?_))))
   refine a0k ag24 sz24 rfl rfl hx20 rfl (i := 4) rfl rfl ?_
   refine a0k ag24 sz24 rfl rfl hx20 rfl (i := 2) rfl rfl ?_
   obtain ⟨v7, hv6, hm⟩ := bind_some hm
   refine a0g ent62 rfl rfl rfl rfl hx20 (a7a _ _ _ _ hv6 hx20.sat ((hs4.mono hF5).mono hF6) (hs5.mono hF6)) ?_
   rintro _ Fx7 _ wx21 hF7 hx21 ⟨as8, ns8, cs8, as9, ns9, cs9, rfl, rfl, hs8, hs9⟩
   refine a0e rfl rfl rfl (a0j rfl rfl rfl rfl (a0j rfl rfl rfl rfl (a0j rfl rfl rfl rfl ?_)))
   refine a0y ze24 rfl rfl rfl hx21 ?_
   intro b7 wx22 hx22
   refine a0y ze24 rfl rfl rfl hx22 ?_
   intro b8 wx23 hx23
   refine a0o sz24 rfl hx23 rfl rfl rfl rfl (i := 1) rfl rfl rfl rfl ?_
   intro wx24 hx24
   refine a0o sz24 rfl hx24 rfl rfl rfl rfl (i := 0) rfl rfl rfl rfl ?_
   intro wx25 hx25
   refine a0b rfl rfl rfl (a0c (a0d (a0f (a0a ?_))))
   refine a0k ag24 sz24 rfl rfl hx25 rfl (i := 3) rfl rfl ?_
   refine a0k ag24 sz24 rfl rfl hx25 rfl (i := 1) rfl rfl ?_
   refine a1r (v := .agg #[.int .i64 v6.1.Sign, .slice as6 ns6 cs6, .int .i64 v7.1.Sign, .slice as8 ns8 cs8]) rfl rfl rfl (fun _ => by kernel_rfl) ?_
   refine a0o sz26 rfl hx25 rfl rfl rfl rfl (i := 5) rfl rfl rfl rfl ?_
   intro wx26 hx26
   refine a0b rfl rfl rfl (a0c (a0d (a1d ?_)))
   refine a1k (vl := [.agg #[.int .i64 v6.1.Sign, .slice as6 ns6 cs6, .int .i64 v7.1.Sign, .slice as8 ns8 cs8], .int .i64 0]) rfl ⟨a1q ag26 sz26 rfl hx26 rfl (i := 5) rfl, a1w rfl, trivial⟩ (by simp) ?_
   obtain rfl := Option.some.inj hm
   exact ⟨_, _, _, rfl, hx26.pick [] (by decide) rfl, as6, ns6, cs6, as8, ns8, cs8, rfl, rfl, (hs6.mono hF7), hs8⟩
  refine a0u 29 rfl hb4 ?_
  refine a0s rfl (a1b (a2a (a0d (a0f (a0a ?_)))))
  refine a0k ag24 sz24 rfl rfl hx5 rfl (i := 2) rfl rfl ?_
  refine a0k ag24 sz24 rfl rfl hx5 rfl (i := 1) rfl rfl ?_
  obtain ⟨v8, hv7, hm⟩ := bind_some hm
  refine a0g ent61 rfl rfl rfl rfl hx5 (b1p _ _ _ _ hv7 hx5.sat ((hs1.mono hF1).mono hF2) ((hs2.mono hF1).mono hF2)) ?_
  rintro _ Fx8 _ wx27 hF8 hx27 ⟨as10, ns10, cs10, rfl, rfl, hs10⟩
  refine a0e rfl rfl rfl (a0j rfl rfl rfl rfl (a0j rfl rfl rfl rfl ?_))
  refine a0y ze24 rfl rfl rfl hx27 ?_
  intro b9 wx28 hx28
  refine a0o sz24 rfl hx28 rfl rfl rfl rfl (i := 0) rfl rfl rfl rfl ?_
  intro wx29 hx29
  refine a0b rfl rfl rfl (a0c (a0d (a0f (a0a ?_))))
  refine a0k ag24 sz24 rfl rfl hx29 rfl (i := 3) rfl rfl ?_
  refine a0k ag24 sz24 rfl rfl hx29 rfl (i := 0) rfl rfl ?_
  obtain ⟨v9, hv8, hm⟩ := bind_some hm
  refine a0g ent62 rfl rfl rfl rfl hx29 (a7a _ _ _ _ hv8 hx29.sat (((hs1.mono hF1).mono hF2).mono hF8) hs10) ?_
  rintro _ Fx9 _ wx30 hF9 hx30 ⟨as11, ns11, cs11, as12, ns12, cs12, rfl, rfl, hs11, hs12⟩
  refine a0e rfl rfl rfl (a0j rfl rfl rfl rfl (a0j rfl rfl rfl rfl (a0j rfl rfl rfl rfl ?_)))
  refine a0y ze24 rfl rfl rfl hx30 ?_
  intro b10 wx31 hx31
  refine a0y ze24 rfl rfl rfl hx31 ?_
  intro b11 wx32 hx32
  refine a0o sz24 rfl hx32 rfl rfl rfl rfl (i := 1) rfl rfl rfl rfl ?_
  intro wx33 hx33
  refine a0o sz24 rfl hx33 rfl rfl rfl rfl (i := 0) rfl rfl rfl rfl ?_
  intro wx34 hx34
  refine a0b rfl rfl rfl (a0c (a0d (a0f (a0a ?_))))
  refine a0k ag24 sz24 rfl rfl hx34 rfl (i := 4) rfl rfl ?_
  refine a0k ag24 sz24 rfl rfl hx34 rfl (i := 2) rfl rfl ?_
  have hG1 := ((hF1.trans hF2).trans hF8).trans hF9
  obtain ⟨v10, hv9, hm⟩ := bind_some hm
  refine a0g ent62 rfl rfl rfl rfl hx34 (a7a _ _ _ _ hv9 hx34.sat (hs2.mono hG1) (hs10.mono hF9)) ?_
  rintro _ Fx10 _ wx35 hF10 hx35 ⟨as13, ns13, cs13, as14, ns14, cs14, rfl, rfl, hs13, hs14⟩
  refine a0e rfl rfl rfl (a0j rfl rfl rfl rfl (a0j rfl rfl rfl rfl (a0j rfl rfl rfl rfl ?_)))
  refine a0y ze24 rfl rfl rfl hx35 ?_
  intro b12 wx36 hx36
  refine a0y ze24 rfl rfl rfl hx36 ?_
  intro b13 wx37 hx37
  refine a0o sz24 rfl hx37 rfl rfl rfl rfl (i := 1) rfl rfl rfl rfl ?_
  intro wx38 hx38
  refine a0o sz24 rfl hx38 rfl rfl rfl rfl (i := 0) rfl rfl rfl rfl ?_
  intro wx39 hx39
  refine a0b rfl rfl rfl (a0c (a0d (a0f (a0a ?_))))
  refine a0k ag24 sz24 rfl rfl hx39 rfl (i := 3) rfl rfl ?_
  refine a0k ag24 sz24 rfl rfl hx39 rfl (i := 1) rfl rfl ?_
  refine a1r (v := .agg #[.int .i64 v9.1.Sign, .slice as11 ns11 cs11, .int .i64 v10.1.Sign, .slice as13 ns13 cs13]) rfl rfl rfl (fun _ => by kernel_rfl) ?_
  refine a0o sz26 rfl hx39 rfl rfl rfl rfl (i := 5) rfl rfl rfl rfl ?_
  intro wx40 hx40
  refine a0b rfl rfl rfl (a0c (a0d (a1d ?_)))
  refine a1k (vl := [.agg #[.int .i64 v9.1.Sign, .slice as11 ns11 cs11, .int .i64 v10.1.Sign, .slice as13 ns13 cs13], .int .i64 0]) rfl ⟨a1q ag26 sz26 rfl hx40 rfl (i := 5) rfl, a1w rfl, trivial⟩ (by simp) ?_
  obtain rfl := Option.some.inj hm
  exact ⟨_, _, _, rfl, hx40.pick [] (by decide) rfl, as11, ns11, cs11, as13, ns13, cs13, rfl, rfl, (hs11.mono hF10), hs13⟩
 clear hm
 rcases a0i hb1 with ⟨hb5, hb1⟩ | ⟨hb5, hb1⟩
 ·refine a1e 18 rfl hb5 ?_
  refine a0r rfl (by decide) rfl (a0r rfl (by decide) rfl (a0r rfl (by decide) rfl (a0m rfl rfl rfl rfl (a0c ?_))))
  refine a0p (fun a ha => ?_)
  cases hb1
  exact ⟨_, Frz.refl _, hx4.pick [0, 1, 2] (by decide) rfl, ha.cut (l := [2, 3, 4, 22]) rfl⟩
 refine a1e 18 rfl hb5 ?_
 refine a0k ag24 sz24 rfl rfl hx4 rfl (i := 1) rfl rfl ?_
 obtain ⟨v11, hv10, hb1⟩ := bind_some hb1
 refine a0g ent60 rfl rfl rfl rfl hx4 (a2s _ _ _ hv10 hx4.sat (hs2.mono hF1)) ?_
 rintro _ Fx11 _ wx41 hF11 hx41 ⟨rfl, rfl⟩
 refine a2x rfl rfl rfl (a0l rfl rfl rfl rfl (a0c ?_))
 refine a0p (fun a ha => ?_)
 cases hb1
 exact ⟨_, hF11, hx41.pick [0, 1, 2] (by decide) rfl, ha.cut (l := [2, 3, 4, 22]) rfl⟩
theorem ent48 : Ent Tryz.prog 48 := fun _ _ => by kernel_rfl
theorem ent23 : Ent Tryz.prog 23 := fun _ _ => by kernel_rfl
def b1c (n : Nat) (p1 : Int) (q1 : Int) : Option (Frac × Int) :=
 (b0y n p1).bind fun v1 =>
 (b0y n q1).bind fun v2 =>
 (a7b n v1 v2).bind fun v3 =>
 some (v3.1, v3.2)
set_option maxHeartbeats 1000000 in
set_option maxRecDepth 1000000 in
theorem b5j (n : Nat) (p1 : Int) (q1 : Int) (r : (Frac × Int)) (hm : b1c n p1 q1 = some r) {w : World} {F : Frz} (hs : Sat F w)  :
  Calls Tryz.prog 19 #[.int .i64 p1, .int .i64 q1] w fun e w' => ∃ v F' O', e = .returned v ∧ HS F w [] F' O' w' ∧ (∃ (a0_1 : Option Addr) (n0_1 : Nat) (c0_1 : Nat) (a0_3 : Option Addr) (n0_3 : Nat) (c0_3 : Nat), v = .tuple #[.agg #[.int .i64 r.1.P.Sign, .slice a0_1 n0_1 c0_1, .int .i64 r.1.Q.Sign, .slice a0_3 n0_3 c0_3], .int .i64 r.2] ∧ O' = [] ∧ SlR (Rp.int .i64) F' a0_1 n0_1 c0_1 r.1.P.Digits ∧ SlR (Rp.int .i64) F' a0_3 n0_3 c0_3 r.1.Q.Digits) := by
 unfold b1c at hm
 have h := HS.init hs
 refine a0x 13 Tryz.func19 rfl rfl rfl ?_
 refine a0f (a0a ?_)
 refine a0y ze26 rfl rfl rfl h ?_
 intro b1 wx1 hx1
 refine a0b rfl rfl rfl (a0c (a0d (a0f (a0a (a0e rfl rfl rfl ?_)))))
 obtain ⟨v1, hv1, hm⟩ := bind_some hm
 refine a0g ent48 rfl rfl rfl rfl hx1 (b2r _ _ _ hv1 hx1.sat) ?_
 rintro _ Fx1 _ wx2 hF1 hx2 ⟨as1, ns1, cs1, rfl, rfl, hs1⟩
 refine a0e rfl rfl rfl ?_
 obtain ⟨v2, hv2, hm⟩ := bind_some hm
 refine a0g ent48 rfl rfl rfl rfl hx2 (b2r _ _ _ hv2 hx2.sat) ?_
 rintro _ Fx2 _ wx3 hF2 hx3 ⟨as2, ns2, cs2, rfl, rfl, hs2⟩
 obtain ⟨v3, hv3, hm⟩ := bind_some hm
 refine a0g ent23 rfl rfl rfl rfl hx3 (b0c _ _ _ _ hv3 hx3.sat (hs1.mono hF2) hs2) ?_
 rintro _ Fx3 _ wx4 hF3 hx4 ⟨as3, ns3, cs3, as4, ns4, cs4, rfl, rfl, hs3, hs4⟩
 refine a0j rfl rfl rfl rfl (a0j rfl rfl rfl rfl ?_)
 refine a0o sz26 rfl hx4 rfl rfl rfl rfl (i := 0) rfl rfl rfl rfl ?_
 intro wx5 hx5
 refine a0b rfl rfl rfl (a0c (a0d (a1d ?_)))
 refine a1k (vl := [.agg #[.int .i64 v3.1.P.Sign, .slice as3 ns3 cs3, .int .i64 v3.1.Q.Sign, .slice as4 ns4 cs4], .int .i64 v3.2]) rfl ⟨a1q ag26 sz26 rfl hx5 rfl (i := 0) rfl, a1w rfl, trivial⟩ (by simp) ?_
 obtain rfl := Option.some.inj hm
 exact ⟨_, _, _, rfl, hx5.pick [] (by decide) rfl, as3, ns3, cs3, as4, ns4, cs4, rfl, rfl, hs3, hs4⟩
def b3j (n : Nat) (nx1 : Int) : Option Frac :=
 (b0y n nx1).bind fun v1 =>
 (b0y n 1).bind fun v2 =>
 some (⟨v1, v2⟩ : Frac)
set_option maxHeartbeats 1000000 in
set_option maxRecDepth 1000000 in
theorem b7e (n : Nat) (nx1 : Int) (r : Frac) (hm : b3j n nx1 = some r) {w : World} {F : Frz} (hs : Sat F w)  :
  Calls Tryz.prog 38 #[.int .i64 nx1] w fun e w' => ∃ v F' O', e = .returned v ∧ HS F w [] F' O' w' ∧ (∃ (a0_1 : Option Addr) (n0_1 : Nat) (c0_1 : Nat) (a0_3 : Option Addr) (n0_3 : Nat) (c0_3 : Nat), v = .agg #[.int .i64 r.P.Sign, .slice a0_1 n0_1 c0_1, .int .i64 r.Q.Sign, .slice a0_3 n0_3 c0_3] ∧ O' = [] ∧ SlR (Rp.int .i64) F' a0_1 n0_1 c0_1 r.P.Digits ∧ SlR (Rp.int .i64) F' a0_3 n0_3 c0_3 r.Q.Digits) := by
 unfold b3j at hm
 have h := HS.init hs
 refine a0x 7 Tryz.func38 rfl rfl rfl ?_
 refine a0f (a0a ?_)
 refine a0y ze26 rfl rfl rfl h ?_
 intro b1 wx1 hx1
 refine a0c (a0d (a0f (a0a (a0e rfl rfl rfl ?_))))
 obtain ⟨v1, hv1, hm⟩ := bind_some hm
 refine a0g ent48 rfl rfl rfl rfl hx1 (b2r _ _ _ hv1 hx1.sat) ?_
 rintro _ Fx1 _ wx2 hF1 hx2 ⟨as1, ns1, cs1, rfl, rfl, hs1⟩
 obtain ⟨v2, hv2, hm⟩ := bind_some hm
 refine a0g ent48 rfl rfl rfl rfl hx2 (b2r _ _ _ hv2 hx2.sat) ?_
 rintro _ Fx2 _ wx3 hF2 hx3 ⟨as2, ns2, cs2, rfl, rfl, hs2⟩
 refine a1r (v := .agg #[.int .i64 v1.Sign, .slice as1 ns1 cs1, .int .i64 v2.Sign, .slice as2 ns2 cs2]) rfl rfl rfl (fun _ => by kernel_rfl) ?_
 refine a0o sz26 rfl hx3 rfl rfl rfl rfl (i := 0) rfl rfl rfl rfl ?_
 intro wx4 hx4
 refine a0c (a0d (a1d ?_))
 refine a6l rfl ag26 sz26 rfl hx4 rfl (i := 0) rfl ?_
 obtain rfl := Option.some.inj hm
 exact ⟨_, _, _, rfl, hx4.pick [] (by decide) rfl, as1, ns1, cs1, as2, ns2, cs2, rfl, rfl, (hs1.mono hF2), hs2⟩
theorem ent47 : Ent Tryz.prog 47 := fun _ _ => by kernel_rfl
def a3q (n : Nat) (ax1 : Big) (b1 : Big) : Option Big :=
 (b8m n ax1 b1).bind fun v1 =>
 some v1.1
set_option maxHeartbeats 1000000 in
set_option maxRecDepth 1000000 in
theorem a3o (n : Nat) (ax1 : Big) (b1 : Big) (r : Big) (hm : a3q n ax1 b1 = some r) {w : World} {F : Frz} (hs : Sat F w) {as1 : Option Addr} {ns1 : Nat} {cs1 : Nat} {as2 : Option Addr} {ns2 : Nat} {cs2 : Nat} (hs1 : SlR (Rp.int .i64) F as1 ns1 cs1 ax1.Digits) (hs2 : SlR (Rp.int .i64) F as2 ns2 cs2 b1.Digits) :
  Calls Tryz.prog 52 #[.agg #[.int .i64 ax1.Sign, .slice as1 ns1 cs1], .agg #[.int .i64 b1.Sign, .slice as2 ns2 cs2]] w fun e w' => ∃ v F' O', e = .returned v ∧ HS F w [] F' O' w' ∧ (∃ (a0_1 : Option Addr) (n0_1 : Nat) (c0_1 : Nat), v = .agg #[.int .i64 r.Sign, .slice a0_1 n0_1 c0_1] ∧ O' = [] ∧ SlR (Rp.int .i64) F' a0_1 n0_1 c0_1 r.Digits) := by
 unfold a3q at hm
 have h := HS.init hs
 refine a0x 14 Tryz.func52 rfl rfl rfl ?_
 refine a0f (a0a ?_)
 refine a2o rfl rfl rfl rfl h ?_
 intro b2 wx1 hx1
 refine a2o rfl rfl rfl rfl hx1 ?_
 intro b3 wx2 hx2
 refine a0y ze24 rfl rfl rfl hx2 ?_
 intro b4 wx3 hx3
 refine a0c (a0d (a0f (a0a ?_)))
 refine a0k ag24 sz24 rfl rfl hx3 rfl (i := 2) rfl rfl ?_
 refine a0k ag24 sz24 rfl rfl hx3 rfl (i := 1) rfl rfl ?_
 obtain ⟨v1, hv1, hm⟩ := bind_some hm
 refine a0g ent47 rfl rfl rfl rfl hx3 (c3v _ _ _ _ hv1 hx3.sat hs1 hs2) ?_
 rintro _ Fx1 _ wx4 hF1 hx4 ⟨as3, ns3, cs3, rfl, rfl, hs3⟩
 refine a0e rfl rfl rfl (a0j rfl rfl rfl rfl (a0j rfl rfl rfl rfl ?_))
 refine a0y ze24 rfl rfl rfl hx4 ?_
 intro b5 wx5 hx5
 refine a0o sz24 rfl hx5 rfl rfl rfl rfl (i := 0) rfl rfl rfl rfl ?_
 intro wx6 hx6
 refine a0b rfl rfl rfl (a0c (a0d (a0f (a0a ?_))))
 refine a0k ag24 sz24 rfl rfl hx6 rfl (i := 0) rfl rfl ?_
 refine a0o sz24 rfl hx6 rfl rfl rfl rfl (i := 1) rfl rfl rfl rfl ?_
 intro wx7 hx7
 refine a0c (a0d (a1d ?_))
 refine a6l rfl ag24 sz24 rfl hx7 rfl (i := 1) rfl ?_
 obtain rfl := Option.some.inj hm
 exact ⟨_, _, _, rfl, hx7.pick [] (by decide) rfl, as3, ns3, cs3, rfl, rfl, hs3⟩
theorem ent25 : Ent Tryz.prog 25 := fun _ _ => by kernel_rfl
theorem ent52 : Ent Tryz.prog 52 := fun _ _ => by kernel_rfl
theorem ent49 : Ent Tryz.prog 49 := fun _ _ => by kernel_rfl
def a9i (n : Nat) (ax1 : Frac) (b1 : Frac) : Option (Frac × Int) :=
 (a2n n ax1).bind fun v1 =>
 (bif !v1 then
  some true
 else
  (a2n n b1).bind fun v8 =>
  some (!v8)).bind fun v2 =>
 bif v2 then
  some ((⟨(⟨0, []⟩ : Big), (⟨0, []⟩ : Big)⟩ : Frac), 1)
 else
  ((a3q n ax1.P b1.Q).bind fun v5 =>
  (a3q n b1.P ax1.Q).bind fun v6 =>
  (b6y n v5 v6).bind fun v7 =>
  some (v7.1.Sign, v7.1.Digits)).bind fun (f1, f2) =>
  (a3q n ax1.Q b1.Q).bind fun v3 =>
  (a7b n (⟨f1, f2⟩ : Big) v3).bind fun v4 =>
  some (v4.1, v4.2)
set_option maxHeartbeats 1000000 in
set_option maxRecDepth 1000000 in
theorem b4m (n : Nat) (ax1 : Frac) (b1 : Frac) (r : (Frac × Int)) (hm : a9i n ax1 b1 = some r) {w : World} {F : Frz} (hs : Sat F w) {as1 : Option Addr} {ns1 : Nat} {cs1 : Nat} {as2 : Option Addr} {ns2 : Nat} {cs2 : Nat} {as3 : Option Addr} {ns3 : Nat} {cs3 : Nat} {as4 : Option Addr} {ns4 : Nat} {cs4 : Nat} (hs1 : SlR (Rp.int .i64) F as1 ns1 cs1 ax1.P.Digits) (hs2 : SlR (Rp.int .i64) F as2 ns2 cs2 ax1.Q.Digits) (hs3 : SlR (Rp.int .i64) F as3 ns3 cs3 b1.P.Digits) (hs4 : SlR (Rp.int .i64) F as4 ns4 cs4 b1.Q.Digits) :
  Calls Tryz.prog 10 #[.agg #[.int .i64 ax1.P.Sign, .slice as1 ns1 cs1, .int .i64 ax1.Q.Sign, .slice as2 ns2 cs2], .agg #[.int .i64 b1.P.Sign, .slice as3 ns3 cs3, .int .i64 b1.Q.Sign, .slice as4 ns4 cs4]] w fun e w' => ∃ v F' O', e = .returned v ∧ HS F w [] F' O' w' ∧ (∃ (a0_1 : Option Addr) (n0_1 : Nat) (c0_1 : Nat) (a0_3 : Option Addr) (n0_3 : Nat) (c0_3 : Nat), v = .tuple #[.agg #[.int .i64 r.1.P.Sign, .slice a0_1 n0_1 c0_1, .int .i64 r.1.Q.Sign, .slice a0_3 n0_3 c0_3], .int .i64 r.2] ∧ O' = [] ∧ SlR (Rp.int .i64) F' a0_1 n0_1 c0_1 r.1.P.Digits ∧ SlR (Rp.int .i64) F' a0_3 n0_3 c0_3 r.1.Q.Digits) := by
 unfold a9i at hm
 have h := HS.init hs
 refine a0x 40 Tryz.func10 rfl rfl rfl ?_
 refine a0f (a0a ?_)
 refine a2o rfl rfl rfl rfl h ?_
 intro b2 wx1 hx1
 refine a2o rfl rfl rfl rfl hx1 ?_
 intro b3 wx2 hx2
 refine a0y ze26 rfl rfl rfl hx2 ?_
 intro b4 wx3 hx3
 refine a0b rfl rfl rfl (a0c (a0d (a0f (a0f (a0a ?_)))))
 refine a0k ag26 sz26 rfl rfl hx3 rfl (i := 2) rfl rfl ?_
 obtain ⟨v1, hv1, hm⟩ := bind_some hm
 refine a0g ent25 rfl rfl rfl rfl hx3 (a2e _ _ _ hv1 hx3.sat hs1 hs2) ?_
 rintro _ Fx1 _ wx4 hF1 hx4 ⟨rfl, rfl⟩
 refine a2x rfl rfl rfl (a0e rfl rfl rfl ?_)
 obtain ⟨v2, hb1, hm⟩ := bind_some hm
 refine a2k 4 (fun a w' => ∃ (Fx2 : Frz), Frz.le Fx1 Fx2 ∧ HS F w [] Fx2 [.box b4 26 [.int .i64 0, .slice none 0 0, .int .i64 0, .slice none 0 0], .box b3 26 [.int .i64 b1.P.Sign, .slice as3 ns3 cs3, .int .i64 b1.Q.Sign, .slice as4 ns4 cs4], .box b2 26 [.int .i64 ax1.P.Sign, .slice as1 ns1 cs1, .int .i64 ax1.Q.Sign, .slice as2 ns2 cs2]] w' ∧ Has 40 a [(2, .pointer (some ⟨b2, 0, none⟩)), (3, .pointer (some ⟨b3, 0, none⟩)), (4, .pointer (some ⟨b4, 0, none⟩)), (15, .bool v2)]) ?_ ?_
 ·rintro a wx5 ⟨Fx2, hF2, hx5, hax1⟩
  refine a1a hax1 ?_
  refine a0c (a0d ?_)
  rcases a0i hm with ⟨hb2, hm⟩ | ⟨hb2, hm⟩
  ·refine a0u 15 rfl hb2 ?_
   refine a0z rfl (a0f (a0a ?_))
   refine a1r (v := .agg #[.int .i64 0, .slice none 0 0, .int .i64 0, .slice none 0 0]) rfl rfl rfl (fun _ => by kernel_rfl) ?_
   refine a0o sz26 rfl hx5 rfl rfl rfl rfl (i := 0) rfl rfl rfl rfl ?_
   intro wx6 hx6
   refine a0b rfl rfl rfl (a0c (a0d (a1d (a0n ?_))))
   refine a1k (vl := [.agg #[.int .i64 0, .slice none 0 0, .int .i64 0, .slice none 0 0], .int .i64 1]) rfl ⟨a1q ag26 sz26 rfl hx6 rfl (i := 0) rfl, a1w rfl, trivial⟩ (by simp) ?_
   obtain rfl := Option.some.inj hm
   exact ⟨_, _, _, rfl, hx6.pick [] (by decide) rfl, none, 0, 0, none, 0, 0, rfl, rfl, SlR.nil _ _, SlR.nil _ _⟩
  refine a0u 15 rfl hb2 ?_
  refine a0s rfl (a1b (a0d ?_))
  obtain ⟨⟨f1, f2⟩, hb3, hm⟩ := bind_some hm
  refine d0h (fun a w' => ∃ (Fx3 : Frz) (b5 : Nat) (as5 : Option Addr) (ns5 : Nat) (cs5 : Nat), Frz.le Fx2 Fx3 ∧ HS F w [] Fx3 [.box b5 24 [.int .i64 f1, .slice as5 ns5 cs5], .box b4 26 [.int .i64 0, .slice none 0 0, .int .i64 0, .slice none 0 0], .box b3 26 [.int .i64 b1.P.Sign, .slice as3 ns3 cs3, .int .i64 b1.Q.Sign, .slice as4 ns4 cs4], .box b2 26 [.int .i64 ax1.P.Sign, .slice as1 ns1 cs1, .int .i64 ax1.Q.Sign, .slice as2 ns2 cs2]] w' ∧ (SlR (Rp.int .i64) Fx3 as5 ns5 cs5 f2) ∧ Has 40 a [(2, .pointer (some ⟨b2, 0, none⟩)), (3, .pointer (some ⟨b3, 0, none⟩)), (4, .pointer (some ⟨b4, 0, none⟩)), (6, .pointer (some ⟨b5, 0, none⟩))]) ?_ ?_
  ·rintro a wx7 ⟨Fx3, b5, as5, ns5, cs5, hF3, hx7, hs5, hax2⟩
   refine a1l hax2 ?_
   refine a0f ?_
   refine a2m (SH Fx3 [.box b5 24 [.int .i64 f1, .slice as5 ns5 cs5], .box b3 26 [.int .i64 b1.P.Sign, .slice as3 ns3 cs3, .int .i64 b1.Q.Sign, .slice as4 ns4 cs4], .box b2 26 [.int .i64 ax1.P.Sign, .slice as1 ns1 cs1, .int .i64 ax1.Q.Sign, .slice as2 ns2 cs2]]) 11 rfl (by kernel_rfl) hx7 ?_
   intro wx8 hx8
   refine d_tk 0 rfl (by kernel_rfl) rfl rfl rfl rfl (hx8.sh (Frz.refl _) [0, 2, 3] (by decide) rfl) (fun _ _ _ _ hq => a0k ag24 sz24 rfl rfl hq rfl (i := 0) rfl rfl (a0c (qq rfl))) ?_
   refine d_tk 1 rfl (by kernel_rfl) rfl rfl rfl rfl (hx8.sh (Frz.refl _) [0, 2, 3] (by decide) rfl) (fun _ _ _ _ _ => a0h fa26_1 rfl rfl rfl (a0c (qq rfl))) ?_
   refine d_tk 2 rfl (by kernel_rfl) rfl rfl rfl rfl (hx8.sh (Frz.refl _) [0, 2, 3] (by decide) rfl) (fun _ _ _ _ hq => a1f (cs' := [.int .i64 ax1.Q.Sign, .slice as2 ns2 cs2]) ag24 sz24 rfl rfl hq rfl (i := 2) rfl rfl rfl (a0c (qq rfl))) ?_
   refine d_tk 3 rfl (by kernel_rfl) rfl rfl rfl rfl (hx8.sh (Frz.refl _) [0, 2, 3] (by decide) rfl) (fun _ _ _ _ _ => a0h fa26_1 rfl rfl rfl (a0c (qq rfl))) ?_
   refine d_tk 4 rfl (by kernel_rfl) rfl rfl rfl rfl (hx8.sh (Frz.refl _) [0, 2, 3] (by decide) rfl) (fun _ _ _ _ hq => a1f (cs' := [.int .i64 b1.Q.Sign, .slice as4 ns4 cs4]) ag24 sz24 rfl rfl hq rfl (i := 1) rfl rfl rfl (a0c (qq rfl))) ?_
   refine a1c 5 rfl (by kernel_rfl) ?_
   obtain ⟨v3, hv2, hm⟩ := bind_some hm
   refine a0g ent52 rfl rfl rfl rfl hx8 (a3o _ _ _ _ hv2 hx8.sat (((hs2.mono hF1).mono hF2).mono hF3) (((hs4.mono hF1).mono hF2).mono hF3)) ?_
   rintro _ Fx4 _ wx9 hF4 hx9 ⟨as6, ns6, cs6, rfl, rfl, hs6⟩
   refine a0w (hx9.sh hF4 [0, 2, 3] (by decide) rfl) ?_
   refine a1c 6 rfl (by kernel_rfl) ?_
   obtain ⟨v4, hv3, hm⟩ := bind_some hm
   refine a0g ent23 rfl rfl rfl rfl hx9 (b0c _ _ _ _ hv3 hx9.sat (hs5.mono hF4) hs6) ?_
   rintro _ Fx5 _ wx10 hF5 hx10 ⟨as7, ns7, cs7, as8, ns8, cs8, rfl, rfl, hs7, hs8⟩
   refine a0w (hx10.sh (hF4.trans hF5) [0, 2, 3] (by decide) rfl) ?_
   refine d_tk 7 rfl (by kernel_rfl) rfl rfl rfl rfl (hx10.sh (hF4.trans hF5) [0, 2, 3] (by decide) rfl) (fun _ _ _ _ _ => a0j rfl rfl rfl rfl (a0c (qq rfl))) ?_
   refine d_tk 8 rfl (by kernel_rfl) rfl rfl rfl rfl (hx10.sh (hF4.trans hF5) [0, 2, 3] (by decide) rfl) (fun _ _ _ _ _ => a0j rfl rfl rfl rfl (a0c (qq rfl))) ?_
   refine a1c 9 rfl (by kernel_rfl) ?_
   refine a0o sz26 rfl hx10 rfl rfl rfl rfl (i := 1) rfl rfl rfl rfl ?_
   intro wx11 hx11
   refine a0w (hx11.sh (hF4.trans hF5) [0, 2, 3] (by decide) rfl) ?_
   refine d_tk 10 rfl (by kernel_rfl) rfl rfl rfl rfl (hx11.sh (hF4.trans hF5) [0, 2, 3] (by decide) rfl) (fun _ _ _ _ _ => a0b rfl rfl rfl (a0c (qq rfl))) ?_
   refine a3v (by kernel_rfl) ?_
   refine a0d (a1d ?_)
   refine a1k (vl := [.agg #[.int .i64 v4.1.P.Sign, .slice as7 ns7 cs7, .int .i64 v4.1.Q.Sign, .slice as8 ns8 cs8], .int .i64 v4.2]) rfl ⟨a1q ag26 sz26 rfl hx11 rfl (i := 1) rfl, a1w rfl, trivial⟩ (by simp) ?_
   obtain rfl := Option.some.inj hm
   exact ⟨_, _, _, rfl, hx11.pick [] (by decide) rfl, as7, ns7, cs7, as8, ns8, cs8, rfl, rfl, hs7, hs8⟩
  clear hm
  refine a2m (SH Fx2 [.box b4 26 [.int .i64 0, .slice none 0 0, .int .i64 0, .slice none 0 0], .box b3 26 [.int .i64 b1.P.Sign, .slice as3 ns3 cs3, .int .i64 b1.Q.Sign, .slice as4 ns4 cs4], .box b2 26 [.int .i64 ax1.P.Sign, .slice as1 ns1 cs1, .int .i64 ax1.Q.Sign, .slice as2 ns2 cs2]]) 17 rfl (by kernel_rfl) hx5 ?_
  intro wx12 hx12
  refine d_tk 0 rfl (by kernel_rfl) rfl rfl rfl rfl (hx12.sh (Frz.refl _) [0, 1, 2] (by decide) rfl) (fun _ _ _ _ _ => a0h fa26_0 rfl rfl rfl (a0c (qq rfl))) ?_
  refine d_tk 1 rfl (by kernel_rfl) rfl rfl rfl rfl (hx12.sh (Frz.refl _) [0, 1, 2] (by decide) rfl) (fun _ _ _ _ hq => a1f (cs' := [.int .i64 ax1.P.Sign, .slice as1 ns1 cs1]) ag24 sz24 rfl rfl hq rfl (i := 2) rfl rfl rfl (a0c (qq rfl))) ?_
  refine d_tk 2 rfl (by kernel_rfl) rfl rfl rfl rfl (hx12.sh (Frz.refl _) [0, 1, 2] (by decide) rfl) (fun _ _ _ _ _ => a0h fa26_1 rfl rfl rfl (a0c (qq rfl))) ?_
  refine d_tk 3 rfl (by kernel_rfl) rfl rfl rfl rfl (hx12.sh (Frz.refl _) [0, 1, 2] (by decide) rfl) (fun _ _ _ _ hq => a1f (cs' := [.int .i64 b1.Q.Sign, .slice as4 ns4 cs4]) ag24 sz24 rfl rfl hq rfl (i := 1) rfl rfl rfl (a0c (qq rfl))) ?_
  refine d_tk 5 rfl (by kernel_rfl) rfl rfl rfl rfl (hx12.sh (Frz.refl _) [0, 1, 2] (by decide) rfl) (fun _ _ _ _ _ => a0h fa26_0 rfl rfl rfl (a0c (qq rfl))) ?_
  refine d_tk 6 rfl (by kernel_rfl) rfl rfl rfl rfl (hx12.sh (Frz.refl _) [0, 1, 2] (by decide) rfl) (fun _ _ _ _ hq => a1f (cs' := [.int .i64 b1.P.Sign, .slice as3 ns3 cs3]) ag24 sz24 rfl rfl hq rfl (i := 1) rfl rfl rfl (a0c (qq rfl))) ?_
  refine d_tk 7 rfl (by kernel_rfl) rfl rfl rfl rfl (hx12.sh (Frz.refl _) [0, 1, 2] (by decide) rfl) (fun _ _ _ _ _ => a0h fa26_1 rfl rfl rfl (a0c (qq rfl))) ?_
  refine d_tk 8 rfl (by kernel_rfl) rfl rfl rfl rfl (hx12.sh (Frz.refl _) [0, 1, 2] (by decide) rfl) (fun _ _ _ _ hq => a1f (cs' := [.int .i64 ax1.Q.Sign, .slice as2 ns2 cs2]) ag24 sz24 rfl rfl hq rfl (i := 2) rfl rfl rfl (a0c (qq rfl))) ?_
  refine b8r 4 14 rfl rfl (by kernel_rfl) ?_ ?_
  ·obtain ⟨v5, hv4, hb3⟩ := bind_some hb3
   refine a0g ent52 rfl rfl rfl rfl hx12 (a3o _ _ _ _ hv4 hx12.sat ((hs1.mono hF1).mono hF2) ((hs4.mono hF1).mono hF2)) ?_
   rintro _ Fx6 _ wx13 hF6 hx13 ⟨as9, ns9, cs9, rfl, rfl, hs9⟩
   refine a0w (hx13.sh hF6 [0, 1, 2] (by decide) rfl) ?_
   refine b8r 9 14 rfl rfl (by kernel_rfl) ?_ ?_
   ·obtain ⟨v6, hv5, hb3⟩ := bind_some hb3
    refine a0g ent52 rfl rfl rfl rfl hx13 (a3o _ _ _ _ hv5 hx13.sat (((hs3.mono hF1).mono hF2).mono hF6) (((hs2.mono hF1).mono hF2).mono hF6)) ?_
    rintro _ Fx7 _ wx14 hF7 hx14 ⟨as10, ns10, cs10, rfl, rfl, hs10⟩
    refine a0w (hx14.sh (hF6.trans hF7) [0, 1, 2] (by decide) rfl) ?_
    refine b8r 10 14 rfl rfl (by kernel_rfl) ?_ ?_
    ·obtain ⟨v7, hv6, hb3⟩ := bind_some hb3
     refine a0g ent49 rfl rfl rfl rfl hx14 (b3p _ _ _ _ hv6 hx14.sat (hs9.mono hF7) hs10) ?_
     rintro _ Fx8 _ wx15 hF8 hx15 ⟨as11, ns11, cs11, rfl, rfl, hs11⟩
     refine a0w (hx15.sh ((hF6.trans hF7).trans hF8) [0, 1, 2] (by decide) rfl) ?_
     refine d_tk 11 rfl (by kernel_rfl) rfl rfl rfl rfl (hx15.sh ((hF6.trans hF7).trans hF8) [0, 1, 2] (by decide) rfl) (fun _ _ _ _ _ => a0e rfl rfl rfl (a0c (qq rfl))) ?_
     refine d_tk 12 rfl (by kernel_rfl) rfl rfl rfl rfl (hx15.sh ((hF6.trans hF7).trans hF8) [0, 1, 2] (by decide) rfl) (fun _ _ _ _ _ => a0j rfl rfl rfl rfl (a0c (qq rfl))) ?_
     refine d_tk 13 rfl (by kernel_rfl) rfl rfl rfl rfl (hx15.sh ((hF6.trans hF7).trans hF8) [0, 1, 2] (by decide) rfl) (fun _ _ _ _ _ => a0j rfl rfl rfl rfl (a0c (qq rfl))) ?_
     refine a1c 14 rfl (by kernel_rfl) ?_
     refine a0y ze24 rfl rfl rfl hx15 ?_
     intro b6 wx16 hx16
     refine a0w (hx16.sh ((hF6.trans hF7).trans hF8) [1, 2, 3] (by decide) rfl) ?_
     refine a1c 15 rfl (by kernel_rfl) ?_
     refine a0o sz24 rfl hx16 rfl rfl rfl rfl (i := 0) rfl rfl rfl rfl ?_
     intro wx17 hx17
     refine a0w (hx17.sh ((hF6.trans hF7).trans hF8) [1, 2, 3] (by decide) rfl) ?_
     refine d_tk 16 rfl (by kernel_rfl) rfl rfl rfl rfl (hx17.sh ((hF6.trans hF7).trans hF8) [1, 2, 3] (by decide) rfl) (fun _ _ _ _ _ => a0b rfl rfl rfl (a0c (qq rfl))) ?_
     refine a3v (by kernel_rfl) ?_
     refine a0p (fun a ha => ?_)
     cases hb3
     exact ⟨_, b6, as11, ns11, cs11, ((hF6.trans hF7).trans hF8), hx17.pick [0, 1, 2, 3] (by decide) rfl, hs11, ha.cut (l := [2, 3, 4, 6]) rfl⟩
    refine a0y ze24 rfl rfl rfl hx14 ?_
    intro b6 wx15 hx15
    refine a0w (hx15.sh (hF6.trans hF7) [1, 2, 3] (by decide) rfl) ?_
    refine a1c 10 rfl (by kernel_rfl) ?_
    obtain ⟨v7, hv6, hb3⟩ := bind_some hb3
    refine a0g ent49 rfl rfl rfl rfl hx15 (b3p _ _ _ _ hv6 hx15.sat (hs9.mono hF7) hs10) ?_
    rintro _ Fx8 _ wx16 hF8 hx16 ⟨as11, ns11, cs11, rfl, rfl, hs11⟩
    refine a0w (hx16.sh ((hF6.trans hF7).trans hF8) [1, 2, 3] (by decide) rfl) ?_
    refine d_tk 11 rfl (by kernel_rfl) rfl rfl rfl rfl (hx16.sh ((hF6.trans hF7).trans hF8) [1, 2, 3] (by decide) rfl) (fun _ _ _ _ _ => a0e rfl rfl rfl (a0c (qq rfl))) ?_
    refine d_tk 12 rfl (by kernel_rfl) rfl rfl rfl rfl (hx16.sh ((hF6.trans hF7).trans hF8) [1, 2, 3] (by decide) rfl) (fun _ _ _ _ _ => a0j rfl rfl rfl rfl (a0c (qq rfl))) ?_
    refine d_tk 13 rfl (by kernel_rfl) rfl rfl rfl rfl (hx16.sh ((hF6.trans hF7).trans hF8) [1, 2, 3] (by decide) rfl) (fun _ _ _ _ _ => a0j rfl rfl rfl rfl (a0c (qq rfl))) ?_
    refine a1c 15 rfl (by kernel_rfl) ?_
    refine a0o sz24 rfl hx16 rfl rfl rfl rfl (i := 0) rfl rfl rfl rfl ?_
    intro wx17 hx17
    refine a0w (hx17.sh ((hF6.trans hF7).trans hF8) [1, 2, 3] (by decide) rfl) ?_
    refine d_tk 16 rfl (by kernel_rfl) rfl rfl rfl rfl (hx17.sh ((hF6.trans hF7).trans hF8) [1, 2, 3] (by decide) rfl) (fun _ _ _ _ _ => a0b rfl rfl rfl (a0c (qq rfl))) ?_
    refine a3v (by kernel_rfl) ?_
    refine a0p (fun a ha => ?_)
    cases hb3
    exact ⟨_, b6, as11, ns11, cs11, ((hF6.trans hF7).trans hF8), hx17.pick [0, 1, 2, 3] (by decide) rfl, hs11, ha.cut (l := [2, 3, 4, 6]) rfl⟩
   refine a0y ze24 rfl rfl rfl hx13 ?_
   intro b6 wx14 hx14
   refine a0w (hx14.sh hF6 [1, 2, 3] (by decide) rfl) ?_
   refine a1c 9 rfl (by kernel_rfl) ?_
   obtain ⟨v6, hv5, hb3⟩ := bind_some hb3
   refine a0g ent52 rfl rfl rfl rfl hx14 (a3o _ _ _ _ hv5 hx14.sat (((hs3.mono hF1).mono hF2).mono hF6) (((hs2.mono hF1).mono hF2).mono hF6)) ?_
   rintro _ Fx7 _ wx15 hF7 hx15 ⟨as10, ns10, cs10, rfl, rfl, hs10⟩
   refine a0w (hx15.sh (hF6.trans hF7) [1, 2, 3] (by decide) rfl) ?_
   refine a1c 10 rfl (by kernel_rfl) ?_
   obtain ⟨v7, hv6, hb3⟩ := bind_some hb3
   refine a0g ent49 rfl rfl rfl rfl hx15 (b3p _ _ _ _ hv6 hx15.sat (hs9.mono hF7) hs10) ?_
   rintro _ Fx8 _ wx16 hF8 hx16 ⟨as11, ns11, cs11, rfl, rfl, hs11⟩
   refine a0w (hx16.sh ((hF6.trans hF7).trans hF8) [1, 2, 3] (by decide) rfl) ?_
   refine d_tk 11 rfl (by kernel_rfl) rfl rfl rfl rfl (hx16.sh ((hF6.trans hF7).trans hF8) [1, 2, 3] (by decide) rfl) (fun _ _ _ _ _ => a0e rfl rfl rfl (a0c (qq rfl))) ?_
   refine d_tk 12 rfl (by kernel_rfl) rfl rfl rfl rfl (hx16.sh ((hF6.trans hF7).trans hF8) [1, 2, 3] (by decide) rfl) (fun _ _ _ _ _ => a0j rfl rfl rfl rfl (a0c (qq rfl))) ?_
   refine d_tk 13 rfl (by kernel_rfl) rfl rfl rfl rfl (hx16.sh ((hF6.trans hF7).trans hF8) [1, 2, 3] (by decide) rfl) (fun _ _ _ _ _ => a0j rfl rfl rfl rfl (a0c (qq rfl))) ?_
   refine a1c 15 rfl (by kernel_rfl) ?_
   refine a0o sz24 rfl hx16 rfl rfl rfl rfl (i := 0) rfl rfl rfl rfl ?_
   intro wx17 hx17
   refine a0w (hx17.sh ((hF6.trans hF7).trans hF8) [1, 2, 3] (by decide) rfl) ?_
   refine d_tk 16 rfl (by kernel_rfl) rfl rfl rfl rfl (hx17.sh ((hF6.trans hF7).trans hF8) [1, 2, 3] (by decide) rfl) (fun _ _ _ _ _ => a0b rfl rfl rfl (a0c (qq rfl))) ?_
   refine a3v (by kernel_rfl) ?_
   refine a0p (fun a ha => ?_)
   cases hb3
   exact ⟨_, b6, as11, ns11, cs11, ((hF6.trans hF7).trans hF8), hx17.pick [0, 1, 2, 3] (by decide) rfl, hs11, ha.cut (l := [2, 3, 4, 6]) rfl⟩
  refine a0y ze24 rfl rfl rfl hx12 ?_
  intro b6 wx13 hx13
  refine a0w (hx13.sh (Frz.refl _) [1, 2, 3] (by decide) rfl) ?_
  refine a1c 4 rfl (by kernel_rfl) ?_
  obtain ⟨v5, hv4, hb3⟩ := bind_some hb3
  refine a0g ent52 rfl rfl rfl rfl hx13 (a3o _ _ _ _ hv4 hx13.sat ((hs1.mono hF1).mono hF2) ((hs4.mono hF1).mono hF2)) ?_
  rintro _ Fx6 _ wx14 hF6 hx14 ⟨as9, ns9, cs9, rfl, rfl, hs9⟩
  refine a0w (hx14.sh hF6 [1, 2, 3] (by decide) rfl) ?_
  refine a1c 9 rfl (by kernel_rfl) ?_
  obtain ⟨v6, hv5, hb3⟩ := bind_some hb3
  refine a0g ent52 rfl rfl rfl rfl hx14 (a3o _ _ _ _ hv5 hx14.sat (((hs3.mono hF1).mono hF2).mono hF6) (((hs2.mono hF1).mono hF2).mono hF6)) ?_
  rintro _ Fx7 _ wx15 hF7 hx15 ⟨as10, ns10, cs10, rfl, rfl, hs10⟩
  refine a0w (hx15.sh (hF6.trans hF7) [1, 2, 3] (by decide) rfl) ?_
  refine a1c 10 rfl (by kernel_rfl) ?_
  obtain ⟨v7, hv6, hb3⟩ := bind_some hb3
  refine a0g ent49 rfl rfl rfl rfl hx15 (b3p _ _ _ _ hv6 hx15.sat (hs9.mono hF7) hs10) ?_
  rintro _ Fx8 _ wx16 hF8 hx16 ⟨as11, ns11, cs11, rfl, rfl, hs11⟩
  refine a0w (hx16.sh ((hF6.trans hF7).trans hF8) [1, 2, 3] (by decide) rfl) ?_
  refine d_tk 11 rfl (by kernel_rfl) rfl rfl rfl rfl (hx16.sh ((hF6.trans hF7).trans hF8) [1, 2, 3] (by decide) rfl) (fun _ _ _ _ _ => a0e rfl rfl rfl (a0c (qq rfl))) ?_
  refine d_tk 12 rfl (by kernel_rfl) rfl rfl rfl rfl (hx16.sh ((hF6.trans hF7).trans hF8) [1, 2, 3] (by decide) rfl) (fun _ _ _ _ _ => a0j rfl rfl rfl rfl (a0c (qq rfl))) ?_
  refine d_tk 13 rfl (by kernel_rfl) rfl rfl rfl rfl (hx16.sh ((hF6.trans hF7).trans hF8) [1, 2, 3] (by decide) rfl) (fun _ _ _ _ _ => a0j rfl rfl rfl rfl (a0c (qq rfl))) ?_
  refine a1c 15 rfl (by kernel_rfl) ?_
  refine a0o sz24 rfl hx16 rfl rfl rfl rfl (i := 0) rfl rfl rfl rfl ?_
  intro wx17 hx17
  refine a0w (hx17.sh ((hF6.trans hF7).trans hF8) [1, 2, 3] (by decide) rfl) ?_
  refine d_tk 16 rfl (by kernel_rfl) rfl rfl rfl rfl (hx17.sh ((hF6.trans hF7).trans hF8) [1, 2, 3] (by decide) rfl) (fun _ _ _ _ _ => a0b rfl rfl rfl (a0c (qq rfl))) ?_
  refine a3v (by kernel_rfl) ?_
  refine a0p (fun a ha => ?_)
  cases hb3
  exact ⟨_, b6, as11, ns11, cs11, ((hF6.trans hF7).trans hF8), hx17.pick [0, 1, 2, 3] (by decide) rfl, hs11, ha.cut (l := [2, 3, 4, 6]) rfl⟩
 clear hm
 rcases a0i hb1 with ⟨hb4, hb1⟩ | ⟨hb4, hb1⟩
 ·refine a1e 11 rfl hb4 ?_
  refine a0r rfl (by decide) rfl (a0r rfl (by decide) rfl (a0r rfl (by decide) rfl (a0m rfl rfl rfl rfl (a0c ?_))))
  refine a0p (fun a ha => ?_)
  cases hb1
  exact ⟨_, Frz.refl _, hx4.pick [0, 1, 2] (by decide) rfl, ha.cut (l := [2, 3, 4, 15]) rfl⟩
 refine a1e 11 rfl hb4 ?_
 refine a0k ag26 sz26 rfl rfl hx4 rfl (i := 1) rfl rfl ?_
 obtain ⟨v8, hv7, hb1⟩ := bind_some hb1
 refine a0g ent25 rfl rfl rfl rfl hx4 (a2e _ _ _ hv7 hx4.sat (hs3.mono hF1) (hs4.mono hF1)) ?_
 rintro _ Fx9 _ wx18 hF9 hx18 ⟨rfl, rfl⟩
 refine a2x rfl rfl rfl (a0l rfl rfl rfl rfl (a0c ?_))
 refine a0p (fun a ha => ?_)
 cases hb1
 exact ⟨_, hF9, hx18.pick [0, 1, 2] (by decide) rfl, ha.cut (l := [2, 3, 4, 15]) rfl⟩
theorem ent10 : Ent Tryz.prog 10 := fun _ _ => by kernel_rfl
def b0u (n : Nat) (ax1 : Frac) (b1 : Frac) : Option (Frac × Int) :=
 (a2n n ax1).bind fun v1 =>
 (bif !v1 then
  some true
 else
  (a2n n b1).bind fun v5 =>
  some (!v5)).bind fun v2 =>
 bif v2 then
  some ((⟨(⟨0, []⟩ : Big), (⟨0, []⟩ : Big)⟩ : Frac), 1)
 else
  (b1f n b1.P).bind fun v3 =>
  (a9i n ax1 (⟨v3, b1.Q⟩ : Frac)).bind fun v4 =>
  some (v4.1, v4.2)
set_option maxHeartbeats 1000000 in
set_option maxRecDepth 1000000 in
theorem b7g (n : Nat) (ax1 : Frac) (b1 : Frac) (r : (Frac × Int)) (hm : b0u n ax1 b1 = some r) {w : World} {F : Frz} (hs : Sat F w) {as1 : Option Addr} {ns1 : Nat} {cs1 : Nat} {as2 : Option Addr} {ns2 : Nat} {cs2 : Nat} {as3 : Option Addr} {ns3 : Nat} {cs3 : Nat} {as4 : Option Addr} {ns4 : Nat} {cs4 : Nat} (hs1 : SlR (Rp.int .i64) F as1 ns1 cs1 ax1.P.Digits) (hs2 : SlR (Rp.int .i64) F as2 ns2 cs2 ax1.Q.Digits) (hs3 : SlR (Rp.int .i64) F as3 ns3 cs3 b1.P.Digits) (hs4 : SlR (Rp.int .i64) F as4 ns4 cs4 b1.Q.Digits) :
  Calls Tryz.prog 12 #[.agg #[.int .i64 ax1.P.Sign, .slice as1 ns1 cs1, .int .i64 ax1.Q.Sign, .slice as2 ns2 cs2], .agg #[.int .i64 b1.P.Sign, .slice as3 ns3 cs3, .int .i64 b1.Q.Sign, .slice as4 ns4 cs4]] w fun e w' => ∃ v F' O', e = .returned v ∧ HS F w [] F' O' w' ∧ (∃ (a0_1 : Option Addr) (n0_1 : Nat) (c0_1 : Nat) (a0_3 : Option Addr) (n0_3 : Nat) (c0_3 : Nat), v = .tuple #[.agg #[.int .i64 r.1.P.Sign, .slice a0_1 n0_1 c0_1, .int .i64 r.1.Q.Sign, .slice a0_3 n0_3 c0_3], .int .i64 r.2] ∧ O' = [] ∧ SlR (Rp.int .i64) F' a0_1 n0_1 c0_1 r.1.P.Digits ∧ SlR (Rp.int .i64) F' a0_3 n0_3 c0_3 r.1.Q.Digits) := by
 unfold b0u at hm
 have h := HS.init hs
 refine a0x 25 Tryz.func12 rfl rfl rfl ?_
 refine a0f (a0a ?_)
 refine a2o rfl rfl rfl rfl h ?_
 intro b2 wx1 hx1
 refine a2o rfl rfl rfl rfl hx1 ?_
 intro b3 wx2 hx2
 refine a0y ze26 rfl rfl rfl hx2 ?_
 intro b4 wx3 hx3
 refine a0b rfl rfl rfl (a0c (a0d (a0f (a0f (a0a ?_)))))
 refine a0k ag26 sz26 rfl rfl hx3 rfl (i := 2) rfl rfl ?_
 obtain ⟨v1, hv1, hm⟩ := bind_some hm
 refine a0g ent25 rfl rfl rfl rfl hx3 (a2e _ _ _ hv1 hx3.sat hs1 hs2) ?_
 rintro _ Fx1 _ wx4 hF1 hx4 ⟨rfl, rfl⟩
 refine a2x rfl rfl rfl (a0e rfl rfl rfl ?_)
 obtain ⟨v2, hb1, hm⟩ := bind_some hm
 refine a2k 4 (fun a w' => ∃ (Fx2 : Frz), Frz.le Fx1 Fx2 ∧ HS F w [] Fx2 [.box b4 26 [.int .i64 0, .slice none 0 0, .int .i64 0, .slice none 0 0], .box b3 26 [.int .i64 b1.P.Sign, .slice as3 ns3 cs3, .int .i64 b1.Q.Sign, .slice as4 ns4 cs4], .box b2 26 [.int .i64 ax1.P.Sign, .slice as1 ns1 cs1, .int .i64 ax1.Q.Sign, .slice as2 ns2 cs2]] w' ∧ Has 25 a [(2, .pointer (some ⟨b2, 0, none⟩)), (3, .pointer (some ⟨b3, 0, none⟩)), (4, .pointer (some ⟨b4, 0, none⟩)), (13, .bool v2)]) ?_ ?_
 ·rintro a wx5 ⟨Fx2, hF2, hx5, hax1⟩
  refine a1a hax1 ?_
  refine a0c (a0d ?_)
  rcases a0i hm with ⟨hb2, hm⟩ | ⟨hb2, hm⟩
  ·refine a0u 13 rfl hb2 ?_
   refine a0z rfl (a0f (a0a ?_))
   refine a1r (v := .agg #[.int .i64 0, .slice none 0 0, .int .i64 0, .slice none 0 0]) rfl rfl rfl (fun _ => by kernel_rfl) ?_
   refine a0o sz26 rfl hx5 rfl rfl rfl rfl (i := 0) rfl rfl rfl rfl ?_
   intro wx6 hx6
   refine a0b rfl rfl rfl (a0c (a0d (a1d (a0n ?_))))
   refine a1k (vl := [.agg #[.int .i64 0, .slice none 0 0, .int .i64 0, .slice none 0 0], .int .i64 1]) rfl ⟨a1q ag26 sz26 rfl hx6 rfl (i := 0) rfl, a1w rfl, trivial⟩ (by simp) ?_
   obtain rfl := Option.some.inj hm
   exact ⟨_, _, _, rfl, hx6.pick [] (by decide) rfl, none, 0, 0, none, 0, 0, rfl, rfl, SlR.nil _ _, SlR.nil _ _⟩
  refine a0u 13 rfl hb2 ?_
  refine a0s rfl (a1b (a0d (a0f ?_)))
  refine a2m (SH Fx2 [.box b3 26 [.int .i64 b1.P.Sign, .slice as3 ns3 cs3, .int .i64 b1.Q.Sign, .slice as4 ns4 cs4], .box b2 26 [.int .i64 ax1.P.Sign, .slice as1 ns1 cs1, .int .i64 ax1.Q.Sign, .slice as2 ns2 cs2]]) 12 rfl (by kernel_rfl) hx5 ?_
  intro wx7 hx7
  refine d_tk 0 rfl (by kernel_rfl) rfl rfl rfl rfl (hx7.sh (Frz.refl _) [1, 2] (by decide) rfl) (fun _ _ _ _ hq => a0k ag26 sz26 rfl rfl hq rfl (i := 1) rfl rfl (a0c (qq rfl))) ?_
  refine d_tk 1 rfl (by kernel_rfl) rfl rfl rfl rfl (hx7.sh (Frz.refl _) [1, 2] (by decide) rfl) (fun _ _ _ _ _ => a0h fa26_0 rfl rfl rfl (a0c (qq rfl))) ?_
  refine d_tk 2 rfl (by kernel_rfl) rfl rfl rfl rfl (hx7.sh (Frz.refl _) [1, 2] (by decide) rfl) (fun _ _ _ _ hq => a1f (cs' := [.int .i64 b1.P.Sign, .slice as3 ns3 cs3]) ag24 sz24 rfl rfl hq rfl (i := 0) rfl rfl rfl (a0c (qq rfl))) ?_
  refine d_tk 4 rfl (by kernel_rfl) rfl rfl rfl rfl (hx7.sh (Frz.refl _) [1, 2] (by decide) rfl) (fun _ _ _ _ _ => a0h fa26_1 rfl rfl rfl (a0c (qq rfl))) ?_
  refine d_tk 5 rfl (by kernel_rfl) rfl rfl rfl rfl (hx7.sh (Frz.refl _) [1, 2] (by decide) rfl) (fun _ _ _ _ hq => a1f (cs' := [.int .i64 b1.Q.Sign, .slice as4 ns4 cs4]) ag24 sz24 rfl rfl hq rfl (i := 0) rfl rfl rfl (a0c (qq rfl))) ?_
  refine a1c 3 rfl (by kernel_rfl) ?_
  obtain ⟨v3, hv2, hm⟩ := bind_some hm
  refine a0g ent50 rfl rfl rfl rfl hx7 (a6j _ _ _ hv2 hx7.sat ((hs3.mono hF1).mono hF2)) ?_
  rintro _ Fx3 _ wx8 hF3 hx8 ⟨as5, ns5, cs5, rfl, rfl, hs5⟩
  refine a0w (hx8.sh hF3 [1, 2] (by decide) rfl) ?_
  refine d_tk 6 rfl (by kernel_rfl) rfl rfl rfl rfl (hx8.sh hF3 [1, 2] (by decide) rfl) (fun _ _ _ _ _ => a1r (v := .agg #[.int .i64 v3.Sign, .slice as5 ns5 cs5, .int .i64 b1.Q.Sign, .slice as4 ns4 cs4]) rfl rfl rfl (fun _ => by kernel_rfl) (a0c (qq rfl))) ?_
  refine a1c 7 rfl (by kernel_rfl) ?_
  obtain ⟨v4, hv3, hm⟩ := bind_some hm
  refine a0g ent10 rfl rfl rfl rfl hx8 (b4m _ _ _ _ hv3 hx8.sat (((hs1.mono hF1).mono hF2).mono hF3) (((hs2.mono hF1).mono hF2).mono hF3) hs5 (((hs4.mono hF1).mono hF2).mono hF3)) ?_
  rintro _ Fx4 _ wx9 hF4 hx9 ⟨as6, ns6, cs6, as7, ns7, cs7, rfl, rfl, hs6, hs7⟩
  refine a0w (hx9.sh (hF3.trans hF4) [1, 2] (by decide) rfl) ?_
  refine d_tk 8 rfl (by kernel_rfl) rfl rfl rfl rfl (hx9.sh (hF3.trans hF4) [1, 2] (by decide) rfl) (fun _ _ _ _ _ => a0j rfl rfl rfl rfl (a0c (qq rfl))) ?_
  refine d_tk 9 rfl (by kernel_rfl) rfl rfl rfl rfl (hx9.sh (hF3.trans hF4) [1, 2] (by decide) rfl) (fun _ _ _ _ _ => a0j rfl rfl rfl rfl (a0c (qq rfl))) ?_
  refine a1c 10 rfl (by kernel_rfl) ?_
  refine a0o sz26 rfl hx9 rfl rfl rfl rfl (i := 0) rfl rfl rfl rfl ?_
  intro wx10 hx10
  refine a0w (hx10.sh (hF3.trans hF4) [1, 2] (by decide) rfl) ?_
  refine d_tk 11 rfl (by kernel_rfl) rfl rfl rfl rfl (hx10.sh (hF3.trans hF4) [1, 2] (by decide) rfl) (fun _ _ _ _ _ => a0b rfl rfl rfl (a0c (qq rfl))) ?_
  refine a3v (by kernel_rfl) ?_
  refine a0d (a1d ?_)
  refine a1k (vl := [.agg #[.int .i64 v4.1.P.Sign, .slice as6 ns6 cs6, .int .i64 v4.1.Q.Sign, .slice as7 ns7 cs7], .int .i64 v4.2]) rfl ⟨a1q ag26 sz26 rfl hx10 rfl (i := 0) rfl, a1w rfl, trivial⟩ (by simp) ?_
  obtain rfl := Option.some.inj hm
  exact ⟨_, _, _, rfl, hx10.pick [] (by decide) rfl, as6, ns6, cs6, as7, ns7, cs7, rfl, rfl, hs6, hs7⟩
 clear hm
 rcases a0i hb1 with ⟨hb3, hb1⟩ | ⟨hb3, hb1⟩
 ·refine a1e 9 rfl hb3 ?_
  refine a0r rfl (by decide) rfl (a0r rfl (by decide) rfl (a0r rfl (by decide) rfl (a0m rfl rfl rfl rfl (a0c ?_))))
  refine a0p (fun a ha => ?_)
  cases hb1
  exact ⟨_, Frz.refl _, hx4.pick [0, 1, 2] (by decide) rfl, ha.cut (l := [2, 3, 4, 13]) rfl⟩
 refine a1e 9 rfl hb3 ?_
 refine a0k ag26 sz26 rfl rfl hx4 rfl (i := 1) rfl rfl ?_
 obtain ⟨v5, hv4, hb1⟩ := bind_some hb1
 refine a0g ent25 rfl rfl rfl rfl hx4 (a2e _ _ _ hv4 hx4.sat (hs3.mono hF1) (hs4.mono hF1)) ?_
 rintro _ Fx5 _ wx11 hF5 hx11 ⟨rfl, rfl⟩
 refine a2x rfl rfl rfl (a0l rfl rfl rfl rfl (a0c ?_))
 refine a0p (fun a ha => ?_)
 cases hb1
 exact ⟨_, hF5, hx11.pick [0, 1, 2] (by decide) rfl, ha.cut (l := [2, 3, 4, 13]) rfl⟩
def b0v (n : Nat) (ax1 : Frac) (b1 : Frac) : Option (Frac × Int) :=
 (a2n n ax1).bind fun v1 =>
 (bif !v1 then
  some true
 else
  (a2n n b1).bind fun v6 =>
  some (!v6)).bind fun v2 =>
 bif v2 then
  some ((⟨(⟨0, []⟩ : Big), (⟨0, []⟩ : Big)⟩ : Frac), 1)
 else
  (a3q n ax1.P b1.P).bind fun v3 =>
  (a3q n ax1.Q b1.Q).bind fun v4 =>
  (a7b n v3 v4).bind fun v5 =>
  some (v5.1, v5.2)
set_option maxHeartbeats 1000000 in
set_option maxRecDepth 1000000 in
theorem b7u (n : Nat) (ax1 : Frac) (b1 : Frac) (r : (Frac × Int)) (hm : b0v n ax1 b1 = some r) {w : World} {F : Frz} (hs : Sat F w) {as1 : Option Addr} {ns1 : Nat} {cs1 : Nat} {as2 : Option Addr} {ns2 : Nat} {cs2 : Nat} {as3 : Option Addr} {ns3 : Nat} {cs3 : Nat} {as4 : Option Addr} {ns4 : Nat} {cs4 : Nat} (hs1 : SlR (Rp.int .i64) F as1 ns1 cs1 ax1.P.Digits) (hs2 : SlR (Rp.int .i64) F as2 ns2 cs2 ax1.Q.Digits) (hs3 : SlR (Rp.int .i64) F as3 ns3 cs3 b1.P.Digits) (hs4 : SlR (Rp.int .i64) F as4 ns4 cs4 b1.Q.Digits) :
  Calls Tryz.prog 15 #[.agg #[.int .i64 ax1.P.Sign, .slice as1 ns1 cs1, .int .i64 ax1.Q.Sign, .slice as2 ns2 cs2], .agg #[.int .i64 b1.P.Sign, .slice as3 ns3 cs3, .int .i64 b1.Q.Sign, .slice as4 ns4 cs4]] w fun e w' => ∃ v F' O', e = .returned v ∧ HS F w [] F' O' w' ∧ (∃ (a0_1 : Option Addr) (n0_1 : Nat) (c0_1 : Nat) (a0_3 : Option Addr) (n0_3 : Nat) (c0_3 : Nat), v = .tuple #[.agg #[.int .i64 r.1.P.Sign, .slice a0_1 n0_1 c0_1, .int .i64 r.1.Q.Sign, .slice a0_3 n0_3 c0_3], .int .i64 r.2] ∧ O' = [] ∧ SlR (Rp.int .i64) F' a0_1 n0_1 c0_1 r.1.P.Digits ∧ SlR (Rp.int .i64) F' a0_3 n0_3 c0_3 r.1.Q.Digits) := by
 unfold b0v at hm
 have h := HS.init hs
 refine a0x 28 Tryz.func15 rfl rfl rfl ?_
 refine a0f (a0a ?_)
 refine a2o rfl rfl rfl rfl h ?_
 intro b2 wx1 hx1
 refine a2o rfl rfl rfl rfl hx1 ?_
 intro b3 wx2 hx2
 refine a0y ze26 rfl rfl rfl hx2 ?_
 intro b4 wx3 hx3
 refine a0b rfl rfl rfl (a0c (a0d (a0f (a0f (a0a ?_)))))
 refine a0k ag26 sz26 rfl rfl hx3 rfl (i := 2) rfl rfl ?_
 obtain ⟨v1, hv1, hm⟩ := bind_some hm
 refine a0g ent25 rfl rfl rfl rfl hx3 (a2e _ _ _ hv1 hx3.sat hs1 hs2) ?_
 rintro _ Fx1 _ wx4 hF1 hx4 ⟨rfl, rfl⟩
 refine a2x rfl rfl rfl (a0e rfl rfl rfl ?_)
 obtain ⟨v2, hb1, hm⟩ := bind_some hm
 refine a2k 4 (fun a w' => ∃ (Fx2 : Frz), Frz.le Fx1 Fx2 ∧ HS F w [] Fx2 [.box b4 26 [.int .i64 0, .slice none 0 0, .int .i64 0, .slice none 0 0], .box b3 26 [.int .i64 b1.P.Sign, .slice as3 ns3 cs3, .int .i64 b1.Q.Sign, .slice as4 ns4 cs4], .box b2 26 [.int .i64 ax1.P.Sign, .slice as1 ns1 cs1, .int .i64 ax1.Q.Sign, .slice as2 ns2 cs2]] w' ∧ Has 28 a [(2, .pointer (some ⟨b2, 0, none⟩)), (3, .pointer (some ⟨b3, 0, none⟩)), (4, .pointer (some ⟨b4, 0, none⟩)), (13, .bool v2)]) ?_ ?_
 ·rintro a wx5 ⟨Fx2, hF2, hx5, hax1⟩
  refine a1a hax1 ?_
  refine a0c (a0d ?_)
  rcases a0i hm with ⟨hb2, hm⟩ | ⟨hb2, hm⟩
  ·refine a0u 13 rfl hb2 ?_
   refine a0z rfl (a0f (a0a ?_))
   refine a1r (v := .agg #[.int .i64 0, .slice none 0 0, .int .i64 0, .slice none 0 0]) rfl rfl rfl (fun _ => by kernel_rfl) ?_
   refine a0o sz26 rfl hx5 rfl rfl rfl rfl (i := 0) rfl rfl rfl rfl ?_
   intro wx6 hx6
   refine a0b rfl rfl rfl (a0c (a0d (a1d (a0n ?_))))
   refine a1k (vl := [.agg #[.int .i64 0, .slice none 0 0, .int .i64 0, .slice none 0 0], .int .i64 1]) rfl ⟨a1q ag26 sz26 rfl hx6 rfl (i := 0) rfl, a1w rfl, trivial⟩ (by simp) ?_
   obtain rfl := Option.some.inj hm
   exact ⟨_, _, _, rfl, hx6.pick [] (by decide) rfl, none, 0, 0, none, 0, 0, rfl, rfl, SlR.nil _ _, SlR.nil _ _⟩
  refine a0u 13 rfl hb2 ?_
  refine a0s rfl (a1b (a0d (a0f ?_)))
  refine a2m (SH Fx2 [.box b3 26 [.int .i64 b1.P.Sign, .slice as3 ns3 cs3, .int .i64 b1.Q.Sign, .slice as4 ns4 cs4], .box b2 26 [.int .i64 ax1.P.Sign, .slice as1 ns1 cs1, .int .i64 ax1.Q.Sign, .slice as2 ns2 cs2]]) 15 rfl (by kernel_rfl) hx5 ?_
  intro wx7 hx7
  refine d_tk 0 rfl (by kernel_rfl) rfl rfl rfl rfl (hx7.sh (Frz.refl _) [1, 2] (by decide) rfl) (fun _ _ _ _ _ => a0h fa26_0 rfl rfl rfl (a0c (qq rfl))) ?_
  refine d_tk 1 rfl (by kernel_rfl) rfl rfl rfl rfl (hx7.sh (Frz.refl _) [1, 2] (by decide) rfl) (fun _ _ _ _ hq => a1f (cs' := [.int .i64 ax1.P.Sign, .slice as1 ns1 cs1]) ag24 sz24 rfl rfl hq rfl (i := 1) rfl rfl rfl (a0c (qq rfl))) ?_
  refine d_tk 2 rfl (by kernel_rfl) rfl rfl rfl rfl (hx7.sh (Frz.refl _) [1, 2] (by decide) rfl) (fun _ _ _ _ _ => a0h fa26_0 rfl rfl rfl (a0c (qq rfl))) ?_
  refine d_tk 3 rfl (by kernel_rfl) rfl rfl rfl rfl (hx7.sh (Frz.refl _) [1, 2] (by decide) rfl) (fun _ _ _ _ hq => a1f (cs' := [.int .i64 b1.P.Sign, .slice as3 ns3 cs3]) ag24 sz24 rfl rfl hq rfl (i := 0) rfl rfl rfl (a0c (qq rfl))) ?_
  refine d_tk 5 rfl (by kernel_rfl) rfl rfl rfl rfl (hx7.sh (Frz.refl _) [1, 2] (by decide) rfl) (fun _ _ _ _ _ => a0h fa26_1 rfl rfl rfl (a0c (qq rfl))) ?_
  refine d_tk 6 rfl (by kernel_rfl) rfl rfl rfl rfl (hx7.sh (Frz.refl _) [1, 2] (by decide) rfl) (fun _ _ _ _ hq => a1f (cs' := [.int .i64 ax1.Q.Sign, .slice as2 ns2 cs2]) ag24 sz24 rfl rfl hq rfl (i := 1) rfl rfl rfl (a0c (qq rfl))) ?_
  refine d_tk 7 rfl (by kernel_rfl) rfl rfl rfl rfl (hx7.sh (Frz.refl _) [1, 2] (by decide) rfl) (fun _ _ _ _ _ => a0h fa26_1 rfl rfl rfl (a0c (qq rfl))) ?_
  refine d_tk 8 rfl (by kernel_rfl) rfl rfl rfl rfl (hx7.sh (Frz.refl _) [1, 2] (by decide) rfl) (fun _ _ _ _ hq => a1f (cs' := [.int .i64 b1.Q.Sign, .slice as4 ns4 cs4]) ag24 sz24 rfl rfl hq rfl (i := 0) rfl rfl rfl (a0c (qq rfl))) ?_
  refine a1c 4 rfl (by kernel_rfl) ?_
  obtain ⟨v3, hv2, hm⟩ := bind_some hm
  refine a0g ent52 rfl rfl rfl rfl hx7 (a3o _ _ _ _ hv2 hx7.sat ((hs1.mono hF1).mono hF2) ((hs3.mono hF1).mono hF2)) ?_
  rintro _ Fx3 _ wx8 hF3 hx8 ⟨as5, ns5, cs5, rfl, rfl, hs5⟩
  refine a0w (hx8.sh hF3 [1, 2] (by decide) rfl) ?_
  refine a1c 9 rfl (by kernel_rfl) ?_
  obtain ⟨v4, hv3, hm⟩ := bind_some hm
  refine a0g ent52 rfl rfl rfl rfl hx8 (a3o _ _ _ _ hv3 hx8.sat (((hs2.mono hF1).mono hF2).mono hF3) (((hs4.mono hF1).mono hF2).mono hF3)) ?_
  rintro _ Fx4 _ wx9 hF4 hx9 ⟨as6, ns6, cs6, rfl, rfl, hs6⟩
  refine a0w (hx9.sh (hF3.trans hF4) [1, 2] (by decide) rfl) ?_
  refine a1c 10 rfl (by kernel_rfl) ?_
  obtain ⟨v5, hv4, hm⟩ := bind_some hm
  refine a0g ent23 rfl rfl rfl rfl hx9 (b0c _ _ _ _ hv4 hx9.sat (hs5.mono hF4) hs6) ?_
  rintro _ Fx5 _ wx10 hF5 hx10 ⟨as7, ns7, cs7, as8, ns8, cs8, rfl, rfl, hs7, hs8⟩
  refine a0w (hx10.sh ((hF3.trans hF4).trans hF5) [1, 2] (by decide) rfl) ?_
  refine d_tk 11 rfl (by kernel_rfl) rfl rfl rfl rfl (hx10.sh ((hF3.trans hF4).trans hF5) [1, 2] (by decide) rfl) (fun _ _ _ _ _ => a0j rfl rfl rfl rfl (a0c (qq rfl))) ?_
  refine d_tk 12 rfl (by kernel_rfl) rfl rfl rfl rfl (hx10.sh ((hF3.trans hF4).trans hF5) [1, 2] (by decide) rfl) (fun _ _ _ _ _ => a0j rfl rfl rfl rfl (a0c (qq rfl))) ?_
  refine a1c 13 rfl (by kernel_rfl) ?_
  refine a0o sz26 rfl hx10 rfl rfl rfl rfl (i := 0) rfl rfl rfl rfl ?_
  intro wx11 hx11
  refine a0w (hx11.sh ((hF3.trans hF4).trans hF5) [1, 2] (by decide) rfl) ?_
  refine d_tk 14 rfl (by kernel_rfl) rfl rfl rfl rfl (hx11.sh ((hF3.trans hF4).trans hF5) [1, 2] (by decide) rfl) (fun _ _ _ _ _ => a0b rfl rfl rfl (a0c (qq rfl))) ?_
  refine a3v (by kernel_rfl) ?_
  refine a0d (a1d ?_)
  refine a1k (vl := [.agg #[.int .i64 v5.1.P.Sign, .slice as7 ns7 cs7, .int .i64 v5.1.Q.Sign, .slice as8 ns8 cs8], .int .i64 v5.2]) rfl ⟨a1q ag26 sz26 rfl hx11 rfl (i := 0) rfl, a1w rfl, trivial⟩ (by simp) ?_
  obtain rfl := Option.some.inj hm
  exact ⟨_, _, _, rfl, hx11.pick [] (by decide) rfl, as7, ns7, cs7, as8, ns8, cs8, rfl, rfl, hs7, hs8⟩
 clear hm
 rcases a0i hb1 with ⟨hb3, hb1⟩ | ⟨hb3, hb1⟩
 ·refine a1e 9 rfl hb3 ?_
  refine a0r rfl (by decide) rfl (a0r rfl (by decide) rfl (a0r rfl (by decide) rfl (a0m rfl rfl rfl rfl (a0c ?_))))
  refine a0p (fun a ha => ?_)
  cases hb1
  exact ⟨_, Frz.refl _, hx4.pick [0, 1, 2] (by decide) rfl, ha.cut (l := [2, 3, 4, 13]) rfl⟩
 refine a1e 9 rfl hb3 ?_
 refine a0k ag26 sz26 rfl rfl hx4 rfl (i := 1) rfl rfl ?_
 obtain ⟨v6, hv5, hb1⟩ := bind_some hb1
 refine a0g ent25 rfl rfl rfl rfl hx4 (a2e _ _ _ hv5 hx4.sat (hs3.mono hF1) (hs4.mono hF1)) ?_
 rintro _ Fx6 _ wx12 hF6 hx12 ⟨rfl, rfl⟩
 refine a2x rfl rfl rfl (a0l rfl rfl rfl rfl (a0c ?_))
 refine a0p (fun a ha => ?_)
 cases hb1
 exact ⟨_, hF6, hx12.pick [0, 1, 2] (by decide) rfl, ha.cut (l := [2, 3, 4, 13]) rfl⟩
def a8u (n : Nat) (ax1 : Frac) (b1 : Frac) : Option (Frac × Int) :=
 (a2n n ax1).bind fun v1 =>
 (bif !v1 then
  some true
 else
  (a2n n b1).bind fun v6 =>
  some (!v6)).bind fun v2 =>
 bif v2 then
  some ((⟨(⟨0, []⟩ : Big), (⟨0, []⟩ : Big)⟩ : Frac), 1)
 else
  bif b1.P.Sign == 0 then
   some ((⟨(⟨0, []⟩ : Big), (⟨0, []⟩ : Big)⟩ : Frac), 14)
  else
   (a3q n ax1.P b1.Q).bind fun v3 =>
   (a3q n ax1.Q b1.P).bind fun v4 =>
   (a7b n v3 v4).bind fun v5 =>
   some (v5.1, v5.2)
set_option maxHeartbeats 1000000 in
set_option maxRecDepth 1000000 in
theorem b8e (n : Nat) (ax1 : Frac) (b1 : Frac) (r : (Frac × Int)) (hm : a8u n ax1 b1 = some r) {w : World} {F : Frz} (hs : Sat F w) {as1 : Option Addr} {ns1 : Nat} {cs1 : Nat} {as2 : Option Addr} {ns2 : Nat} {cs2 : Nat} {as3 : Option Addr} {ns3 : Nat} {cs3 : Nat} {as4 : Option Addr} {ns4 : Nat} {cs4 : Nat} (hs1 : SlR (Rp.int .i64) F as1 ns1 cs1 ax1.P.Digits) (hs2 : SlR (Rp.int .i64) F as2 ns2 cs2 ax1.Q.Digits) (hs3 : SlR (Rp.int .i64) F as3 ns3 cs3 b1.P.Digits) (hs4 : SlR (Rp.int .i64) F as4 ns4 cs4 b1.Q.Digits) :
  Calls Tryz.prog 17 #[.agg #[.int .i64 ax1.P.Sign, .slice as1 ns1 cs1, .int .i64 ax1.Q.Sign, .slice as2 ns2 cs2], .agg #[.int .i64 b1.P.Sign, .slice as3 ns3 cs3, .int .i64 b1.Q.Sign, .slice as4 ns4 cs4]] w fun e w' => ∃ v F' O', e = .returned v ∧ HS F w [] F' O' w' ∧ (∃ (a0_1 : Option Addr) (n0_1 : Nat) (c0_1 : Nat) (a0_3 : Option Addr) (n0_3 : Nat) (c0_3 : Nat), v = .tuple #[.agg #[.int .i64 r.1.P.Sign, .slice a0_1 n0_1 c0_1, .int .i64 r.1.Q.Sign, .slice a0_3 n0_3 c0_3], .int .i64 r.2] ∧ O' = [] ∧ SlR (Rp.int .i64) F' a0_1 n0_1 c0_1 r.1.P.Digits ∧ SlR (Rp.int .i64) F' a0_3 n0_3 c0_3 r.1.Q.Digits) := by
 unfold a8u at hm
 have h := HS.init hs
 refine a0x 35 Tryz.func17 rfl rfl rfl ?_
 refine a0f (a0a ?_)
 refine a2o rfl rfl rfl rfl h ?_
 intro b2 wx1 hx1
 refine a2o rfl rfl rfl rfl hx1 ?_
 intro b3 wx2 hx2
 refine a0y ze26 rfl rfl rfl hx2 ?_
 intro b4 wx3 hx3
 refine a0b rfl rfl rfl (a0c (a0d (a0f (a1i (a0f (a0a ?_))))))
 refine a0k ag26 sz26 rfl rfl hx3 rfl (i := 2) rfl rfl ?_
 obtain ⟨v1, hv1, hm⟩ := bind_some hm
 refine a0g ent25 rfl rfl rfl rfl hx3 (a2e _ _ _ hv1 hx3.sat hs1 hs2) ?_
 rintro _ Fx1 _ wx4 hF1 hx4 ⟨rfl, rfl⟩
 refine a2x rfl rfl rfl (a0e rfl rfl rfl ?_)
 obtain ⟨v2, hb1, hm⟩ := bind_some hm
 refine a2k 4 (fun a w' => ∃ (Fx2 : Frz), Frz.le Fx1 Fx2 ∧ HS F w [] Fx2 [.box b4 26 [.int .i64 0, .slice none 0 0, .int .i64 0, .slice none 0 0], .box b3 26 [.int .i64 b1.P.Sign, .slice as3 ns3 cs3, .int .i64 b1.Q.Sign, .slice as4 ns4 cs4], .box b2 26 [.int .i64 ax1.P.Sign, .slice as1 ns1 cs1, .int .i64 ax1.Q.Sign, .slice as2 ns2 cs2]] w' ∧ Has 35 a [(2, .pointer (some ⟨b2, 0, none⟩)), (3, .pointer (some ⟨b3, 0, none⟩)), (4, .pointer (some ⟨b4, 0, none⟩)), (14, .bool v2)]) ?_ ?_
 ·rintro a wx5 ⟨Fx2, hF2, hx5, hax1⟩
  refine a1a hax1 ?_
  refine a0b rfl rfl rfl (a0c (a0d ?_))
  rcases a0i hm with ⟨hb2, hm⟩ | ⟨hb2, hm⟩
  ·refine a0u 6 rfl hb2 ?_
   refine a0z rfl (a0f (a0a ?_))
   refine a1r (v := .agg #[.int .i64 0, .slice none 0 0, .int .i64 0, .slice none 0 0]) rfl rfl rfl (fun _ => by kernel_rfl) ?_
   refine a0o sz26 rfl hx5 rfl rfl rfl rfl (i := 0) rfl rfl rfl rfl ?_
   intro wx6 hx6
   refine a0b rfl rfl rfl (a0c (a0d (a1d (a1n (a0n ?_)))))
   refine a1k (vl := [.agg #[.int .i64 0, .slice none 0 0, .int .i64 0, .slice none 0 0], .int .i64 1]) rfl ⟨a1q ag26 sz26 rfl hx6 rfl (i := 0) rfl, a1w rfl, trivial⟩ (by simp) ?_
   obtain rfl := Option.some.inj hm
   exact ⟨_, _, _, rfl, hx6.pick [] (by decide) rfl, none, 0, 0, none, 0, 0, rfl, rfl, SlR.nil _ _, SlR.nil _ _⟩
  refine a0u 6 rfl hb2 ?_
  refine a0s rfl (a0f (a0a ?_))
  refine a0h fa26_0 rfl rfl rfl ?_
  refine a0h fa24_0 rfl rfl rfl ?_
  refine a0t ag3 rfl rfl hx5 rfl (i := 1) rfl rfl ?_
  refine a0v rfl rfl rfl rfl rfl ?_
  refine a0b rfl rfl rfl (a0c (a0d ?_))
  rcases a0i hm with ⟨hb3, hm⟩ | ⟨hb3, hm⟩
  ·refine a0u 16 rfl hb3 ?_
   refine a0z rfl (a0f (a0a ?_))
   refine a1r (v := .agg #[.int .i64 0, .slice none 0 0, .int .i64 0, .slice none 0 0]) rfl rfl rfl (fun _ => by kernel_rfl) ?_
   refine a0o sz26 rfl hx5 rfl rfl rfl rfl (i := 0) rfl rfl rfl rfl ?_
   intro wx7 hx7
   refine a0b rfl rfl rfl (a0c (a0d (a1d (a1n (a0n ?_)))))
   refine a1k (vl := [.agg #[.int .i64 0, .slice none 0 0, .int .i64 0, .slice none 0 0], .int .i64 14]) rfl ⟨a1q ag26 sz26 rfl hx7 rfl (i := 0) rfl, a1w rfl, trivial⟩ (by simp) ?_
   obtain rfl := Option.some.inj hm
   exact ⟨_, _, _, rfl, hx7.pick [] (by decide) rfl, none, 0, 0, none, 0, 0, rfl, rfl, SlR.nil _ _, SlR.nil _ _⟩
  refine a0u 16 rfl hb3 ?_
  refine a0s rfl (a1b (a2a (a0d (a0f ?_))))
  refine a2m (SH Fx2 [.box b3 26 [.int .i64 b1.P.Sign, .slice as3 ns3 cs3, .int .i64 b1.Q.Sign, .slice as4 ns4 cs4], .box b2 26 [.int .i64 ax1.P.Sign, .slice as1 ns1 cs1, .int .i64 ax1.Q.Sign, .slice as2 ns2 cs2]]) 15 rfl (by kernel_rfl) hx5 ?_
  intro wx8 hx8
  refine d_tk 0 rfl (by kernel_rfl) rfl rfl rfl rfl (hx8.sh (Frz.refl _) [1, 2] (by decide) rfl) (fun _ _ _ _ _ => a0h fa26_0 rfl rfl rfl (a0c (qq rfl))) ?_
  refine d_tk 1 rfl (by kernel_rfl) rfl rfl rfl rfl (hx8.sh (Frz.refl _) [1, 2] (by decide) rfl) (fun _ _ _ _ hq => a1f (cs' := [.int .i64 ax1.P.Sign, .slice as1 ns1 cs1]) ag24 sz24 rfl rfl hq rfl (i := 1) rfl rfl rfl (a0c (qq rfl))) ?_
  refine d_tk 2 rfl (by kernel_rfl) rfl rfl rfl rfl (hx8.sh (Frz.refl _) [1, 2] (by decide) rfl) (fun _ _ _ _ _ => a0h fa26_1 rfl rfl rfl (a0c (qq rfl))) ?_
  refine d_tk 3 rfl (by kernel_rfl) rfl rfl rfl rfl (hx8.sh (Frz.refl _) [1, 2] (by decide) rfl) (fun _ _ _ _ hq => a1f (cs' := [.int .i64 b1.Q.Sign, .slice as4 ns4 cs4]) ag24 sz24 rfl rfl hq rfl (i := 0) rfl rfl rfl (a0c (qq rfl))) ?_
  refine d_tk 5 rfl (by kernel_rfl) rfl rfl rfl rfl (hx8.sh (Frz.refl _) [1, 2] (by decide) rfl) (fun _ _ _ _ _ => a0h fa26_1 rfl rfl rfl (a0c (qq rfl))) ?_
  refine d_tk 6 rfl (by kernel_rfl) rfl rfl rfl rfl (hx8.sh (Frz.refl _) [1, 2] (by decide) rfl) (fun _ _ _ _ hq => a1f (cs' := [.int .i64 ax1.Q.Sign, .slice as2 ns2 cs2]) ag24 sz24 rfl rfl hq rfl (i := 1) rfl rfl rfl (a0c (qq rfl))) ?_
  refine d_tk 7 rfl (by kernel_rfl) rfl rfl rfl rfl (hx8.sh (Frz.refl _) [1, 2] (by decide) rfl) (fun _ _ _ _ _ => a0h fa26_0 rfl rfl rfl (a0c (qq rfl))) ?_
  refine d_tk 8 rfl (by kernel_rfl) rfl rfl rfl rfl (hx8.sh (Frz.refl _) [1, 2] (by decide) rfl) (fun _ _ _ _ hq => a1f (cs' := [.int .i64 b1.P.Sign, .slice as3 ns3 cs3]) ag24 sz24 rfl rfl hq rfl (i := 0) rfl rfl rfl (a0c (qq rfl))) ?_
  refine a1c 4 rfl (by kernel_rfl) ?_
  obtain ⟨v3, hv2, hm⟩ := bind_some hm
  refine a0g ent52 rfl rfl rfl rfl hx8 (a3o _ _ _ _ hv2 hx8.sat ((hs1.mono hF1).mono hF2) ((hs4.mono hF1).mono hF2)) ?_
  rintro _ Fx3 _ wx9 hF3 hx9 ⟨as5, ns5, cs5, rfl, rfl, hs5⟩
  refine a0w (hx9.sh hF3 [1, 2] (by decide) rfl) ?_
  refine a1c 9 rfl (by kernel_rfl) ?_
  obtain ⟨v4, hv3, hm⟩ := bind_some hm
  refine a0g ent52 rfl rfl rfl rfl hx9 (a3o _ _ _ _ hv3 hx9.sat (((hs2.mono hF1).mono hF2).mono hF3) (((hs3.mono hF1).mono hF2).mono hF3)) ?_
  rintro _ Fx4 _ wx10 hF4 hx10 ⟨as6, ns6, cs6, rfl, rfl, hs6⟩
  refine a0w (hx10.sh (hF3.trans hF4) [1, 2] (by decide) rfl) ?_
  refine a1c 10 rfl (by kernel_rfl) ?_
  obtain ⟨v5, hv4, hm⟩ := bind_some hm
  refine a0g ent23 rfl rfl rfl rfl hx10 (b0c _ _ _ _ hv4 hx10.sat (hs5.mono hF4) hs6) ?_
  rintro _ Fx5 _ wx11 hF5 hx11 ⟨as7, ns7, cs7, as8, ns8, cs8, rfl, rfl, hs7, hs8⟩
  refine a0w (hx11.sh ((hF3.trans hF4).trans hF5) [1, 2] (by decide) rfl) ?_
  refine d_tk 11 rfl (by kernel_rfl) rfl rfl rfl rfl (hx11.sh ((hF3.trans hF4).trans hF5) [1, 2] (by decide) rfl) (fun _ _ _ _ _ => a0j rfl rfl rfl rfl (a0c (qq rfl))) ?_
  refine d_tk 12 rfl (by kernel_rfl) rfl rfl rfl rfl (hx11.sh ((hF3.trans hF4).trans hF5) [1, 2] (by decide) rfl) (fun _ _ _ _ _ => a0j rfl rfl rfl rfl (a0c (qq rfl))) ?_
  refine a1c 13 rfl (by kernel_rfl) ?_
  refine a0o sz26 rfl hx11 rfl rfl rfl rfl (i := 0) rfl rfl rfl rfl ?_
  intro wx12 hx12
  refine a0w (hx12.sh ((hF3.trans hF4).trans hF5) [1, 2] (by decide) rfl) ?_
  refine d_tk 14 rfl (by kernel_rfl) rfl rfl rfl rfl (hx12.sh ((hF3.trans hF4).trans hF5) [1, 2] (by decide) rfl) (fun _ _ _ _ _ => a0b rfl rfl rfl (a0c (qq rfl))) ?_
  refine a3v (by kernel_rfl) ?_
  refine a0d (a1d ?_)
  refine a1k (vl := [.agg #[.int .i64 v5.1.P.Sign, .slice as7 ns7 cs7, .int .i64 v5.1.Q.Sign, .slice as8 ns8 cs8], .int .i64 v5.2]) rfl ⟨a1q ag26 sz26 rfl hx12 rfl (i := 0) rfl, a1w rfl, trivial⟩ (by simp) ?_
  obtain rfl := Option.some.inj hm
  exact ⟨_, _, _, rfl, hx12.pick [] (by decide) rfl, as7, ns7, cs7, as8, ns8, cs8, rfl, rfl, hs7, hs8⟩
 clear hm
 rcases a0i hb1 with ⟨hb4, hb1⟩ | ⟨hb4, hb1⟩
 ·refine a1e 10 rfl hb4 ?_
  refine a0r rfl (by decide) rfl (a0r rfl (by decide) rfl (a0r rfl (by decide) rfl (a0m rfl rfl rfl rfl (a0c ?_))))
  refine a0p (fun a ha => ?_)
  cases hb1
  exact ⟨_, Frz.refl _, hx4.pick [0, 1, 2] (by decide) rfl, ha.cut (l := [2, 3, 4, 14]) rfl⟩
 refine a1e 10 rfl hb4 ?_
 refine a0k ag26 sz26 rfl rfl hx4 rfl (i := 1) rfl rfl ?_
 obtain ⟨v6, hv5, hb1⟩ := bind_some hb1
 refine a0g ent25 rfl rfl rfl rfl hx4 (a2e _ _ _ hv5 hx4.sat (hs3.mono hF1) (hs4.mono hF1)) ?_
 rintro _ Fx6 _ wx13 hF6 hx13 ⟨rfl, rfl⟩
 refine a2x rfl rfl rfl (a0l rfl rfl rfl rfl (a0c ?_))
 refine a0p (fun a ha => ?_)
 cases hb1
 exact ⟨_, hF6, hx13.pick [0, 1, 2] (by decide) rfl, ha.cut (l := [2, 3, 4, 14]) rfl⟩
def b0m (n : Nat) (ax1 : Big) : Option Big :=
 (b1f n ax1).bind fun v1 =>
 (b1f n v1).bind fun v2 =>
 some v2
set_option maxHeartbeats 1000000 in
set_option maxRecDepth 1000000 in
theorem b3d (n : Nat) (ax1 : Big) (r : Big) (hm : b0m n ax1 = some r) {w : World} {F : Frz} (hs : Sat F w) {as1 : Option Addr} {ns1 : Nat} {cs1 : Nat} (hs1 : SlR (Rp.int .i64) F as1 ns1 cs1 ax1.Digits) :
  Calls Tryz.prog 72 #[.agg #[.int .i64 ax1.Sign, .slice as1 ns1 cs1]] w fun e w' => ∃ v F' O', e = .returned v ∧ HS F w [] F' O' w' ∧ (∃ (a0_1 : Option Addr) (n0_1 : Nat) (c0_1 : Nat), v = .agg #[.int .i64 r.Sign, .slice a0_1 n0_1 c0_1] ∧ O' = [] ∧ SlR (Rp.int .i64) F' a0_1 n0_1 c0_1 r.Digits) := by
 unfold b0m at hm
 have h := HS.init hs
 refine a0x 6 Tryz.func72 rfl rfl rfl ?_
 refine a0f (a0a ?_)
 refine a2o rfl rfl rfl rfl h ?_
 intro b1 wx1 hx1
 refine a0y ze24 rfl rfl rfl hx1 ?_
 intro b2 wx2 hx2
 refine a0c (a0d (a0f (a0a ?_)))
 refine a0k ag24 sz24 rfl rfl hx2 rfl (i := 1) rfl rfl ?_
 obtain ⟨v1, hv1, hm⟩ := bind_some hm
 refine a0g ent50 rfl rfl rfl rfl hx2 (a6j _ _ _ hv1 hx2.sat hs1) ?_
 rintro _ Fx1 _ wx3 hF1 hx3 ⟨as2, ns2, cs2, rfl, rfl, hs2⟩
 obtain ⟨v2, hv2, hm⟩ := bind_some hm
 refine a0g ent50 rfl rfl rfl rfl hx3 (a6j _ _ _ hv2 hx3.sat hs2) ?_
 rintro _ Fx2 _ wx4 hF2 hx4 ⟨as3, ns3, cs3, rfl, rfl, hs3⟩
 refine a0o sz24 rfl hx4 rfl rfl rfl rfl (i := 0) rfl rfl rfl rfl ?_
 intro wx5 hx5
 refine a0c (a0d (a1d ?_))
 refine a6l rfl ag24 sz24 rfl hx5 rfl (i := 0) rfl ?_
 obtain rfl := Option.some.inj hm
 exact ⟨_, _, _, rfl, hx5.pick [] (by decide) rfl, as3, ns3, cs3, rfl, rfl, hs3⟩
theorem ent72 : Ent Tryz.prog 72 := fun _ _ => by kernel_rfl
def a9l (n : Nat) (f1 : Frac) : Option Frac :=
 (a2n n f1).bind fun v1 =>
 bif !v1 then
  some (⟨(⟨0, []⟩ : Big), (⟨0, []⟩ : Big)⟩ : Frac)
 else
  (b1f n f1.P).bind fun v2 =>
  (b0m n f1.Q).bind fun v3 =>
  some (⟨v2, v3⟩ : Frac)
set_option maxHeartbeats 1000000 in
set_option maxRecDepth 1000000 in
theorem b4d (n : Nat) (f1 : Frac) (r : Frac) (hm : a9l n f1 = some r) {w : World} {F : Frz} (hs : Sat F w) {as1 : Option Addr} {ns1 : Nat} {cs1 : Nat} {as2 : Option Addr} {ns2 : Nat} {cs2 : Nat} (hs1 : SlR (Rp.int .i64) F as1 ns1 cs1 f1.P.Digits) (hs2 : SlR (Rp.int .i64) F as2 ns2 cs2 f1.Q.Digits) :
  Calls Tryz.prog 34 #[.agg #[.int .i64 f1.P.Sign, .slice as1 ns1 cs1, .int .i64 f1.Q.Sign, .slice as2 ns2 cs2]] w fun e w' => ∃ v F' O', e = .returned v ∧ HS F w [] F' O' w' ∧ (∃ (a0_1 : Option Addr) (n0_1 : Nat) (c0_1 : Nat) (a0_3 : Option Addr) (n0_3 : Nat) (c0_3 : Nat), v = .agg #[.int .i64 r.P.Sign, .slice a0_1 n0_1 c0_1, .int .i64 r.Q.Sign, .slice a0_3 n0_3 c0_3] ∧ O' = [] ∧ SlR (Rp.int .i64) F' a0_1 n0_1 c0_1 r.P.Digits ∧ SlR (Rp.int .i64) F' a0_3 n0_3 c0_3 r.Q.Digits) := by
 unfold a9l at hm
 have h := HS.init hs
 refine a0x 14 Tryz.func34 rfl rfl rfl ?_
 refine a0f (a0a ?_)
 refine a2o rfl rfl rfl rfl h ?_
 intro b1 wx1 hx1
 refine a0y ze26 rfl rfl rfl hx1 ?_
 intro b2 wx2 hx2
 refine a0c (a0d (a0f (a0f (a0a ?_))))
 refine a0k ag26 sz26 rfl rfl hx2 rfl (i := 1) rfl rfl ?_
 obtain ⟨v1, hv1, hm⟩ := bind_some hm
 refine a0g ent25 rfl rfl rfl rfl hx2 (a2e _ _ _ hv1 hx2.sat hs1 hs2) ?_
 rintro _ Fx1 _ wx3 hF1 hx3 ⟨rfl, rfl⟩
 refine a2x rfl rfl rfl (a0c (a0d ?_))
 rcases a0i hm with ⟨hb1, hm⟩ | ⟨hb1, hm⟩
 ·refine a0u 5 rfl hb1 ?_
  refine a0z rfl (a0f (a0a ?_))
  refine a1r (v := .agg #[.int .i64 0, .slice none 0 0, .int .i64 0, .slice none 0 0]) rfl rfl rfl (fun _ => by kernel_rfl) ?_
  refine a0o sz26 rfl hx3 rfl rfl rfl rfl (i := 0) rfl rfl rfl rfl ?_
  intro wx4 hx4
  refine a0c (a0d (a1d (a0n ?_)))
  refine a6l rfl ag26 sz26 rfl hx4 rfl (i := 0) rfl ?_
  obtain rfl := Option.some.inj hm
  exact ⟨_, _, _, rfl, hx4.pick [] (by decide) rfl, none, 0, 0, none, 0, 0, rfl, rfl, SlR.nil _ _, SlR.nil _ _⟩
 refine a0u 5 rfl hb1 ?_
 refine a0s rfl (a1b (a0d (a0f ?_)))
 refine a2m (SH Fx1 [.box b1 26 [.int .i64 f1.P.Sign, .slice as1 ns1 cs1, .int .i64 f1.Q.Sign, .slice as2 ns2 cs2]]) 8 rfl (by kernel_rfl) hx3 ?_
 intro wx5 hx5
 refine d_tk 0 rfl (by kernel_rfl) rfl rfl rfl rfl (hx5.sh (Frz.refl _) [1] (by decide) rfl) (fun _ _ _ _ _ => a0h fa26_0 rfl rfl rfl (a0c (qq rfl))) ?_
 refine d_tk 1 rfl (by kernel_rfl) rfl rfl rfl rfl (hx5.sh (Frz.refl _) [1] (by decide) rfl) (fun _ _ _ _ hq => a1f (cs' := [.int .i64 f1.P.Sign, .slice as1 ns1 cs1]) ag24 sz24 rfl rfl hq rfl (i := 0) rfl rfl rfl (a0c (qq rfl))) ?_
 refine d_tk 3 rfl (by kernel_rfl) rfl rfl rfl rfl (hx5.sh (Frz.refl _) [1] (by decide) rfl) (fun _ _ _ _ _ => a0h fa26_1 rfl rfl rfl (a0c (qq rfl))) ?_
 refine d_tk 4 rfl (by kernel_rfl) rfl rfl rfl rfl (hx5.sh (Frz.refl _) [1] (by decide) rfl) (fun _ _ _ _ hq => a1f (cs' := [.int .i64 f1.Q.Sign, .slice as2 ns2 cs2]) ag24 sz24 rfl rfl hq rfl (i := 0) rfl rfl rfl (a0c (qq rfl))) ?_
 refine a1c 2 rfl (by kernel_rfl) ?_
 obtain ⟨v2, hv2, hm⟩ := bind_some hm
 refine a0g ent50 rfl rfl rfl rfl hx5 (a6j _ _ _ hv2 hx5.sat (hs1.mono hF1)) ?_
 rintro _ Fx2 _ wx6 hF2 hx6 ⟨as3, ns3, cs3, rfl, rfl, hs3⟩
 refine a0w (hx6.sh hF2 [1] (by decide) rfl) ?_
 refine a1c 5 rfl (by kernel_rfl) ?_
 obtain ⟨v3, hv3, hm⟩ := bind_some hm
 refine a0g ent72 rfl rfl rfl rfl hx6 (b3d _ _ _ hv3 hx6.sat ((hs2.mono hF1).mono hF2)) ?_
 rintro _ Fx3 _ wx7 hF3 hx7 ⟨as4, ns4, cs4, rfl, rfl, hs4⟩
 refine a0w (hx7.sh (hF2.trans hF3) [1] (by decide) rfl) ?_
 refine d_tk 6 rfl (by kernel_rfl) rfl rfl rfl rfl (hx7.sh (hF2.trans hF3) [1] (by decide) rfl) (fun _ _ _ _ _ => a1r (v := .agg #[.int .i64 v2.Sign, .slice as3 ns3 cs3, .int .i64 v3.Sign, .slice as4 ns4 cs4]) rfl rfl rfl (fun _ => by kernel_rfl) (a0c (qq rfl))) ?_
 refine a1c 7 rfl (by kernel_rfl) ?_
 refine a0o sz26 rfl hx7 rfl rfl rfl rfl (i := 0) rfl rfl rfl rfl ?_
 intro wx8 hx8
 refine a0w (hx8.sh (hF2.trans hF3) [1] (by decide) rfl) ?_
 refine a3v (by kernel_rfl) ?_
 refine a0d (a1d ?_)
 refine a6l rfl ag26 sz26 rfl hx8 rfl (i := 0) rfl ?_
 obtain rfl := Option.some.inj hm
 exact ⟨_, _, _, rfl, hx8.pick [] (by decide) rfl, as3, ns3, cs3, as4, ns4, cs4, rfl, rfl, (hs3.mono hF3), hs4⟩
def a8f (n : Nat) (f1 : Frac) : Option Int :=
 (a2n n f1).bind fun v1 =>
 bif !v1 then
  some 0
 else
  some f1.P.Sign
set_option maxHeartbeats 1000000 in
set_option maxRecDepth 1000000 in
theorem b2p (n : Nat) (f1 : Frac) (r : Int) (hm : a8f n f1 = some r) {w : World} {F : Frz} (hs : Sat F w) {as1 : Option Addr} {ns1 : Nat} {cs1 : Nat} {as2 : Option Addr} {ns2 : Nat} {cs2 : Nat} (hs1 : SlR (Rp.int .i64) F as1 ns1 cs1 f1.P.Digits) (hs2 : SlR (Rp.int .i64) F as2 ns2 cs2 f1.Q.Digits) :
  Calls Tryz.prog 36 #[.agg #[.int .i64 f1.P.Sign, .slice as1 ns1 cs1, .int .i64 f1.Q.Sign, .slice as2 ns2 cs2]] w fun e w' => ∃ v F' O', e = .returned v ∧ HS F w [] F' O' w' ∧ (v = .int .i64 r ∧ O' = []) := by
 unfold a8f at hm
 have h := HS.init hs
 refine a0x 9 Tryz.func36 rfl rfl rfl ?_
 refine a0f (a0a ?_)
 refine a2o rfl rfl rfl rfl h ?_
 intro b1 wx1 hx1
 refine a0b rfl rfl rfl (a0c (a0d (a0f (a0f (a0a ?_)))))
 refine a0k ag26 sz26 rfl rfl hx1 rfl (i := 0) rfl rfl ?_
 obtain ⟨v1, hv1, hm⟩ := bind_some hm
 refine a0g ent25 rfl rfl rfl rfl hx1 (a2e _ _ _ hv1 hx1.sat hs1 hs2) ?_
 rintro _ Fx1 _ wx2 hF1 hx2 ⟨rfl, rfl⟩
 refine a2x rfl rfl rfl (a0c (a0d ?_))
 rcases a0i hm with ⟨hb1, hm⟩ | ⟨hb1, hm⟩
 ·refine a0u 5 rfl hb1 ?_
  refine a0z rfl (a0f (a0a (a0b rfl rfl rfl (a0c (a0d (a1d (a0n ?_)))))))
  refine a1p rfl rfl ?_
  obtain rfl := Option.some.inj hm
  exact ⟨_, _, _, rfl, hx2.pick [] (by decide) rfl, rfl, rfl⟩
 refine a0u 5 rfl hb1 ?_
 refine a0s rfl (a1b (a0d (a0f (a0a ?_))))
 refine a0h fa26_0 rfl rfl rfl ?_
 refine a0h fa24_0 rfl rfl rfl ?_
 refine a0t ag3 rfl rfl hx2 rfl (i := 0) rfl rfl ?_
 refine a0b rfl rfl rfl (a0c (a0d (a1d ?_)))
 refine a1p rfl rfl ?_
 obtain rfl := Option.some.inj hm
 exact ⟨_, _, _, rfl, hx2.pick [] (by decide) rfl, rfl, rfl⟩
theorem ent69 : Ent Tryz.prog 69 := fun _ _ => by kernel_rfl
def a5f (n : Nat) (ax1 : Frac) (b1 : Frac) : Option Int :=
 (a2n n ax1).bind fun v1 =>
 (bif !v1 then
  some true
 else
  (a2n n b1).bind fun v6 =>
  some (!v6)).bind fun v2 =>
 bif v2 then
  some 0
 else
  (a3q n ax1.P b1.Q).bind fun v3 =>
  (a3q n b1.P ax1.Q).bind fun v4 =>
  (b0a n v3 v4).bind fun v5 =>
  some v5
set_option maxHeartbeats 1000000 in
set_option maxRecDepth 1000000 in
theorem a9t (n : Nat) (ax1 : Frac) (b1 : Frac) (r : Int) (hm : a5f n ax1 b1 = some r) {w : World} {F : Frz} (hs : Sat F w) {as1 : Option Addr} {ns1 : Nat} {cs1 : Nat} {as2 : Option Addr} {ns2 : Nat} {cs2 : Nat} {as3 : Option Addr} {ns3 : Nat} {cs3 : Nat} {as4 : Option Addr} {ns4 : Nat} {cs4 : Nat} (hs1 : SlR (Rp.int .i64) F as1 ns1 cs1 ax1.P.Digits) (hs2 : SlR (Rp.int .i64) F as2 ns2 cs2 ax1.Q.Digits) (hs3 : SlR (Rp.int .i64) F as3 ns3 cs3 b1.P.Digits) (hs4 : SlR (Rp.int .i64) F as4 ns4 cs4 b1.Q.Digits) :
  Calls Tryz.prog 27 #[.agg #[.int .i64 ax1.P.Sign, .slice as1 ns1 cs1, .int .i64 ax1.Q.Sign, .slice as2 ns2 cs2], .agg #[.int .i64 b1.P.Sign, .slice as3 ns3 cs3, .int .i64 b1.Q.Sign, .slice as4 ns4 cs4]] w fun e w' => ∃ v F' O', e = .returned v ∧ HS F w [] F' O' w' ∧ (v = .int .i64 r ∧ O' = []) := by
 unfold a5f at hm
 have h := HS.init hs
 refine a0x 24 Tryz.func27 rfl rfl rfl ?_
 refine a0f (a0a ?_)
 refine a2o rfl rfl rfl rfl h ?_
 intro b2 wx1 hx1
 refine a2o rfl rfl rfl rfl hx1 ?_
 intro b3 wx2 hx2
 refine a0b rfl rfl rfl (a0c (a0d (a0f (a0f (a0a ?_)))))
 refine a0k ag26 sz26 rfl rfl hx2 rfl (i := 1) rfl rfl ?_
 obtain ⟨v1, hv1, hm⟩ := bind_some hm
 refine a0g ent25 rfl rfl rfl rfl hx2 (a2e _ _ _ hv1 hx2.sat hs1 hs2) ?_
 rintro _ Fx1 _ wx3 hF1 hx3 ⟨rfl, rfl⟩
 refine a2x rfl rfl rfl (a0e rfl rfl rfl ?_)
 obtain ⟨v2, hb1, hm⟩ := bind_some hm
 refine a2k 4 (fun a w' => ∃ (Fx2 : Frz), Frz.le Fx1 Fx2 ∧ HS F w [] Fx2 [.box b3 26 [.int .i64 b1.P.Sign, .slice as3 ns3 cs3, .int .i64 b1.Q.Sign, .slice as4 ns4 cs4], .box b2 26 [.int .i64 ax1.P.Sign, .slice as1 ns1 cs1, .int .i64 ax1.Q.Sign, .slice as2 ns2 cs2]] w' ∧ Has 24 a [(2, .pointer (some ⟨b2, 0, none⟩)), (3, .pointer (some ⟨b3, 0, none⟩)), (12, .bool v2)]) ?_ ?_
 ·rintro a wx4 ⟨Fx2, hF2, hx4, hax1⟩
  refine a1a hax1 ?_
  refine a0c (a0d ?_)
  rcases a0i hm with ⟨hb2, hm⟩ | ⟨hb2, hm⟩
  ·refine a0u 12 rfl hb2 ?_
   refine a0z rfl (a0f (a0a (a0b rfl rfl rfl (a0c (a0d (a1d (a0n ?_)))))))
   refine a1p rfl rfl ?_
   obtain rfl := Option.some.inj hm
   exact ⟨_, _, _, rfl, hx4.pick [] (by decide) rfl, rfl, rfl⟩
  refine a0u 12 rfl hb2 ?_
  refine a0s rfl (a1b (a0d (a0f ?_)))
  refine a2m (SH Fx2 [.box b3 26 [.int .i64 b1.P.Sign, .slice as3 ns3 cs3, .int .i64 b1.Q.Sign, .slice as4 ns4 cs4], .box b2 26 [.int .i64 ax1.P.Sign, .slice as1 ns1 cs1, .int .i64 ax1.Q.Sign, .slice as2 ns2 cs2]]) 12 rfl (by kernel_rfl) hx4 ?_
  intro wx5 hx5
  refine d_tk 0 rfl (by kernel_rfl) rfl rfl rfl rfl (hx5.sh (Frz.refl _) [0, 1] (by decide) rfl) (fun _ _ _ _ _ => a0h fa26_0 rfl rfl rfl (a0c (qq rfl))) ?_
  refine d_tk 1 rfl (by kernel_rfl) rfl rfl rfl rfl (hx5.sh (Frz.refl _) [0, 1] (by decide) rfl) (fun _ _ _ _ hq => a1f (cs' := [.int .i64 ax1.P.Sign, .slice as1 ns1 cs1]) ag24 sz24 rfl rfl hq rfl (i := 1) rfl rfl rfl (a0c (qq rfl))) ?_
  refine d_tk 2 rfl (by kernel_rfl) rfl rfl rfl rfl (hx5.sh (Frz.refl _) [0, 1] (by decide) rfl) (fun _ _ _ _ _ => a0h fa26_1 rfl rfl rfl (a0c (qq rfl))) ?_
  refine d_tk 3 rfl (by kernel_rfl) rfl rfl rfl rfl (hx5.sh (Frz.refl _) [0, 1] (by decide) rfl) (fun _ _ _ _ hq => a1f (cs' := [.int .i64 b1.Q.Sign, .slice as4 ns4 cs4]) ag24 sz24 rfl rfl hq rfl (i := 0) rfl rfl rfl (a0c (qq rfl))) ?_
  refine d_tk 5 rfl (by kernel_rfl) rfl rfl rfl rfl (hx5.sh (Frz.refl _) [0, 1] (by decide) rfl) (fun _ _ _ _ _ => a0h fa26_0 rfl rfl rfl (a0c (qq rfl))) ?_
  refine d_tk 6 rfl (by kernel_rfl) rfl rfl rfl rfl (hx5.sh (Frz.refl _) [0, 1] (by decide) rfl) (fun _ _ _ _ hq => a1f (cs' := [.int .i64 b1.P.Sign, .slice as3 ns3 cs3]) ag24 sz24 rfl rfl hq rfl (i := 0) rfl rfl rfl (a0c (qq rfl))) ?_
  refine d_tk 7 rfl (by kernel_rfl) rfl rfl rfl rfl (hx5.sh (Frz.refl _) [0, 1] (by decide) rfl) (fun _ _ _ _ _ => a0h fa26_1 rfl rfl rfl (a0c (qq rfl))) ?_
  refine d_tk 8 rfl (by kernel_rfl) rfl rfl rfl rfl (hx5.sh (Frz.refl _) [0, 1] (by decide) rfl) (fun _ _ _ _ hq => a1f (cs' := [.int .i64 ax1.Q.Sign, .slice as2 ns2 cs2]) ag24 sz24 rfl rfl hq rfl (i := 1) rfl rfl rfl (a0c (qq rfl))) ?_
  refine a1c 4 rfl (by kernel_rfl) ?_
  obtain ⟨v3, hv2, hm⟩ := bind_some hm
  refine a0g ent52 rfl rfl rfl rfl hx5 (a3o _ _ _ _ hv2 hx5.sat ((hs1.mono hF1).mono hF2) ((hs4.mono hF1).mono hF2)) ?_
  rintro _ Fx3 _ wx6 hF3 hx6 ⟨as5, ns5, cs5, rfl, rfl, hs5⟩
  refine a0w (hx6.sh hF3 [0, 1] (by decide) rfl) ?_
  refine a1c 9 rfl (by kernel_rfl) ?_
  obtain ⟨v4, hv3, hm⟩ := bind_some hm
  refine a0g ent52 rfl rfl rfl rfl hx6 (a3o _ _ _ _ hv3 hx6.sat (((hs3.mono hF1).mono hF2).mono hF3) (((hs2.mono hF1).mono hF2).mono hF3)) ?_
  rintro _ Fx4 _ wx7 hF4 hx7 ⟨as6, ns6, cs6, rfl, rfl, hs6⟩
  refine a0w (hx7.sh (hF3.trans hF4) [0, 1] (by decide) rfl) ?_
  refine a1c 10 rfl (by kernel_rfl) ?_
  obtain ⟨v5, hv4, hm⟩ := bind_some hm
  refine a0g ent69 rfl rfl rfl rfl hx7 (b8w _ _ _ _ hv4 hx7.sat (hs5.mono hF4) hs6) ?_
  rintro _ Fx5 _ wx8 hF5 hx8 ⟨rfl, rfl⟩
  refine a0w (hx8.sh ((hF3.trans hF4).trans hF5) [0, 1] (by decide) rfl) ?_
  refine d_tk 11 rfl (by kernel_rfl) rfl rfl rfl rfl (hx8.sh ((hF3.trans hF4).trans hF5) [0, 1] (by decide) rfl) (fun _ _ _ _ _ => a0b rfl rfl rfl (a0c (qq rfl))) ?_
  refine a3v (by kernel_rfl) ?_
  refine a0d (a1d ?_)
  refine a1p rfl rfl ?_
  obtain rfl := Option.some.inj hm
  exact ⟨_, _, _, rfl, hx8.pick [] (by decide) rfl, rfl, rfl⟩
 clear hm
 rcases a0i hb1 with ⟨hb3, hb1⟩ | ⟨hb3, hb1⟩
 ·refine a1e 8 rfl hb3 ?_
  refine a0r rfl (by decide) rfl (a0r rfl (by decide) rfl (a0r rfl (by decide) rfl (a0m rfl rfl rfl rfl (a0c ?_))))
  refine a0p (fun a ha => ?_)
  cases hb1
  exact ⟨_, Frz.refl _, hx3.pick [0, 1] (by decide) rfl, ha.cut (l := [2, 3, 12]) rfl⟩
 refine a1e 8 rfl hb3 ?_
 refine a0k ag26 sz26 rfl rfl hx3 rfl (i := 0) rfl rfl ?_
 obtain ⟨v6, hv5, hb1⟩ := bind_some hb1
 refine a0g ent25 rfl rfl rfl rfl hx3 (a2e _ _ _ hv5 hx3.sat (hs3.mono hF1) (hs4.mono hF1)) ?_
 rintro _ Fx6 _ wx9 hF6 hx9 ⟨rfl, rfl⟩
 refine a2x rfl rfl rfl (a0l rfl rfl rfl rfl (a0c ?_))
 refine a0p (fun a ha => ?_)
 cases hb1
 exact ⟨_, hF6, hx9.pick [0, 1] (by decide) rfl, ha.cut (l := [2, 3, 12]) rfl⟩
theorem ent27 : Ent Tryz.prog 27 := fun _ _ => by kernel_rfl
def a6v (n : Nat) (ax1 : Frac) (b1 : Frac) (sign1 : Int) : Option (Frac × Int) :=
 (a2n n ax1).bind fun v1 =>
 (bif !v1 then
  some true
 else
  (a2n n b1).bind fun v6 =>
  some (!v6)).bind fun v2 =>
 bif v2 then
  some ((⟨(⟨0, []⟩ : Big), (⟨0, []⟩ : Big)⟩ : Frac), 1)
 else
  (a5f n ax1 b1).bind fun v3 =>
  (bif decide ((imul .i64 v3 sign1) < 0) then
   some (b1.P.Sign, b1.P.Digits, b1.Q.Sign, b1.Q.Digits)
  else
   some (ax1.P.Sign, ax1.P.Digits, ax1.Q.Sign, ax1.Q.Digits)).bind fun (f1, f2, f3, f4) =>
  (b0m n (⟨f1, f2⟩ : Big)).bind fun v4 =>
  (b0m n (⟨f3, f4⟩ : Big)).bind fun v5 =>
  some ((⟨v4, v5⟩ : Frac), 0)
set_option maxHeartbeats 1000000 in
set_option maxRecDepth 1000000 in
theorem b4b (n : Nat) (ax1 : Frac) (b1 : Frac) (sign1 : Int) (r : (Frac × Int)) (hm : a6v n ax1 b1 sign1 = some r) {w : World} {F : Frz} (hs : Sat F w) {as1 : Option Addr} {ns1 : Nat} {cs1 : Nat} {as2 : Option Addr} {ns2 : Nat} {cs2 : Nat} {as3 : Option Addr} {ns3 : Nat} {cs3 : Nat} {as4 : Option Addr} {ns4 : Nat} {cs4 : Nat} (hs1 : SlR (Rp.int .i64) F as1 ns1 cs1 ax1.P.Digits) (hs2 : SlR (Rp.int .i64) F as2 ns2 cs2 ax1.Q.Digits) (hs3 : SlR (Rp.int .i64) F as3 ns3 cs3 b1.P.Digits) (hs4 : SlR (Rp.int .i64) F as4 ns4 cs4 b1.Q.Digits) :
  Calls Tryz.prog 71 #[.agg #[.int .i64 ax1.P.Sign, .slice as1 ns1 cs1, .int .i64 ax1.Q.Sign, .slice as2 ns2 cs2], .agg #[.int .i64 b1.P.Sign, .slice as3 ns3 cs3, .int .i64 b1.Q.Sign, .slice as4 ns4 cs4], .int .i64 sign1] w fun e w' => ∃ v F' O', e = .returned v ∧ HS F w [] F' O' w' ∧ (∃ (a0_1 : Option Addr) (n0_1 : Nat) (c0_1 : Nat) (a0_3 : Option Addr) (n0_3 : Nat) (c0_3 : Nat), v = .tuple #[.agg #[.int .i64 r.1.P.Sign, .slice a0_1 n0_1 c0_1, .int .i64 r.1.Q.Sign, .slice a0_3 n0_3 c0_3], .int .i64 r.2] ∧ O' = [] ∧ SlR (Rp.int .i64) F' a0_1 n0_1 c0_1 r.1.P.Digits ∧ SlR (Rp.int .i64) F' a0_3 n0_3 c0_3 r.1.Q.Digits) := by
 unfold a6v at hm
 have h := HS.init hs
 refine a0x 31 Tryz.func71 rfl rfl rfl ?_
 refine a0f (a0a ?_)
 refine a2o rfl rfl rfl rfl h ?_
 intro b2 wx1 hx1
 refine a2o rfl rfl rfl rfl hx1 ?_
 intro b3 wx2 hx2
 refine a0y ze26 rfl rfl rfl hx2 ?_
 intro b4 wx3 hx3
 refine a0b rfl rfl rfl (a0c (a0d (a0f (a0f (a0a ?_)))))
 refine a0k ag26 sz26 rfl rfl hx3 rfl (i := 2) rfl rfl ?_
 obtain ⟨v1, hv1, hm⟩ := bind_some hm
 refine a0g ent25 rfl rfl rfl rfl hx3 (a2e _ _ _ hv1 hx3.sat hs1 hs2) ?_
 rintro _ Fx1 _ wx4 hF1 hx4 ⟨rfl, rfl⟩
 refine a2x rfl rfl rfl (a0e rfl rfl rfl ?_)
 obtain ⟨v2, hb1, hm⟩ := bind_some hm
 refine a2k 4 (fun a w' => ∃ (Fx2 : Frz), Frz.le Fx1 Fx2 ∧ HS F w [] Fx2 [.box b4 26 [.int .i64 0, .slice none 0 0, .int .i64 0, .slice none 0 0], .box b3 26 [.int .i64 b1.P.Sign, .slice as3 ns3 cs3, .int .i64 b1.Q.Sign, .slice as4 ns4 cs4], .box b2 26 [.int .i64 ax1.P.Sign, .slice as1 ns1 cs1, .int .i64 ax1.Q.Sign, .slice as2 ns2 cs2]] w' ∧ Has 31 a [(2, .int .i64 sign1), (3, .pointer (some ⟨b2, 0, none⟩)), (4, .pointer (some ⟨b3, 0, none⟩)), (6, .pointer (some ⟨b4, 0, none⟩)), (15, .bool v2)]) ?_ ?_
 ·rintro a wx5 ⟨Fx2, hF2, hx5, hax1⟩
  refine a1a hax1 ?_
  refine a0c (a0d ?_)
  rcases a0i hm with ⟨hb2, hm⟩ | ⟨hb2, hm⟩
  ·refine a0u 15 rfl hb2 ?_
   refine a0z rfl (a0f (a0a ?_))
   refine a1r (v := .agg #[.int .i64 0, .slice none 0 0, .int .i64 0, .slice none 0 0]) rfl rfl rfl (fun _ => by kernel_rfl) ?_
   refine a0o sz26 rfl hx5 rfl rfl rfl rfl (i := 0) rfl rfl rfl rfl ?_
   intro wx6 hx6
   refine a0b rfl rfl rfl (a0c (a0d (a1d (a0n ?_))))
   refine a1k (vl := [.agg #[.int .i64 0, .slice none 0 0, .int .i64 0, .slice none 0 0], .int .i64 1]) rfl ⟨a1q ag26 sz26 rfl hx6 rfl (i := 0) rfl, a1w rfl, trivial⟩ (by simp) ?_
   obtain rfl := Option.some.inj hm
   exact ⟨_, _, _, rfl, hx6.pick [] (by decide) rfl, none, 0, 0, none, 0, 0, rfl, rfl, SlR.nil _ _, SlR.nil _ _⟩
  refine a0u 15 rfl hb2 ?_
  refine a0s rfl (a1b (a0d (a0f (a0f (a0a ?_)))))
  refine a0k ag26 sz26 rfl rfl hx5 rfl (i := 2) rfl rfl ?_
  refine a0k ag26 sz26 rfl rfl hx5 rfl (i := 1) rfl rfl ?_
  obtain ⟨v3, hv2, hm⟩ := bind_some hm
  refine a0g ent27 rfl rfl rfl rfl hx5 (a9t _ _ _ _ hv2 hx5.sat ((hs1.mono hF1).mono hF2) ((hs2.mono hF1).mono hF2) ((hs3.mono hF1).mono hF2) ((hs4.mono hF1).mono hF2)) ?_
  rintro _ Fx3 _ wx7 hF3 hx7 ⟨rfl, rfl⟩
  refine a0e rfl rfl rfl ?_
  refine a0v rfl rfl rfl rfl rfl ?_
  refine a0v rfl rfl rfl rfl rfl ?_
  refine a0c (a0d ?_)
  obtain ⟨⟨f1, f2, f3, f4⟩, hb3, hm⟩ := bind_some hm
  refine b0q (fun a w' => ∃ (Fx4 : Frz) (as5 : Option Addr) (ns5 : Nat) (cs5 : Nat) (as6 : Option Addr) (ns6 : Nat) (cs6 : Nat), Frz.le Fx3 Fx4 ∧ HS F w [] Fx4 [.box b4 26 [.int .i64 0, .slice none 0 0, .int .i64 0, .slice none 0 0], .box b3 26 [.int .i64 b1.P.Sign, .slice as3 ns3 cs3, .int .i64 b1.Q.Sign, .slice as4 ns4 cs4], .box b2 26 [.int .i64 f1, .slice as5 ns5 cs5, .int .i64 f3, .slice as6 ns6 cs6]] w' ∧ (SlR (Rp.int .i64) Fx4 as5 ns5 cs5 f2) ∧ (SlR (Rp.int .i64) Fx4 as6 ns6 cs6 f4) ∧ Has 31 a [(3, .pointer (some ⟨b2, 0, none⟩)), (6, .pointer (some ⟨b4, 0, none⟩))]) ?_ ?_
  ·rintro a wx8 ⟨Fx4, as5, ns5, cs5, as6, ns6, cs6, hF4, hx8, hs5, hs6, hax2⟩
   refine a1l hax2 ?_
   refine a0f ?_
   refine a2m (SH Fx4 [.box b3 26 [.int .i64 b1.P.Sign, .slice as3 ns3 cs3, .int .i64 b1.Q.Sign, .slice as4 ns4 cs4], .box b2 26 [.int .i64 f1, .slice as5 ns5 cs5, .int .i64 f3, .slice as6 ns6 cs6]]) 9 rfl (by kernel_rfl) hx8 ?_
   intro wx9 hx9
   refine d_tk 0 rfl (by kernel_rfl) rfl rfl rfl rfl (hx9.sh (Frz.refl _) [1, 2] (by decide) rfl) (fun _ _ _ _ _ => a0h fa26_0 rfl rfl rfl (a0c (qq rfl))) ?_
   refine d_tk 1 rfl (by kernel_rfl) rfl rfl rfl rfl (hx9.sh (Frz.refl _) [1, 2] (by decide) rfl) (fun _ _ _ _ hq => a1f (cs' := [.int .i64 f1, .slice as5 ns5 cs5]) ag24 sz24 rfl rfl hq rfl (i := 1) rfl rfl rfl (a0c (qq rfl))) ?_
   refine d_tk 3 rfl (by kernel_rfl) rfl rfl rfl rfl (hx9.sh (Frz.refl _) [1, 2] (by decide) rfl) (fun _ _ _ _ _ => a0h fa26_1 rfl rfl rfl (a0c (qq rfl))) ?_
   refine d_tk 4 rfl (by kernel_rfl) rfl rfl rfl rfl (hx9.sh (Frz.refl _) [1, 2] (by decide) rfl) (fun _ _ _ _ hq => a1f (cs' := [.int .i64 f3, .slice as6 ns6 cs6]) ag24 sz24 rfl rfl hq rfl (i := 1) rfl rfl rfl (a0c (qq rfl))) ?_
   refine a1c 2 rfl (by kernel_rfl) ?_
   obtain ⟨v4, hv3, hm⟩ := bind_some hm
   refine a0g ent72 rfl rfl rfl rfl hx9 (b3d _ _ _ hv3 hx9.sat hs5) ?_
   rintro _ Fx5 _ wx10 hF5 hx10 ⟨as7, ns7, cs7, rfl, rfl, hs7⟩
   refine a0w (hx10.sh hF5 [1, 2] (by decide) rfl) ?_
   refine a1c 5 rfl (by kernel_rfl) ?_
   obtain ⟨v5, hv4, hm⟩ := bind_some hm
   refine a0g ent72 rfl rfl rfl rfl hx10 (b3d _ _ _ hv4 hx10.sat (hs6.mono hF5)) ?_
   rintro _ Fx6 _ wx11 hF6 hx11 ⟨as8, ns8, cs8, rfl, rfl, hs8⟩
   refine a0w (hx11.sh (hF5.trans hF6) [1, 2] (by decide) rfl) ?_
   refine d_tk 6 rfl (by kernel_rfl) rfl rfl rfl rfl (hx11.sh (hF5.trans hF6) [1, 2] (by decide) rfl) (fun _ _ _ _ _ => a1r (v := .agg #[.int .i64 v4.Sign, .slice as7 ns7 cs7, .int .i64 v5.Sign, .slice as8 ns8 cs8]) rfl rfl rfl (fun _ => by kernel_rfl) (a0c (qq rfl))) ?_
   refine a1c 7 rfl (by kernel_rfl) ?_
   refine a0o sz26 rfl hx11 rfl rfl rfl rfl (i := 0) rfl rfl rfl rfl ?_
   intro wx12 hx12
   refine a0w (hx12.sh (hF5.trans hF6) [1, 2] (by decide) rfl) ?_
   refine d_tk 8 rfl (by kernel_rfl) rfl rfl rfl rfl (hx12.sh (hF5.trans hF6) [1, 2] (by decide) rfl) (fun _ _ _ _ _ => a0b rfl rfl rfl (a0c (qq rfl))) ?_
   refine a3v (by kernel_rfl) ?_
   refine a0d (a1d ?_)
   refine a1k (vl := [.agg #[.int .i64 v4.Sign, .slice as7 ns7 cs7, .int .i64 v5.Sign, .slice as8 ns8 cs8], .int .i64 0]) rfl ⟨a1q ag26 sz26 rfl hx12 rfl (i := 0) rfl, a1w rfl, trivial⟩ (by simp) ?_
   obtain rfl := Option.some.inj hm
   exact ⟨_, _, _, rfl, hx12.pick [] (by decide) rfl, as7, ns7, cs7, as8, ns8, cs8, rfl, rfl, (hs7.mono hF6), hs8⟩
  clear hm
  rcases a0i hb3 with ⟨hb4, hb3⟩ | ⟨hb4, hb3⟩
  ·refine a0u 22 rfl hb4 ?_
   refine a0z rfl (a0a ?_)
   refine a0k ag26 sz26 rfl rfl hx7 rfl (i := 1) rfl rfl ?_
   refine a0o sz26 rfl hx7 rfl rfl rfl rfl (i := 2) rfl rfl rfl rfl ?_
   intro wx13 hx13
   refine a0c ?_
   refine a0p (fun a ha => ?_)
   cases hb3
   exact ⟨_, as3, ns3, cs3, as4, ns4, cs4, Frz.refl _, hx13.pick [0, 1, 2] (by decide) rfl, (((hs3.mono hF1).mono hF2).mono hF3), (((hs4.mono hF1).mono hF2).mono hF3), ha.cut (l := [3, 6]) rfl⟩
  refine a0u 22 rfl hb4 ?_
  refine a0s rfl (a1b ?_)
  refine a0p (fun a ha => ?_)
  cases hb3
  exact ⟨_, as1, ns1, cs1, as2, ns2, cs2, Frz.refl _, hx7.pick [0, 1, 2] (by decide) rfl, (((hs1.mono hF1).mono hF2).mono hF3), (((hs2.mono hF1).mono hF2).mono hF3), ha.cut (l := [3, 6]) rfl⟩
 clear hm
 rcases a0i hb1 with ⟨hb5, hb1⟩ | ⟨hb5, hb1⟩
 ·refine a1e 11 rfl hb5 ?_
  refine a0r rfl (by decide) rfl (a0r rfl (by decide) rfl (a0r rfl (by decide) rfl (a0m rfl rfl rfl rfl (a0c ?_))))
  refine a0p (fun a ha => ?_)
  cases hb1
  exact ⟨_, Frz.refl _, hx4.pick [0, 1, 2] (by decide) rfl, ha.cut (l := [2, 3, 4, 6, 15]) rfl⟩
 refine a1e 11 rfl hb5 ?_
 refine a0k ag26 sz26 rfl rfl hx4 rfl (i := 1) rfl rfl ?_
 obtain ⟨v6, hv5, hb1⟩ := bind_some hb1
 refine a0g ent25 rfl rfl rfl rfl hx4 (a2e _ _ _ hv5 hx4.sat (hs3.mono hF1) (hs4.mono hF1)) ?_
 rintro _ Fx7 _ wx14 hF7 hx14 ⟨rfl, rfl⟩
 refine a2x rfl rfl rfl (a0l rfl rfl rfl rfl (a0c ?_))
 refine a0p (fun a ha => ?_)
 cases hb1
 exact ⟨_, hF7, hx14.pick [0, 1, 2] (by decide) rfl, ha.cut (l := [2, 3, 4, 6, 15]) rfl⟩
theorem ent71 : Ent Tryz.prog 71 := fun _ _ => by kernel_rfl
def b1a (n : Nat) (ax1 : Frac) (b1 : Frac) : Option (Frac × Int) :=
 (a6v n ax1 b1 (-1)).bind fun v1 =>
 some (v1.1, v1.2)
set_option maxHeartbeats 1000000 in
set_option maxRecDepth 1000000 in
theorem b8g (n : Nat) (ax1 : Frac) (b1 : Frac) (r : (Frac × Int)) (hm : b1a n ax1 b1 = some r) {w : World} {F : Frz} (hs : Sat F w) {as1 : Option Addr} {ns1 : Nat} {cs1 : Nat} {as2 : Option Addr} {ns2 : Nat} {cs2 : Nat} {as3 : Option Addr} {ns3 : Nat} {cs3 : Nat} {as4 : Option Addr} {ns4 : Nat} {cs4 : Nat} (hs1 : SlR (Rp.int .i64) F as1 ns1 cs1 ax1.P.Digits) (hs2 : SlR (Rp.int .i64) F as2 ns2 cs2 ax1.Q.Digits) (hs3 : SlR (Rp.int .i64) F as3 ns3 cs3 b1.P.Digits) (hs4 : SlR (Rp.int .i64) F as4 ns4 cs4 b1.Q.Digits) :
  Calls Tryz.prog 30 #[.agg #[.int .i64 ax1.P.Sign, .slice as1 ns1 cs1, .int .i64 ax1.Q.Sign, .slice as2 ns2 cs2], .agg #[.int .i64 b1.P.Sign, .slice as3 ns3 cs3, .int .i64 b1.Q.Sign, .slice as4 ns4 cs4]] w fun e w' => ∃ v F' O', e = .returned v ∧ HS F w [] F' O' w' ∧ (∃ (a0_1 : Option Addr) (n0_1 : Nat) (c0_1 : Nat) (a0_3 : Option Addr) (n0_3 : Nat) (c0_3 : Nat), v = .tuple #[.agg #[.int .i64 r.1.P.Sign, .slice a0_1 n0_1 c0_1, .int .i64 r.1.Q.Sign, .slice a0_3 n0_3 c0_3], .int .i64 r.2] ∧ O' = [] ∧ SlR (Rp.int .i64) F' a0_1 n0_1 c0_1 r.1.P.Digits ∧ SlR (Rp.int .i64) F' a0_3 n0_3 c0_3 r.1.Q.Digits) := by
 unfold b1a at hm
 have h := HS.init hs
 refine a0x 11 Tryz.func30 rfl rfl rfl ?_
 refine a0f (a0a ?_)
 refine a2o rfl rfl rfl rfl h ?_
 intro b2 wx1 hx1
 refine a2o rfl rfl rfl rfl hx1 ?_
 intro b3 wx2 hx2
 refine a0y ze26 rfl rfl rfl hx2 ?_
 intro b4 wx3 hx3
 refine a0b rfl rfl rfl (a0c (a0d (a0f (a0a ?_))))
 refine a0k ag26 sz26 rfl rfl hx3 rfl (i := 2) rfl rfl ?_
 refine a0k ag26 sz26 rfl rfl hx3 rfl (i := 1) rfl rfl ?_
 obtain ⟨v1, hv1, hm⟩ := bind_some hm
 refine a0g ent71 rfl rfl rfl rfl hx3 (b4b _ _ _ _ _ hv1 hx3.sat hs1 hs2 hs3 hs4) ?_
 rintro _ Fx1 _ wx4 hF1 hx4 ⟨as5, ns5, cs5, as6, ns6, cs6, rfl, rfl, hs5, hs6⟩
 refine a0j rfl rfl rfl rfl (a0j rfl rfl rfl rfl ?_)
 refine a0o sz26 rfl hx4 rfl rfl rfl rfl (i := 0) rfl rfl rfl rfl ?_
 intro wx5 hx5
 refine a0b rfl rfl rfl (a0c (a0d (a1d ?_)))
 refine a1k (vl := [.agg #[.int .i64 v1.1.P.Sign, .slice as5 ns5 cs5, .int .i64 v1.1.Q.Sign, .slice as6 ns6 cs6], .int .i64 v1.2]) rfl ⟨a1q ag26 sz26 rfl hx5 rfl (i := 0) rfl, a1w rfl, trivial⟩ (by simp) ?_
 obtain rfl := Option.some.inj hm
 exact ⟨_, _, _, rfl, hx5.pick [] (by decide) rfl, as5, ns5, cs5, as6, ns6, cs6, rfl, rfl, hs5, hs6⟩
def b0t (n : Nat) (ax1 : Frac) (b1 : Frac) : Option (Frac × Int) :=
 (a6v n ax1 b1 1).bind fun v1 =>
 some (v1.1, v1.2)
set_option maxHeartbeats 1000000 in
set_option maxRecDepth 1000000 in
theorem b7k (n : Nat) (ax1 : Frac) (b1 : Frac) (r : (Frac × Int)) (hm : b0t n ax1 b1 = some r) {w : World} {F : Frz} (hs : Sat F w) {as1 : Option Addr} {ns1 : Nat} {cs1 : Nat} {as2 : Option Addr} {ns2 : Nat} {cs2 : Nat} {as3 : Option Addr} {ns3 : Nat} {cs3 : Nat} {as4 : Option Addr} {ns4 : Nat} {cs4 : Nat} (hs1 : SlR (Rp.int .i64) F as1 ns1 cs1 ax1.P.Digits) (hs2 : SlR (Rp.int .i64) F as2 ns2 cs2 ax1.Q.Digits) (hs3 : SlR (Rp.int .i64) F as3 ns3 cs3 b1.P.Digits) (hs4 : SlR (Rp.int .i64) F as4 ns4 cs4 b1.Q.Digits) :
  Calls Tryz.prog 32 #[.agg #[.int .i64 ax1.P.Sign, .slice as1 ns1 cs1, .int .i64 ax1.Q.Sign, .slice as2 ns2 cs2], .agg #[.int .i64 b1.P.Sign, .slice as3 ns3 cs3, .int .i64 b1.Q.Sign, .slice as4 ns4 cs4]] w fun e w' => ∃ v F' O', e = .returned v ∧ HS F w [] F' O' w' ∧ (∃ (a0_1 : Option Addr) (n0_1 : Nat) (c0_1 : Nat) (a0_3 : Option Addr) (n0_3 : Nat) (c0_3 : Nat), v = .tuple #[.agg #[.int .i64 r.1.P.Sign, .slice a0_1 n0_1 c0_1, .int .i64 r.1.Q.Sign, .slice a0_3 n0_3 c0_3], .int .i64 r.2] ∧ O' = [] ∧ SlR (Rp.int .i64) F' a0_1 n0_1 c0_1 r.1.P.Digits ∧ SlR (Rp.int .i64) F' a0_3 n0_3 c0_3 r.1.Q.Digits) := by
 unfold b0t at hm
 have h := HS.init hs
 refine a0x 11 Tryz.func32 rfl rfl rfl ?_
 refine a0f (a0a ?_)
 refine a2o rfl rfl rfl rfl h ?_
 intro b2 wx1 hx1
 refine a2o rfl rfl rfl rfl hx1 ?_
 intro b3 wx2 hx2
 refine a0y ze26 rfl rfl rfl hx2 ?_
 intro b4 wx3 hx3
 refine a0b rfl rfl rfl (a0c (a0d (a0f (a0a ?_))))
 refine a0k ag26 sz26 rfl rfl hx3 rfl (i := 2) rfl rfl ?_
 refine a0k ag26 sz26 rfl rfl hx3 rfl (i := 1) rfl rfl ?_
 obtain ⟨v1, hv1, hm⟩ := bind_some hm
 refine a0g ent71 rfl rfl rfl rfl hx3 (b4b _ _ _ _ _ hv1 hx3.sat hs1 hs2 hs3 hs4) ?_
 rintro _ Fx1 _ wx4 hF1 hx4 ⟨as5, ns5, cs5, as6, ns6, cs6, rfl, rfl, hs5, hs6⟩
 refine a0j rfl rfl rfl rfl (a0j rfl rfl rfl rfl ?_)
 refine a0o sz26 rfl hx4 rfl rfl rfl rfl (i := 0) rfl rfl rfl rfl ?_
 intro wx5 hx5
 refine a0b rfl rfl rfl (a0c (a0d (a1d ?_)))
 refine a1k (vl := [.agg #[.int .i64 v1.1.P.Sign, .slice as5 ns5 cs5, .int .i64 v1.1.Q.Sign, .slice as6 ns6 cs6], .int .i64 v1.2]) rfl ⟨a1q ag26 sz26 rfl hx5 rfl (i := 0) rfl, a1w rfl, trivial⟩ (by simp) ?_
 obtain rfl := Option.some.inj hm
 exact ⟨_, _, _, rfl, hx5.pick [] (by decide) rfl, as5, ns5, cs5, as6, ns6, cs6, rfl, rfl, hs5, hs6⟩
def a7r (n : Nat) (f1 : Frac) : Option Big :=
 (a2n n f1).bind fun v1 =>
 bif !v1 then
  some (⟨0, []⟩ : Big)
 else
  (b0g n f1.P f1.Q).bind fun v2 =>
  some v2.1
set_option maxHeartbeats 1000000 in
set_option maxRecDepth 1000000 in
theorem b4y (n : Nat) (f1 : Frac) (r : Big) (hm : a7r n f1 = some r) {w : World} {F : Frz} (hs : Sat F w) {as1 : Option Addr} {ns1 : Nat} {cs1 : Nat} {as2 : Option Addr} {ns2 : Nat} {cs2 : Nat} (hs1 : SlR (Rp.int .i64) F as1 ns1 cs1 f1.P.Digits) (hs2 : SlR (Rp.int .i64) F as2 ns2 cs2 f1.Q.Digits) :
  Calls Tryz.prog 43 #[.agg #[.int .i64 f1.P.Sign, .slice as1 ns1 cs1, .int .i64 f1.Q.Sign, .slice as2 ns2 cs2]] w fun e w' => ∃ v F' O', e = .returned v ∧ HS F w [] F' O' w' ∧ (∃ (a0_1 : Option Addr) (n0_1 : Nat) (c0_1 : Nat), v = .agg #[.int .i64 r.Sign, .slice a0_1 n0_1 c0_1] ∧ O' = [] ∧ SlR (Rp.int .i64) F' a0_1 n0_1 c0_1 r.Digits) := by
 unfold a7r at hm
 have h := HS.init hs
 refine a0x 20 Tryz.func43 rfl rfl rfl ?_
 refine a0f (a0a ?_)
 refine a2o rfl rfl rfl rfl h ?_
 intro b1 wx1 hx1
 refine a0y ze24 rfl rfl rfl hx1 ?_
 intro b2 wx2 hx2
 refine a0c (a0d (a0f (a0f (a0a ?_))))
 refine a0k ag26 sz26 rfl rfl hx2 rfl (i := 1) rfl rfl ?_
 obtain ⟨v1, hv1, hm⟩ := bind_some hm
 refine a0g ent25 rfl rfl rfl rfl hx2 (a2e _ _ _ hv1 hx2.sat hs1 hs2) ?_
 rintro _ Fx1 _ wx3 hF1 hx3 ⟨rfl, rfl⟩
 refine a2x rfl rfl rfl (a0c (a0d ?_))
 rcases a0i hm with ⟨hb1, hm⟩ | ⟨hb1, hm⟩
 ·refine a0u 8 rfl hb1 ?_
  refine a0z rfl (a0f (a0a ?_))
  refine a1r (v := .agg #[.int .i64 0, .slice none 0 0]) rfl rfl rfl (fun _ => by kernel_rfl) ?_
  refine a0o sz24 rfl hx3 rfl rfl rfl rfl (i := 0) rfl rfl rfl rfl ?_
  intro wx4 hx4
  refine a0c (a0d (a1d (a0n ?_)))
  refine a6l rfl ag24 sz24 rfl hx4 rfl (i := 0) rfl ?_
  obtain rfl := Option.some.inj hm
  exact ⟨_, _, _, rfl, hx4.pick [] (by decide) rfl, none, 0, 0, rfl, rfl, SlR.nil _ _⟩
 refine a0u 8 rfl hb1 ?_
 refine a0s rfl (a1b (a0d (a0f (a0a ?_))))
 refine a0h fa26_0 rfl rfl rfl ?_
 refine a1f (cs' := [.int .i64 f1.P.Sign, .slice as1 ns1 cs1]) ag24 sz24 rfl rfl hx3 rfl (i := 1) rfl rfl rfl ?_
 refine a0h fa26_1 rfl rfl rfl ?_
 refine a1f (cs' := [.int .i64 f1.Q.Sign, .slice as2 ns2 cs2]) ag24 sz24 rfl rfl hx3 rfl (i := 1) rfl rfl rfl ?_
 obtain ⟨v2, hv2, hm⟩ := bind_some hm
 refine a0g ent62 rfl rfl rfl rfl hx3 (a7a _ _ _ _ hv2 hx3.sat (hs1.mono hF1) (hs2.mono hF1)) ?_
 rintro _ Fx2 _ wx5 hF2 hx5 ⟨as3, ns3, cs3, as4, ns4, cs4, rfl, rfl, hs3, hs4⟩
 refine a0e rfl rfl rfl (a0j rfl rfl rfl rfl (a0j rfl rfl rfl rfl (a0j rfl rfl rfl rfl ?_)))
 refine a0y ze24 rfl rfl rfl hx5 ?_
 intro b3 wx6 hx6
 refine a0y ze24 rfl rfl rfl hx6 ?_
 intro b4 wx7 hx7
 refine a0o sz24 rfl hx7 rfl rfl rfl rfl (i := 1) rfl rfl rfl rfl ?_
 intro wx8 hx8
 refine a0o sz24 rfl hx8 rfl rfl rfl rfl (i := 0) rfl rfl rfl rfl ?_
 intro wx9 hx9
 refine a0b rfl rfl rfl (a0c (a0d (a0f (a0a ?_))))
 refine a0k ag24 sz24 rfl rfl hx9 rfl (i := 1) rfl rfl ?_
 refine a0o sz24 rfl hx9 rfl rfl rfl rfl (i := 2) rfl rfl rfl rfl ?_
 intro wx10 hx10
 refine a0c (a0d (a1d ?_))
 refine a6l rfl ag24 sz24 rfl hx10 rfl (i := 2) rfl ?_
 obtain rfl := Option.some.inj hm
 exact ⟨_, _, _, rfl, hx10.pick [] (by decide) rfl, as3, ns3, cs3, rfl, rfl, hs3⟩
theorem ent73 : Ent Tryz.prog 73 := fun _ _ => by kernel_rfl
def a5e (n : Nat) (f1 : Frac) : Option Bs :=
 (a2n n f1).bind fun v1 =>
 bif !v1 then
  some []
 else
  (b3u n f1.P).bind fun v2 =>
  (scat v2 [47]).bind fun t1 =>
  (b3u n f1.Q).bind fun v3 =>
  (scat t1 v3).bind fun t2 =>
  some t2
set_option maxHeartbeats 1000000 in
set_option maxRecDepth 1000000 in
theorem a5y (n : Nat) (f1 : Frac) (r : Bs) (hm : a5e n f1 = some r) {w : World} {F : Frz} (hs : Sat F w) {as1 : Option Addr} {ns1 : Nat} {cs1 : Nat} {as2 : Option Addr} {ns2 : Nat} {cs2 : Nat} (hs1 : SlR (Rp.int .i64) F as1 ns1 cs1 f1.P.Digits) (hs2 : SlR (Rp.int .i64) F as2 ns2 cs2 f1.Q.Digits) (hg3 : FX F 3 (Lib.pow10Tab.map (Value.int .u64))) :
  Calls Tryz.prog 40 #[.agg #[.int .i64 f1.P.Sign, .slice as1 ns1 cs1, .int .i64 f1.Q.Sign, .slice as2 ns2 cs2]] w fun e w' => ∃ v F' O', e = .returned v ∧ HS F w [] F' O' w' ∧ (v = vs r ∧ O' = []) := by
 unfold a5e at hm
 have h := HS.init hs
 refine a0x 14 Tryz.func40 rfl rfl rfl ?_
 refine a0f (a0a ?_)
 refine a2o rfl rfl rfl rfl h ?_
 intro b1 wx1 hx1
 refine a0b rfl rfl rfl (a0c (a0d (a0f (a0f (a0a ?_)))))
 refine a0k ag26 sz26 rfl rfl hx1 rfl (i := 0) rfl rfl ?_
 obtain ⟨v1, hv1, hm⟩ := bind_some hm
 refine a0g ent25 rfl rfl rfl rfl hx1 (a2e _ _ _ hv1 hx1.sat hs1 hs2) ?_
 rintro _ Fx1 _ wx2 hF1 hx2 ⟨rfl, rfl⟩
 refine a2x rfl rfl rfl (a0c (a0d ?_))
 rcases a0i hm with ⟨hb1, hm⟩ | ⟨hb1, hm⟩
 ·refine a0u 5 rfl hb1 ?_
  refine a0z rfl (a0f (a0a (a0b rfl rfl rfl (a0c (a0d (a1d (a0n ?_)))))))
  refine a1p rfl rfl ?_
  obtain rfl := Option.some.inj hm
  exact ⟨_, _, _, rfl, hx2.pick [] (by decide) rfl, rfl, rfl⟩
 refine a0u 5 rfl hb1 ?_
 refine a0s rfl (a1b (a0d (a0f ?_)))
 refine a4s (by kernel_rfl) (by kernel_rfl) hx2 ?_
 refine a1h rfl rfl rfl rfl (fun _ _ _ _ => a0h fa26_0 rfl rfl rfl (a0c (qq rfl))) ?_
 refine a1h rfl rfl rfl rfl (fun _ _ _ hq => a1f (cs' := [.int .i64 f1.P.Sign, .slice as1 ns1 cs1]) ag24 sz24 rfl rfl hq rfl (i := 0) rfl rfl rfl (a0c (qq rfl))) ?_
 obtain ⟨v2, hv2, hm⟩ := bind_some hm
 refine a7k ent73 rfl rfl rfl rfl (fun _ _ hleq hq => b7q _ _ _ hv2 hq.sat ((hs1.mono hF1).mono hleq) ((hg3.mono hF1).mono hleq)) ?_
 obtain ⟨t1, hq1, hm⟩ := bind_some hm
 refine a1h rfl rfl rfl rfl (fun _ _ _ _ => c1k rfl rfl rfl rfl hq1 (a0c (qq rfl))) ?_
 refine a1h rfl rfl rfl rfl (fun _ _ _ _ => a0h fa26_1 rfl rfl rfl (a0c (qq rfl))) ?_
 refine a1h rfl rfl rfl rfl (fun _ _ _ hq => a1f (cs' := [.int .i64 f1.Q.Sign, .slice as2 ns2 cs2]) ag24 sz24 rfl rfl hq rfl (i := 0) rfl rfl rfl (a0c (qq rfl))) ?_
 obtain ⟨v3, hv3, hm⟩ := bind_some hm
 refine a7k ent73 rfl rfl rfl rfl (fun _ _ hleq hq => b7q _ _ _ hv3 hq.sat ((hs2.mono hF1).mono hleq) ((hg3.mono hF1).mono hleq)) ?_
 obtain ⟨t2, hq2, hm⟩ := bind_some hm
 refine a1h rfl rfl rfl rfl (fun _ _ _ _ => c1k rfl rfl rfl rfl hq2 (a0c (qq rfl))) ?_
 refine a1h rfl rfl rfl rfl (fun _ _ _ _ => a0b rfl rfl rfl (a0c (qq rfl))) ?_
 refine b3x ?_
 rintro wx3 ⟨Fx2, hF2, hx3⟩
 refine a0d (a1d ?_)
 refine a1p rfl rfl ?_
 obtain rfl := Option.some.inj hm
 exact ⟨_, _, _, rfl, hx3.pick [] (by decide) rfl, rfl, rfl⟩
theorem ent57 : Ent Tryz.prog 57 := fun _ _ => by kernel_rfl
theorem ent58 : Ent Tryz.prog 58 := fun _ _ => by kernel_rfl
theorem ent40 : Ent Tryz.prog 40 := fun _ _ => by kernel_rfl
def b0n (n : Nat) (s1 : Bs) : Option (Frac × Int) :=
 (strings_Cut n s1).bind fun v1 =>
 (a6m n v1.1).bind fun v2 =>
 (a6m n v1.2.1).bind fun v3 =>
 (bif v2.2 == 0 then
  some (v3.2 == 0)
 else
  some false).bind fun v4 =>
 (bif v4 then
  (a2n n (⟨v2.1, v3.1⟩ : Frac)).bind fun v8 =>
  some v8
 else
  some false).bind fun v5 =>
 (bif v5 then
  (a5e n (⟨v2.1, v3.1⟩ : Frac)).bind fun v7 =>
  some (v7 == s1)
 else
  some false).bind fun v6 =>
 bif v6 then
  some ((⟨v2.1, v3.1⟩ : Frac), 0)
 else
  some ((⟨(⟨0, []⟩ : Big), (⟨0, []⟩ : Big)⟩ : Frac), 2)
set_option maxHeartbeats 1000000 in
set_option maxRecDepth 1000000 in
theorem b2l (n : Nat) (s1 : Bs) (r : (Frac × Int)) (hm : b0n n s1 = some r) {w : World} {F : Frz} (hs : Sat F w) (hg3 : FX F 3 (Lib.pow10Tab.map (Value.int .u64))) :
  Calls Tryz.prog 21 #[vs s1] w fun e w' => ∃ v F' O', e = .returned v ∧ HS F w [] F' O' w' ∧ (∃ (a0_1 : Option Addr) (n0_1 : Nat) (c0_1 : Nat) (a0_3 : Option Addr) (n0_3 : Nat) (c0_3 : Nat), v = .tuple #[.agg #[.int .i64 r.1.P.Sign, .slice a0_1 n0_1 c0_1, .int .i64 r.1.Q.Sign, .slice a0_3 n0_3 c0_3], .int .i64 r.2] ∧ O' = [] ∧ SlR (Rp.int .i64) F' a0_1 n0_1 c0_1 r.1.P.Digits ∧ SlR (Rp.int .i64) F' a0_3 n0_3 c0_3 r.1.Q.Digits) := by
 unfold b0n at hm
 have h := HS.init hs
 refine a0x 49 Tryz.func21 rfl rfl rfl ?_
 refine a0f (a0a ?_)
 refine a0y ze26 rfl rfl rfl h ?_
 intro b1 wx1 hx1
 refine a0b rfl rfl rfl (a0c (a0d (a0f (a0a (a0e rfl rfl rfl ?_)))))
 obtain ⟨v1, hv1, hm⟩ := bind_some hm
 refine a0g ent57 rfl rfl rfl rfl hx1 (b8x _ _ _ hv1 hx1.sat) ?_
 rintro _ Fx1 _ wx2 hF1 hx2 ⟨rfl, rfl⟩
 refine a0e rfl rfl rfl (a0j rfl rfl rfl rfl (a0j rfl rfl rfl rfl (a0j rfl rfl rfl rfl (a0b rfl rfl rfl (a0b rfl rfl rfl (a0b rfl rfl rfl (a0c (a0d (a0f (a0a (a0e rfl rfl rfl ?_)))))))))))
 obtain ⟨v2, hv2, hm⟩ := bind_some hm
 refine a0g ent58 rfl rfl rfl rfl hx2 (b6w _ _ _ hv2 hx2.sat) ?_
 rintro _ Fx2 _ wx3 hF2 hx3 ⟨as2, ns2, cs2, rfl, rfl, hs2⟩
 refine a0e rfl rfl rfl (a0j rfl rfl rfl rfl (a0j rfl rfl rfl rfl ?_))
 refine a0y ze24 rfl rfl rfl hx3 ?_
 intro b2 wx4 hx4
 refine a0o sz24 rfl hx4 rfl rfl rfl rfl (i := 0) rfl rfl rfl rfl ?_
 intro wx5 hx5
 refine a0b rfl rfl rfl (a0c (a0d (a0f (a0a (a0e rfl rfl rfl ?_)))))
 obtain ⟨v3, hv3, hm⟩ := bind_some hm
 refine a0g ent58 rfl rfl rfl rfl hx5 (b6w _ _ _ hv3 hx5.sat) ?_
 rintro _ Fx3 _ wx6 hF3 hx6 ⟨as3, ns3, cs3, rfl, rfl, hs3⟩
 refine a0e rfl rfl rfl (a0j rfl rfl rfl rfl (a0j rfl rfl rfl rfl ?_))
 refine a0y ze24 rfl rfl rfl hx6 ?_
 intro b3 wx7 hx7
 refine a0o sz24 rfl hx7 rfl rfl rfl rfl (i := 0) rfl rfl rfl rfl ?_
 intro wx8 hx8
 refine a0b rfl rfl rfl (a0c (a0d (a0f (a0f (a0a ?_)))))
 refine a0k ag24 sz24 rfl rfl hx8 rfl (i := 1) rfl rfl ?_
 refine a0k ag24 sz24 rfl rfl hx8 rfl (i := 0) rfl rfl ?_
 refine a1r (v := .agg #[.int .i64 v2.1.Sign, .slice as2 ns2 cs2, .int .i64 v3.1.Sign, .slice as3 ns3 cs3]) rfl rfl rfl (fun _ => by kernel_rfl) ?_
 refine a0y ze26 rfl rfl rfl hx8 ?_
 intro b4 wx9 hx9
 refine a0o sz26 rfl hx9 rfl rfl rfl rfl (i := 0) rfl rfl rfl rfl ?_
 intro wx10 hx10
 refine a0c (a0d (a0f (a0a (a0e rfl rfl rfl ?_))))
 refine a0v rfl rfl rfl rfl rfl ?_
 refine a0e rfl rfl rfl ?_
 obtain ⟨v4, hb1, hm⟩ := bind_some hm
 refine a2k 3 (fun a w' => wx10 = w' ∧ Has 49 a [(0, vs s1), (2, .pointer (some ⟨b1, 0, none⟩)), (11, .pointer (some ⟨b4, 0, none⟩)), (36, .bool v4)]) ?_ ?_
 ·rintro a wx11 ⟨rfl, hax1⟩
  refine a1a hax1 ?_
  refine a0e rfl rfl rfl ?_
  obtain ⟨v5, hb2, hm⟩ := bind_some hm
  refine a2k 3 (fun a w' => ∃ (Fx4 : Frz), Frz.le Fx3 Fx4 ∧ HS F w [] Fx4 [.box b4 26 [.int .i64 v2.1.Sign, .slice as2 ns2 cs2, .int .i64 v3.1.Sign, .slice as3 ns3 cs3], .box b3 24 [.int .i64 v3.1.Sign, .slice as3 ns3 cs3], .box b2 24 [.int .i64 v2.1.Sign, .slice as2 ns2 cs2], .box b1 26 [.int .i64 0, .slice none 0 0, .int .i64 0, .slice none 0 0]] w' ∧ Has 49 a [(0, vs s1), (2, .pointer (some ⟨b1, 0, none⟩)), (11, .pointer (some ⟨b4, 0, none⟩)), (40, .bool v5)]) ?_ ?_
  ·rintro a wx12 ⟨Fx4, hF4, hx11, hax2⟩
   refine a1a hax2 ?_
   refine a0e rfl rfl rfl ?_
   obtain ⟨v6, hb3, hm⟩ := bind_some hm
   refine a2k 5 (fun a w' => ∃ (Fx5 : Frz), Frz.le Fx4 Fx5 ∧ HS F w [] Fx5 [.box b4 26 [.int .i64 v2.1.Sign, .slice as2 ns2 cs2, .int .i64 v3.1.Sign, .slice as3 ns3 cs3], .box b3 24 [.int .i64 v3.1.Sign, .slice as3 ns3 cs3], .box b2 24 [.int .i64 v2.1.Sign, .slice as2 ns2 cs2], .box b1 26 [.int .i64 0, .slice none 0 0, .int .i64 0, .slice none 0 0]] w' ∧ Has 49 a [(2, .pointer (some ⟨b1, 0, none⟩)), (11, .pointer (some ⟨b4, 0, none⟩)), (46, .bool v6)]) ?_ ?_
   ·rintro a wx13 ⟨Fx5, hF5, hx12, hax3⟩
    refine a1a hax3 ?_
    refine a0c (a0d ?_)
    rcases a0i hm with ⟨hb4, hm⟩ | ⟨hb4, hm⟩
    ·refine a0u 46 rfl hb4 ?_
     refine a0z rfl (a0f (a0a ?_))
     refine a0k ag26 sz26 rfl rfl hx12 rfl (i := 0) rfl rfl ?_
     refine a0o sz26 rfl hx12 rfl rfl rfl rfl (i := 3) rfl rfl rfl rfl ?_
     intro wx14 hx13
     refine a0b rfl rfl rfl (a0c (a0d (a1d (a0n ?_))))
     refine a1k (vl := [.agg #[.int .i64 v2.1.Sign, .slice as2 ns2 cs2, .int .i64 v3.1.Sign, .slice as3 ns3 cs3], .int .i64 0]) rfl ⟨a1q ag26 sz26 rfl hx13 rfl (i := 3) rfl, a1w rfl, trivial⟩ (by simp) ?_
     obtain rfl := Option.some.inj hm
     exact ⟨_, _, _, rfl, hx13.pick [] (by decide) rfl, as2, ns2, cs2, as3, ns3, cs3, rfl, rfl, (((hs2.mono hF3).mono hF4).mono hF5), ((hs3.mono hF4).mono hF5)⟩
    refine a0u 46 rfl hb4 ?_
    refine a0s rfl (a1b (a0d (a0f (a0a ?_))))
    refine a1r (v := .agg #[.int .i64 0, .slice none 0 0, .int .i64 0, .slice none 0 0]) rfl rfl rfl (fun _ => by kernel_rfl) ?_
    refine a0o sz26 rfl hx12 rfl rfl rfl rfl (i := 3) rfl rfl rfl rfl ?_
    intro wx15 hx14
    refine a0b rfl rfl rfl (a0c (a0d (a1d ?_)))
    refine a1k (vl := [.agg #[.int .i64 0, .slice none 0 0, .int .i64 0, .slice none 0 0], .int .i64 2]) rfl ⟨a1q ag26 sz26 rfl hx14 rfl (i := 3) rfl, a1w rfl, trivial⟩ (by simp) ?_
    obtain rfl := Option.some.inj hm
    exact ⟨_, _, _, rfl, hx14.pick [] (by decide) rfl, none, 0, 0, none, 0, 0, rfl, rfl, SlR.nil _ _, SlR.nil _ _⟩
   clear hm
   rcases a0i hb3 with ⟨hb5, hb3⟩ | ⟨hb5, hb3⟩
   ·refine a1e 41 rfl hb5 ?_
    refine a0k ag26 sz26 rfl rfl hx11 rfl (i := 0) rfl rfl ?_
    have hG1 := ((hF1.trans hF2).trans hF3).trans hF4
    obtain ⟨v7, hv4, hb3⟩ := bind_some hb3
    refine a0g ent40 rfl rfl rfl rfl hx11 (a5y _ _ _ hv4 hx11.sat ((hs2.mono hF3).mono hF4) (hs3.mono hF4) (hg3.mono hG1)) ?_
    rintro _ Fx6 _ wx16 hF6 hx15 ⟨rfl, rfl⟩
    refine a0e rfl rfl rfl ?_
    refine b2d rfl rfl rfl rfl rfl ?_
    refine a0m rfl rfl rfl rfl (a0c ?_)
    refine a0p (fun a ha => ?_)
    cases hb3
    exact ⟨_, hF6, hx15.pick [0, 1, 2, 3] (by decide) rfl, ha.cut (l := [2, 11, 46]) rfl⟩
   refine a1e 41 rfl hb5 ?_
   refine a0r rfl (by decide) rfl (a0r rfl (by decide) rfl (a0r rfl (by decide) rfl (a0r rfl (by decide) rfl (a0l rfl rfl rfl rfl (a0c ?_)))))
   refine a0p (fun a ha => ?_)
   cases hb3
   exact ⟨_, Frz.refl _, hx11.pick [0, 1, 2, 3] (by decide) rfl, ha.cut (l := [2, 11, 46]) rfl⟩
  clear hm
  rcases a0i hb2 with ⟨hb6, hb2⟩ | ⟨hb6, hb2⟩
  ·refine a1e 37 rfl hb6 ?_
   refine a0k ag26 sz26 rfl rfl hx10 rfl (i := 0) rfl rfl ?_
   obtain ⟨v8, hv5, hb2⟩ := bind_some hb2
   refine a0g ent25 rfl rfl rfl rfl hx10 (a2e _ _ _ hv5 hx10.sat (hs2.mono hF3) hs3) ?_
   rintro _ Fx7 _ wx17 hF7 hx16 ⟨rfl, rfl⟩
   refine a0m rfl rfl rfl rfl (a0c ?_)
   refine a0p (fun a ha => ?_)
   cases hb2
   exact ⟨_, hF7, hx16.pick [0, 1, 2, 3] (by decide) rfl, ha.cut (l := [0, 2, 11, 40]) rfl⟩
  refine a1e 37 rfl hb6 ?_
  refine a0r rfl (by decide) rfl (a0r rfl (by decide) rfl (a0l rfl rfl rfl rfl (a0c ?_)))
  refine a0p (fun a ha => ?_)
  cases hb2
  exact ⟨_, Frz.refl _, hx10.pick [0, 1, 2, 3] (by decide) rfl, ha.cut (l := [0, 2, 11, 40]) rfl⟩
 clear hm
 rcases a0i hb1 with ⟨hb7, hb1⟩ | ⟨hb7, hb1⟩
 ·refine a1e 33 rfl hb7 ?_
  refine a0e rfl rfl rfl ?_
  refine a0v rfl rfl rfl rfl rfl ?_
  refine a0m rfl rfl rfl rfl (a0c ?_)
  refine a0p (fun a ha => ?_)
  cases hb1
  exact ⟨rfl, ha.cut (l := [0, 2, 11, 36]) rfl⟩
 refine a1e 33 rfl hb7 ?_
 refine a0r rfl (by decide) rfl (a0r rfl (by decide) rfl (a0l rfl rfl rfl rfl (a0c ?_)))
 refine a0p (fun a ha => ?_)
 cases hb1
 exact ⟨rfl, ha.cut (l := [0, 2, 11, 36]) rfl⟩
theorem ent19 : Ent Tryz.prog 19 := fun _ _ => by kernel_rfl
def a6w (n : Nat) (p1 : Int) (q1 : Int) : Option Frac :=
 (b1c n p1 q1).bind fun v1 =>
 some v1.1
set_option maxHeartbeats 1000000 in
set_option maxRecDepth 1000000 in
theorem a5b (n : Nat) (p1 : Int) (q1 : Int) (r : Frac) (hm : a6w n p1 q1 = some r) {w : World} {F : Frz} (hs : Sat F w)  :
  Calls Tryz.prog 46 #[.int .i64 p1, .int .i64 q1] w fun e w' => ∃ v F' O', e = .returned v ∧ HS F w [] F' O' w' ∧ (∃ (a0_1 : Option Addr) (n0_1 : Nat) (c0_1 : Nat) (a0_3 : Option Addr) (n0_3 : Nat) (c0_3 : Nat), v = .agg #[.int .i64 r.P.Sign, .slice a0_1 n0_1 c0_1, .int .i64 r.Q.Sign, .slice a0_3 n0_3 c0_3] ∧ O' = [] ∧ SlR (Rp.int .i64) F' a0_1 n0_1 c0_1 r.P.Digits ∧ SlR (Rp.int .i64) F' a0_3 n0_3 c0_3 r.Q.Digits) := by
 unfold a6w at hm
 have h := HS.init hs
 refine a0x 14 Tryz.func46 rfl rfl rfl ?_
 refine a0f (a0a ?_)
 refine a0y ze26 rfl rfl rfl h ?_
 intro b1 wx1 hx1
 refine a0c (a0d (a0f (a0a (a0e rfl rfl rfl (a0e rfl rfl rfl ?_)))))
 obtain ⟨v1, hv1, hm⟩ := bind_some hm
 refine a0g ent19 rfl rfl rfl rfl hx1 (b5j _ _ _ _ hv1 hx1.sat) ?_
 rintro _ Fx1 _ wx2 hF1 hx2 ⟨as1, ns1, cs1, as2, ns2, cs2, rfl, rfl, hs1, hs2⟩
 refine a0e rfl rfl rfl (a0j rfl rfl rfl rfl (a0j rfl rfl rfl rfl ?_))
 refine a0y ze26 rfl rfl rfl hx2 ?_
 intro b2 wx3 hx3
 refine a0o sz26 rfl hx3 rfl rfl rfl rfl (i := 0) rfl rfl rfl rfl ?_
 intro wx4 hx4
 refine a0b rfl rfl rfl (a0c (a0d (a0f (a0a ?_))))
 refine a0k ag26 sz26 rfl rfl hx4 rfl (i := 0) rfl rfl ?_
 refine a0o sz26 rfl hx4 rfl rfl rfl rfl (i := 1) rfl rfl rfl rfl ?_
 intro wx5 hx5
 refine a0c (a0d (a1d ?_))
 refine a6l rfl ag26 sz26 rfl hx5 rfl (i := 1) rfl ?_
 obtain rfl := Option.some.inj hm
 exact ⟨_, _, _, rfl, hx5.pick [] (by decide) rfl, as1, ns1, cs1, as2, ns2, cs2, rfl, rfl, hs1, hs2⟩
theorem ent30 : Ent Tryz.prog 30 := fun _ _ => by kernel_rfl
theorem ent32 : Ent Tryz.prog 32 := fun _ _ => by kernel_rfl
theorem ent38 : Ent Tryz.prog 38 := fun _ _ => by kernel_rfl
theorem ent46 : Ent Tryz.prog 46 := fun _ _ => by kernel_rfl
theorem ent29 : Ent Tryz.prog 29 := fun _ _ => by kernel_rfl
theorem ent34 : Ent Tryz.prog 34 := fun _ _ => by kernel_rfl
theorem ent36 : Ent Tryz.prog 36 := fun _ _ => by kernel_rfl
def b4e (n : Nat) (ax1 : Frac) (b1 : Frac) : Option Bool :=
 (b1a n ax1 b1).bind fun v1 =>
 (b0t n ax1 b1).bind fun v2 =>
 (bif v1.2 == 0 then
  some (v2.2 == 0)
 else
  some false).bind fun v3 =>
 (bif v3 then
  (a8g n v1.1 ax1).bind fun v20 =>
  some v20
 else
  some false).bind fun v4 =>
 (bif v4 then
  (a8g n v2.1 b1).bind fun v19 =>
  some v19
 else
  some false).bind fun v5 =>
 (bif v5 then
  (a8f n ax1).bind fun v18 =>
  some (v18 == (-1))
 else
  some false).bind fun v6 =>
 (bif v6 then
  (a9l n ax1).bind fun v16 =>
  (a8f n v16).bind fun v17 =>
  some (v17 == 1)
 else
  some false).bind fun v7 =>
 (bif v7 then
  (a9l n ax1).bind fun v13 =>
  (a6w n 1 2).bind fun v14 =>
  (a8g n v13 v14).bind fun v15 =>
  some v15
 else
  some false).bind fun v8 =>
 (bif v8 then
  (b3j n (-2)).bind fun v10 =>
  (a6w n 4 (-2)).bind fun v11 =>
  (a8g n v10 v11).bind fun v12 =>
  some v12
 else
  some false).bind fun v9 =>
 some v9
set_option maxHeartbeats 1000000 in
set_option maxRecDepth 1000000 in
theorem b8y (n : Nat) (ax1 : Frac) (b1 : Frac) (r : Bool) (hm : b4e n ax1 b1 = some r) {w : World} {F : Frz} (hs : Sat F w) {as1 : Option Addr} {ns1 : Nat} {cs1 : Nat} {as2 : Option Addr} {ns2 : Nat} {cs2 : Nat} {as3 : Option Addr} {ns3 : Nat} {cs3 : Nat} {as4 : Option Addr} {ns4 : Nat} {cs4 : Nat} (hs1 : SlR (Rp.int .i64) F as1 ns1 cs1 ax1.P.Digits) (hs2 : SlR (Rp.int .i64) F as2 ns2 cs2 ax1.Q.Digits) (hs3 : SlR (Rp.int .i64) F as3 ns3 cs3 b1.P.Digits) (hs4 : SlR (Rp.int .i64) F as4 ns4 cs4 b1.Q.Digits) :
  Calls Tryz.prog 51 #[.agg #[.int .i64 ax1.P.Sign, .slice as1 ns1 cs1, .int .i64 ax1.Q.Sign, .slice as2 ns2 cs2], .agg #[.int .i64 b1.P.Sign, .slice as3 ns3 cs3, .int .i64 b1.Q.Sign, .slice as4 ns4 cs4]] w fun e w' => ∃ v F' O', e = .returned v ∧ HS F w [] F' O' w' ∧ (v = .bool r ∧ O' = []) := by
 unfold b4e at hm
 have h := HS.init hs
 refine a0x 59 Tryz.func51 rfl rfl rfl ?_
 refine a0f (a0a ?_)
 refine a2o rfl rfl rfl rfl h ?_
 intro b2 wx1 hx1
 refine a2o rfl rfl rfl rfl hx1 ?_
 intro b3 wx2 hx2
 refine a0b rfl rfl rfl (a0c (a0d (a0f (a0a ?_))))
 refine a0k ag26 sz26 rfl rfl hx2 rfl (i := 1) rfl rfl ?_
 refine a0k ag26 sz26 rfl rfl hx2 rfl (i := 0) rfl rfl ?_
 obtain ⟨v1, hv1, hm⟩ := bind_some hm
 refine a0g ent30 rfl rfl rfl rfl hx2 (b8g _ _ _ _ hv1 hx2.sat hs1 hs2 hs3 hs4) ?_
 rintro _ Fx1 _ wx3 hF1 hx3 ⟨as5, ns5, cs5, as6, ns6, cs6, rfl, rfl, hs5, hs6⟩
 refine a0e rfl rfl rfl (a0j rfl rfl rfl rfl (a0j rfl rfl rfl rfl ?_))
 refine a0y ze26 rfl rfl rfl hx3 ?_
 intro b4 wx4 hx4
 refine a0o sz26 rfl hx4 rfl rfl rfl rfl (i := 0) rfl rfl rfl rfl ?_
 intro wx5 hx5
 refine a0b rfl rfl rfl (a0c (a0d (a0f (a0a ?_))))
 refine a0k ag26 sz26 rfl rfl hx5 rfl (i := 2) rfl rfl ?_
 refine a0k ag26 sz26 rfl rfl hx5 rfl (i := 1) rfl rfl ?_
 obtain ⟨v2, hv2, hm⟩ := bind_some hm
 refine a0g ent32 rfl rfl rfl rfl hx5 (b7k _ _ _ _ hv2 hx5.sat (hs1.mono hF1) (hs2.mono hF1) (hs3.mono hF1) (hs4.mono hF1)) ?_
 rintro _ Fx2 _ wx6 hF2 hx6 ⟨as7, ns7, cs7, as8, ns8, cs8, rfl, rfl, hs7, hs8⟩
 refine a0e rfl rfl rfl (a0j rfl rfl rfl rfl (a0j rfl rfl rfl rfl ?_))
 refine a0y ze26 rfl rfl rfl hx6 ?_
 intro b5 wx7 hx7
 refine a0o sz26 rfl hx7 rfl rfl rfl rfl (i := 0) rfl rfl rfl rfl ?_
 intro wx8 hx8
 refine a0b rfl rfl rfl (a0c (a0d (a0f (a0a (a0e rfl rfl rfl ?_)))))
 refine a0v rfl rfl rfl rfl rfl ?_
 refine a0e rfl rfl rfl ?_
 obtain ⟨v3, hb1, hm⟩ := bind_some hm
 refine a2k 3 (fun a w' => wx8 = w' ∧ Has 59 a [(2, .pointer (some ⟨b2, 0, none⟩)), (3, .pointer (some ⟨b3, 0, none⟩)), (5, .pointer (some ⟨b4, 0, none⟩)), (7, .pointer (some ⟨b5, 0, none⟩)), (26, .bool v3)]) ?_ ?_
 ·rintro a wx9 ⟨rfl, hax1⟩
  refine a1a hax1 ?_
  refine a0e rfl rfl rfl ?_
  obtain ⟨v4, hb2, hm⟩ := bind_some hm
  refine a2k 4 (fun a w' => ∃ (Fx3 : Frz), Frz.le Fx2 Fx3 ∧ HS F w [] Fx3 [.box b5 26 [.int .i64 v2.1.P.Sign, .slice as7 ns7 cs7, .int .i64 v2.1.Q.Sign, .slice as8 ns8 cs8], .box b4 26 [.int .i64 v1.1.P.Sign, .slice as5 ns5 cs5, .int .i64 v1.1.Q.Sign, .slice as6 ns6 cs6], .box b3 26 [.int .i64 b1.P.Sign, .slice as3 ns3 cs3, .int .i64 b1.Q.Sign, .slice as4 ns4 cs4], .box b2 26 [.int .i64 ax1.P.Sign, .slice as1 ns1 cs1, .int .i64 ax1.Q.Sign, .slice as2 ns2 cs2]] w' ∧ Has 59 a [(2, .pointer (some ⟨b2, 0, none⟩)), (3, .pointer (some ⟨b3, 0, none⟩)), (7, .pointer (some ⟨b5, 0, none⟩)), (31, .bool v4)]) ?_ ?_
  ·rintro a wx10 ⟨Fx3, hF3, hx9, hax2⟩
   refine a1a hax2 ?_
   refine a0e rfl rfl rfl ?_
   obtain ⟨v5, hb3, hm⟩ := bind_some hm
   refine a2k 4 (fun a w' => ∃ (Fx4 : Frz), Frz.le Fx3 Fx4 ∧ HS F w [] Fx4 [.box b5 26 [.int .i64 v2.1.P.Sign, .slice as7 ns7 cs7, .int .i64 v2.1.Q.Sign, .slice as8 ns8 cs8], .box b4 26 [.int .i64 v1.1.P.Sign, .slice as5 ns5 cs5, .int .i64 v1.1.Q.Sign, .slice as6 ns6 cs6], .box b3 26 [.int .i64 b1.P.Sign, .slice as3 ns3 cs3, .int .i64 b1.Q.Sign, .slice as4 ns4 cs4], .box b2 26 [.int .i64 ax1.P.Sign, .slice as1 ns1 cs1, .int .i64 ax1.Q.Sign, .slice as2 ns2 cs2]] w' ∧ Has 59 a [(2, .pointer (some ⟨b2, 0, none⟩)), (36, .bool v5)]) ?_ ?_
   ·rintro a wx11 ⟨Fx4, hF4, hx10, hax3⟩
    refine a1a hax3 ?_
    refine a0e rfl rfl rfl ?_
    obtain ⟨v6, hb4, hm⟩ := bind_some hm
    refine a2k 4 (fun a w' => ∃ (Fx5 : Frz), Frz.le Fx4 Fx5 ∧ HS F w [] Fx5 [.box b5 26 [.int .i64 v2.1.P.Sign, .slice as7 ns7 cs7, .int .i64 v2.1.Q.Sign, .slice as8 ns8 cs8], .box b4 26 [.int .i64 v1.1.P.Sign, .slice as5 ns5 cs5, .int .i64 v1.1.Q.Sign, .slice as6 ns6 cs6], .box b3 26 [.int .i64 b1.P.Sign, .slice as3 ns3 cs3, .int .i64 b1.Q.Sign, .slice as4 ns4 cs4], .box b2 26 [.int .i64 ax1.P.Sign, .slice as1 ns1 cs1, .int .i64 ax1.Q.Sign, .slice as2 ns2 cs2]] w' ∧ Has 59 a [(2, .pointer (some ⟨b2, 0, none⟩)), (41, .bool v6)]) ?_ ?_
    ·rintro a wx12 ⟨Fx5, hF5, hx11, hax4⟩
     refine a1a hax4 ?_
     refine a0e rfl rfl rfl ?_
     obtain ⟨v7, hb5, hm⟩ := bind_some hm
     refine a2k 5 (fun a w' => ∃ (Fx6 : Frz), Frz.le Fx5 Fx6 ∧ HS F w [] Fx6 [.box b5 26 [.int .i64 v2.1.P.Sign, .slice as7 ns7 cs7, .int .i64 v2.1.Q.Sign, .slice as8 ns8 cs8], .box b4 26 [.int .i64 v1.1.P.Sign, .slice as5 ns5 cs5, .int .i64 v1.1.Q.Sign, .slice as6 ns6 cs6], .box b3 26 [.int .i64 b1.P.Sign, .slice as3 ns3 cs3, .int .i64 b1.Q.Sign, .slice as4 ns4 cs4], .box b2 26 [.int .i64 ax1.P.Sign, .slice as1 ns1 cs1, .int .i64 ax1.Q.Sign, .slice as2 ns2 cs2]] w' ∧ Has 59 a [(2, .pointer (some ⟨b2, 0, none⟩)), (47, .bool v7)]) ?_ ?_
     ·rintro a wx13 ⟨Fx6, hF6, hx12, hax5⟩
      refine a1a hax5 ?_
      refine a0e rfl rfl rfl ?_
      obtain ⟨v8, hb6, hm⟩ := bind_some hm
      refine a2k 5 (fun a w' => ∃ (Fx7 : Frz), Frz.le Fx6 Fx7 ∧ HS F w [] Fx7 [.box b5 26 [.int .i64 v2.1.P.Sign, .slice as7 ns7 cs7, .int .i64 v2.1.Q.Sign, .slice as8 ns8 cs8], .box b4 26 [.int .i64 v1.1.P.Sign, .slice as5 ns5 cs5, .int .i64 v1.1.Q.Sign, .slice as6 ns6 cs6], .box b3 26 [.int .i64 b1.P.Sign, .slice as3 ns3 cs3, .int .i64 b1.Q.Sign, .slice as4 ns4 cs4], .box b2 26 [.int .i64 ax1.P.Sign, .slice as1 ns1 cs1, .int .i64 ax1.Q.Sign, .slice as2 ns2 cs2]] w' ∧ Has 59 a [(53, .bool v8)]) ?_ ?_
      ·rintro a wx14 ⟨Fx7, hF7, hx13, hax6⟩
       refine a1a hax6 ?_
       refine a0e rfl rfl rfl ?_
       obtain ⟨v9, hb7, hm⟩ := bind_some hm
       refine a2k 4 (fun a w' => ∃ (Fx8 : Frz), Frz.le Fx7 Fx8 ∧ HS F w [] Fx8 [.box b5 26 [.int .i64 v2.1.P.Sign, .slice as7 ns7 cs7, .int .i64 v2.1.Q.Sign, .slice as8 ns8 cs8], .box b4 26 [.int .i64 v1.1.P.Sign, .slice as5 ns5 cs5, .int .i64 v1.1.Q.Sign, .slice as6 ns6 cs6], .box b3 26 [.int .i64 b1.P.Sign, .slice as3 ns3 cs3, .int .i64 b1.Q.Sign, .slice as4 ns4 cs4], .box b2 26 [.int .i64 ax1.P.Sign, .slice as1 ns1 cs1, .int .i64 ax1.Q.Sign, .slice as2 ns2 cs2]] w' ∧ Has 59 a [(58, .bool v9)]) ?_ ?_
       ·rintro a wx15 ⟨Fx8, hF8, hx14, hax7⟩
        refine a1a hax7 ?_
        refine a0b rfl rfl rfl (a0c (a0d (a1d ?_)))
        refine a1p rfl rfl ?_
        obtain rfl := Option.some.inj hm
        exact ⟨_, _, _, rfl, hx14.pick [] (by decide) rfl, rfl, rfl⟩
       clear hm
       rcases a0i hb7 with ⟨hb8, hb7⟩ | ⟨hb8, hb7⟩
       ·refine a1e 54 rfl hb8 ?_
        obtain ⟨v10, hv3, hb7⟩ := bind_some hb7
        refine a0g ent38 rfl rfl rfl rfl hx13 (b7e _ _ _ hv3 hx13.sat) ?_
        rintro _ Fx9 _ wx16 hF9 hx15 ⟨as9, ns9, cs9, as10, ns10, cs10, rfl, rfl, hs9, hs10⟩
        obtain ⟨v11, hv4, hb7⟩ := bind_some hb7
        refine a0g ent46 rfl rfl rfl rfl hx15 (a5b _ _ _ _ hv4 hx15.sat) ?_
        rintro _ Fx10 _ wx17 hF10 hx16 ⟨as11, ns11, cs11, as12, ns12, cs12, rfl, rfl, hs11, hs12⟩
        obtain ⟨v12, hv5, hb7⟩ := bind_some hb7
        refine a0g ent29 rfl rfl rfl rfl hx16 (a8y _ _ _ _ hv5 hx16.sat (hs9.mono hF10) (hs10.mono hF10) hs11 hs12) ?_
        rintro _ Fx11 _ wx18 hF11 hx17 ⟨rfl, rfl⟩
        refine a0m rfl rfl rfl rfl (a0c ?_)
        refine a0p (fun a ha => ?_)
        cases hb7
        exact ⟨_, ((hF9.trans hF10).trans hF11), hx17.pick [0, 1, 2, 3] (by decide) rfl, ha.cut (l := [58]) rfl⟩
       refine a1e 54 rfl hb8 ?_
       refine a0r rfl (by decide) rfl (a0r rfl (by decide) rfl (a0r rfl (by decide) rfl (a0l rfl rfl rfl rfl (a0c ?_))))
       refine a0p (fun a ha => ?_)
       cases hb7
       exact ⟨_, Frz.refl _, hx13.pick [0, 1, 2, 3] (by decide) rfl, ha.cut (l := [58]) rfl⟩
      clear hm
      rcases a0i hb6 with ⟨hb9, hb6⟩ | ⟨hb9, hb6⟩
      ·refine a1e 48 rfl hb9 ?_
       refine a0k ag26 sz26 rfl rfl hx12 rfl (i := 3) rfl rfl ?_
       have hG1 := ((((hF1.trans hF2).trans hF3).trans hF4).trans hF5).trans hF6
       obtain ⟨v13, hv6, hb6⟩ := bind_some hb6
       refine a0g ent34 rfl rfl rfl rfl hx12 (b4d _ _ _ hv6 hx12.sat (hs1.mono hG1) (hs2.mono hG1)) ?_
       rintro _ Fx12 _ wx19 hF12 hx18 ⟨as13, ns13, cs13, as14, ns14, cs14, rfl, rfl, hs13, hs14⟩
       obtain ⟨v14, hv7, hb6⟩ := bind_some hb6
       refine a0g ent46 rfl rfl rfl rfl hx18 (a5b _ _ _ _ hv7 hx18.sat) ?_
       rintro _ Fx13 _ wx20 hF13 hx19 ⟨as15, ns15, cs15, as16, ns16, cs16, rfl, rfl, hs15, hs16⟩
       obtain ⟨v15, hv8, hb6⟩ := bind_some hb6
       refine a0g ent29 rfl rfl rfl rfl hx19 (a8y _ _ _ _ hv8 hx19.sat (hs13.mono hF13) (hs14.mono hF13) hs15 hs16) ?_
       rintro _ Fx14 _ wx21 hF14 hx20 ⟨rfl, rfl⟩
       refine a0m rfl rfl rfl rfl (a0c ?_)
       refine a0p (fun a ha => ?_)
       cases hb6
       exact ⟨_, ((hF12.trans hF13).trans hF14), hx20.pick [0, 1, 2, 3] (by decide) rfl, ha.cut (l := [53]) rfl⟩
      refine a1e 48 rfl hb9 ?_
      refine a0r rfl (by decide) rfl (a0r rfl (by decide) rfl (a0r rfl (by decide) rfl (a0r rfl (by decide) rfl (a0l rfl rfl rfl rfl (a0c ?_)))))
      refine a0p (fun a ha => ?_)
      cases hb6
      exact ⟨_, Frz.refl _, hx12.pick [0, 1, 2, 3] (by decide) rfl, ha.cut (l := [53]) rfl⟩
     clear hm
     rcases a0i hb5 with ⟨hb10, hb5⟩ | ⟨hb10, hb5⟩
     ·refine a1e 42 rfl hb10 ?_
      refine a0k ag26 sz26 rfl rfl hx11 rfl (i := 3) rfl rfl ?_
      have hG2 := (((hF1.trans hF2).trans hF3).trans hF4).trans hF5
      obtain ⟨v16, hv9, hb5⟩ := bind_some hb5
      refine a0g ent34 rfl rfl rfl rfl hx11 (b4d _ _ _ hv9 hx11.sat (hs1.mono hG2) (hs2.mono hG2)) ?_
      rintro _ Fx15 _ wx22 hF15 hx21 ⟨as17, ns17, cs17, as18, ns18, cs18, rfl, rfl, hs17, hs18⟩
      obtain ⟨v17, hv10, hb5⟩ := bind_some hb5
      refine a0g ent36 rfl rfl rfl rfl hx21 (b2p _ _ _ hv10 hx21.sat hs17 hs18) ?_
      rintro _ Fx16 _ wx23 hF16 hx22 ⟨rfl, rfl⟩
      refine a0v rfl rfl rfl rfl rfl ?_
      refine a0m rfl rfl rfl rfl (a0c ?_)
      refine a0p (fun a ha => ?_)
      cases hb5
      exact ⟨_, (hF15.trans hF16), hx22.pick [0, 1, 2, 3] (by decide) rfl, ha.cut (l := [2, 47]) rfl⟩
     refine a1e 42 rfl hb10 ?_
     refine a0r rfl (by decide) rfl (a0r rfl (by decide) rfl (a0r rfl (by decide) rfl (a0r rfl (by decide) rfl (a0l rfl rfl rfl rfl (a0c ?_)))))
     refine a0p (fun a ha => ?_)
     cases hb5
     exact ⟨_, Frz.refl _, hx11.pick [0, 1, 2, 3] (by decide) rfl, ha.cut (l := [2, 47]) rfl⟩
    clear hm
    rcases a0i hb4 with ⟨hb11, hb4⟩ | ⟨hb11, hb4⟩
    ·refine a1e 37 rfl hb11 ?_
     refine a0k ag26 sz26 rfl rfl hx10 rfl (i := 3) rfl rfl ?_
     have hG3 := ((hF1.trans hF2).trans hF3).trans hF4
     obtain ⟨v18, hv11, hb4⟩ := bind_some hb4
     refine a0g ent36 rfl rfl rfl rfl hx10 (b2p _ _ _ hv11 hx10.sat (hs1.mono hG3) (hs2.mono hG3)) ?_
     rintro _ Fx17 _ wx24 hF17 hx23 ⟨rfl, rfl⟩
     refine a0v rfl rfl rfl rfl rfl ?_
     refine a0m rfl rfl rfl rfl (a0c ?_)
     refine a0p (fun a ha => ?_)
     cases hb4
     exact ⟨_, hF17, hx23.pick [0, 1, 2, 3] (by decide) rfl, ha.cut (l := [2, 41]) rfl⟩
    refine a1e 37 rfl hb11 ?_
    refine a0r rfl (by decide) rfl (a0r rfl (by decide) rfl (a0r rfl (by decide) rfl (a0l rfl rfl rfl rfl (a0c ?_))))
    refine a0p (fun a ha => ?_)
    cases hb4
    exact ⟨_, Frz.refl _, hx10.pick [0, 1, 2, 3] (by decide) rfl, ha.cut (l := [2, 41]) rfl⟩
   clear hm
   rcases a0i hb3 with ⟨hb12, hb3⟩ | ⟨hb12, hb3⟩
   ·refine a1e 32 rfl hb12 ?_
    refine a0k ag26 sz26 rfl rfl hx9 rfl (i := 0) rfl rfl ?_
    refine a0k ag26 sz26 rfl rfl hx9 rfl (i := 2) rfl rfl ?_
    obtain ⟨v19, hv12, hb3⟩ := bind_some hb3
    refine a0g ent29 rfl rfl rfl rfl hx9 (a8y _ _ _ _ hv12 hx9.sat (hs7.mono hF3) (hs8.mono hF3) (((hs3.mono hF1).mono hF2).mono hF3) (((hs4.mono hF1).mono hF2).mono hF3)) ?_
    rintro _ Fx18 _ wx25 hF18 hx24 ⟨rfl, rfl⟩
    refine a0m rfl rfl rfl rfl (a0c ?_)
    refine a0p (fun a ha => ?_)
    cases hb3
    exact ⟨_, hF18, hx24.pick [0, 1, 2, 3] (by decide) rfl, ha.cut (l := [2, 36]) rfl⟩
   refine a1e 32 rfl hb12 ?_
   refine a0r rfl (by decide) rfl (a0r rfl (by decide) rfl (a0r rfl (by decide) rfl (a0l rfl rfl rfl rfl (a0c ?_))))
   refine a0p (fun a ha => ?_)
   cases hb3
   exact ⟨_, Frz.refl _, hx9.pick [0, 1, 2, 3] (by decide) rfl, ha.cut (l := [2, 36]) rfl⟩
  clear hm
  rcases a0i hb2 with ⟨hb13, hb2⟩ | ⟨hb13, hb2⟩
  ·refine a1e 27 rfl hb13 ?_
   refine a0k ag26 sz26 rfl rfl hx8 rfl (i := 1) rfl rfl ?_
   refine a0k ag26 sz26 rfl rfl hx8 rfl (i := 3) rfl rfl ?_
   obtain ⟨v20, hv13, hb2⟩ := bind_some hb2
   refine a0g ent29 rfl rfl rfl rfl hx8 (a8y _ _ _ _ hv13 hx8.sat (hs5.mono hF2) (hs6.mono hF2) ((hs1.mono hF1).mono hF2) ((hs2.mono hF1).mono hF2)) ?_
   rintro _ Fx19 _ wx26 hF19 hx25 ⟨rfl, rfl⟩
   refine a0m rfl rfl rfl rfl (a0c ?_)
   refine a0p (fun a ha => ?_)
   cases hb2
   exact ⟨_, hF19, hx25.pick [0, 1, 2, 3] (by decide) rfl, ha.cut (l := [2, 3, 7, 31]) rfl⟩
  refine a1e 27 rfl hb13 ?_
  refine a0r rfl (by decide) rfl (a0r rfl (by decide) rfl (a0r rfl (by decide) rfl (a0l rfl rfl rfl rfl (a0c ?_))))
  refine a0p (fun a ha => ?_)
  cases hb2
  exact ⟨_, Frz.refl _, hx8.pick [0, 1, 2, 3] (by decide) rfl, ha.cut (l := [2, 3, 7, 31]) rfl⟩
 clear hm
 rcases a0i hb1 with ⟨hb14, hb1⟩ | ⟨hb14, hb1⟩
 ·refine a1e 23 rfl hb14 ?_
  refine a0e rfl rfl rfl ?_
  refine a0v rfl rfl rfl rfl rfl ?_
  refine a0m rfl rfl rfl rfl (a0c ?_)
  refine a0p (fun a ha => ?_)
  cases hb1
  exact ⟨rfl, ha.cut (l := [2, 3, 5, 7, 26]) rfl⟩
 refine a1e 23 rfl hb14 ?_
 refine a0r rfl (by decide) rfl (a0r rfl (by decide) rfl (a0l rfl rfl rfl rfl (a0c ?_)))
 refine a0p (fun a ha => ?_)
 cases hb1
 exact ⟨rfl, ha.cut (l := [2, 3, 5, 7, 26]) rfl⟩
end Go.Proofs.YtaanocaobllohaaGreatDoor.M
