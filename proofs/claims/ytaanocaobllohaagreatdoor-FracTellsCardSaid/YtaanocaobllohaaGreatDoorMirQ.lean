/-
  THE MIRRORS of the fractions' and the big integers' functions, of their references and of the laws, and that each call returns what its mirror says. Printed by gen.py.
-/
import Derived.Test.YtaanocaobllohaaGreatDoorRows
import Derived.Test.YtaanocaobllohaaGreatDoorTrim
import Derived.Test.YtaanocaobllohaaGreatDoorExtC
import Derived.Test.YtaanocaobllohaaGreatDoorRtX
import Derived.Test.YtaanocaobllohaaGreatDoorMirR
namespace Go.Proofs.YtaanocaobllohaaGreatDoor.M
open Go Go.RowKit Rt
theorem ent65 : Ent Tryz.prog 65 := fun _ _ => by kernel_rfl
theorem ent56 : Ent Tryz.prog 56 := fun _ _ => by kernel_rfl
theorem ent68 : Ent Tryz.prog 68 := fun _ _ => by kernel_rfl
def a2f (n : Nat) (f1 : Frac) : Option Bool :=
 (a2i n f1.P).bind fun v1 =>
 (bif !v1 then
  some true
 else
  (a2i n f1.Q).bind fun v7 =>
  some (!v7)).bind fun v2 =>
 (bif v2 then
  some true
 else
  some (decide (f1.Q.Sign < 1))).bind fun v3 =>
 bif v3 then
  some false
 else
  (b0i n f1.P f1.Q).bind fun v4 =>
  (b0z n 1).bind fun v5 =>
  (a7c n v4.1 v5).bind fun v6 =>
  some (v6 == 0)
set_option maxHeartbeats 1000000 in
set_option maxRecDepth 1000000 in
theorem a2b (n : Nat) (f1 : Frac) (r : Bool) (hm : a2f n f1 = some r) {w : World} {F : Frz} (hs : Sat F w) {as1 : Option Addr} {ns1 : Nat} {cs1 : Nat} {as2 : Option Addr} {ns2 : Nat} {cs2 : Nat} (hs1 : SlR (Rp.int .i64) F as1 ns1 cs1 f1.P.Digits) (hs2 : SlR (Rp.int .i64) F as2 ns2 cs2 f1.Q.Digits) :
  Calls Tryz.prog 26 #[.agg #[.int .i64 f1.P.Sign, .slice as1 ns1 cs1, .int .i64 f1.Q.Sign, .slice as2 ns2 cs2]] w fun e w' => ∃ v F' O', e = .returned v ∧ HS F w [] F' O' w' ∧ (v = .bool r ∧ O' = []) := by
 unfold a2f at hm
 have h := HS.init hs
 refine a0x 33 Tryz.func26 rfl rfl rfl ?_
 refine a0f (a0a ?_)
 refine a2o rfl rfl rfl rfl h ?_
 intro b1 wx1 hx1
 refine a0b rfl rfl rfl (a0c (a0d (a0f (a0f (a0a ?_)))))
 refine a0h fa26_0 rfl rfl rfl ?_
 refine a1f (cs' := [.int .i64 f1.P.Sign, .slice as1 ns1 cs1]) ag24 sz24 rfl rfl hx1 rfl (i := 0) rfl rfl rfl ?_
 obtain ⟨v1, hv1, hm⟩ := bind_some hm
 refine a0g ent63 rfl rfl rfl rfl hx1 (a2l _ _ _ hv1 hx1.sat hs1) ?_
 rintro _ Fx1 _ wx2 hF1 hx2 ⟨rfl, rfl⟩
 refine a2x rfl rfl rfl (a0e rfl rfl rfl ?_)
 obtain ⟨v2, hb1, hm⟩ := bind_some hm
 refine a2k 5 (fun a w' => ∃ (Fx2 : Frz), Frz.le Fx1 Fx2 ∧ HS F w [] Fx2 [.box b1 26 [.int .i64 f1.P.Sign, .slice as1 ns1 cs1, .int .i64 f1.Q.Sign, .slice as2 ns2 cs2]] w' ∧ Has 33 a [(1, .pointer (some ⟨b1, 0, none⟩)), (14, .bool v2)]) ?_ ?_
 ·rintro a wx3 ⟨Fx2, hF2, hx3, hax1⟩
  refine a1a hax1 ?_
  refine a0e rfl rfl rfl ?_
  obtain ⟨v3, hb2, hm⟩ := bind_some hm
  refine a2k 5 (fun a w' => wx3 = w' ∧ Has 33 a [(1, .pointer (some ⟨b1, 0, none⟩)), (20, .bool v3)]) ?_ ?_
  ·rintro a wx4 ⟨rfl, hax2⟩
   refine a1a hax2 ?_
   refine a0c (a0d ?_)
   rcases a0i hm with ⟨hb3, hm⟩ | ⟨hb3, hm⟩
   ·refine a0u 20 rfl hb3 ?_
    refine a0z rfl (a0f (a0a (a0b rfl rfl rfl (a0c (a0d (a1d (a0n ?_)))))))
    refine a1p rfl rfl ?_
    obtain rfl := Option.some.inj hm
    exact ⟨_, _, _, rfl, hx3.pick [] (by decide) rfl, rfl, rfl⟩
   refine a0u 20 rfl hb3 ?_
   refine a0s rfl (a1b (a0d (a0f (a0a ?_))))
   refine a0h fa26_0 rfl rfl rfl ?_
   refine a1f (cs' := [.int .i64 f1.P.Sign, .slice as1 ns1 cs1]) ag24 sz24 rfl rfl hx3 rfl (i := 0) rfl rfl rfl ?_
   refine a0h fa26_1 rfl rfl rfl ?_
   refine a1f (cs' := [.int .i64 f1.Q.Sign, .slice as2 ns2 cs2]) ag24 sz24 rfl rfl hx3 rfl (i := 0) rfl rfl rfl ?_
   obtain ⟨v4, hv2, hm⟩ := bind_some hm
   refine a0g ent65 rfl rfl rfl rfl hx3 (b5x _ _ _ _ hv2 hx3.sat ((hs1.mono hF1).mono hF2) ((hs2.mono hF1).mono hF2)) ?_
   rintro _ Fx3 _ wx5 hF3 hx4 ⟨as3, ns3, cs3, rfl, rfl, hs3⟩
   refine a0e rfl rfl rfl (a0j rfl rfl rfl rfl (a0j rfl rfl rfl rfl ?_))
   refine a0y ze24 rfl rfl rfl hx4 ?_
   intro b2 wx6 hx5
   refine a0o sz24 rfl hx5 rfl rfl rfl rfl (i := 0) rfl rfl rfl rfl ?_
   intro wx7 hx6
   refine a0b rfl rfl rfl (a0c (a0d (a0f ?_)))
   refine a2m (SH Fx3 [.box b2 24 [.int .i64 v4.1.Sign, .slice as3 ns3 cs3], .box b1 26 [.int .i64 f1.P.Sign, .slice as1 ns1 cs1, .int .i64 f1.Q.Sign, .slice as2 ns2 cs2]]) 5 rfl (by kernel_rfl) hx6 ?_
   intro wx8 hx7
   refine d_tk 0 rfl (by kernel_rfl) rfl rfl rfl rfl (hx7.sh (Frz.refl _) [0, 1] (by decide) rfl) (fun _ _ _ _ hq => a0k ag24 sz24 rfl rfl hq rfl (i := 0) rfl rfl (a0c (qq rfl))) ?_
   refine a1c 1 rfl (by kernel_rfl) ?_
   obtain ⟨v5, hv3, hm⟩ := bind_some hm
   refine a0g ent56 rfl rfl rfl rfl hx7 (b4g _ _ _ hv3 hx7.sat) ?_
   rintro _ Fx4 _ wx9 hF4 hx8 ⟨as4, ns4, cs4, rfl, rfl, hs4⟩
   refine a0w (hx8.sh hF4 [0, 1] (by decide) rfl) ?_
   refine a1c 2 rfl (by kernel_rfl) ?_
   obtain ⟨v6, hv4, hm⟩ := bind_some hm
   refine a0g ent68 rfl rfl rfl rfl hx8 (b2g _ _ _ _ hv4 hx8.sat (hs3.mono hF4) hs4) ?_
   rintro _ Fx5 _ wx10 hF5 hx9 ⟨rfl, rfl⟩
   refine a0w (hx9.sh (hF4.trans hF5) [0, 1] (by decide) rfl) ?_
   refine d_tk 3 rfl (by kernel_rfl) rfl rfl rfl rfl (hx9.sh (hF4.trans hF5) [0, 1] (by decide) rfl) (fun _ _ _ _ _ => a0v rfl rfl rfl rfl rfl (a0c (qq rfl))) ?_
   refine d_tk 4 rfl (by kernel_rfl) rfl rfl rfl rfl (hx9.sh (hF4.trans hF5) [0, 1] (by decide) rfl) (fun _ _ _ _ _ => a0b rfl rfl rfl (a0c (qq rfl))) ?_
   refine a3v (by kernel_rfl) ?_
   refine a0d (a1d ?_)
   refine a1p rfl rfl ?_
   obtain rfl := Option.some.inj hm
   exact ⟨_, _, _, rfl, hx9.pick [] (by decide) rfl, rfl, rfl⟩
  clear hm
  rcases a0i hb2 with ⟨hb4, hb2⟩ | ⟨hb4, hb2⟩
  ·refine a1e 15 rfl hb4 ?_
   refine a0r rfl (by decide) rfl (a0r rfl (by decide) rfl (a0r rfl (by decide) rfl (a0r rfl (by decide) rfl (a0m rfl rfl rfl rfl (a0c ?_)))))
   refine a0p (fun a ha => ?_)
   cases hb2
   exact ⟨rfl, ha.cut (l := [1, 20]) rfl⟩
  refine a1e 15 rfl hb4 ?_
  refine a0h fa26_1 rfl rfl rfl ?_
  refine a0h fa24_0 rfl rfl rfl ?_
  refine a0t ag3 rfl rfl hx3 rfl (i := 0) rfl rfl ?_
  refine a0v rfl rfl rfl rfl rfl ?_
  refine a0l rfl rfl rfl rfl (a0c ?_)
  refine a0p (fun a ha => ?_)
  cases hb2
  exact ⟨rfl, ha.cut (l := [1, 20]) rfl⟩
 clear hm
 rcases a0i hb1 with ⟨hb5, hb1⟩ | ⟨hb5, hb1⟩
 ·refine a1e 9 rfl hb5 ?_
  refine a0r rfl (by decide) rfl (a0r rfl (by decide) rfl (a0r rfl (by decide) rfl (a0r rfl (by decide) rfl (a0m rfl rfl rfl rfl (a0c ?_)))))
  refine a0p (fun a ha => ?_)
  cases hb1
  exact ⟨_, Frz.refl _, hx2.pick [0] (by decide) rfl, ha.cut (l := [1, 14]) rfl⟩
 refine a1e 9 rfl hb5 ?_
 refine a0h fa26_1 rfl rfl rfl ?_
 refine a1f (cs' := [.int .i64 f1.Q.Sign, .slice as2 ns2 cs2]) ag24 sz24 rfl rfl hx2 rfl (i := 0) rfl rfl rfl ?_
 obtain ⟨v7, hv5, hb1⟩ := bind_some hb1
 refine a0g ent63 rfl rfl rfl rfl hx2 (a2l _ _ _ hv5 hx2.sat (hs2.mono hF1)) ?_
 rintro _ Fx6 _ wx11 hF6 hx10 ⟨rfl, rfl⟩
 refine a2x rfl rfl rfl (a0l rfl rfl rfl rfl (a0c ?_))
 refine a0p (fun a ha => ?_)
 cases hb1
 exact ⟨_, hF6, hx10.pick [0] (by decide) rfl, ha.cut (l := [1, 14]) rfl⟩
theorem ent66 : Ent Tryz.prog 66 := fun _ _ => by kernel_rfl
def a5g (n : Nat) (p1 : Big) (q1 : Big) : Option (Frac × Int) :=
 (a2i n p1).bind fun v1 =>
 (bif !v1 then
  some true
 else
  (a2i n q1).bind fun v8 =>
  some (!v8)).bind fun v2 =>
 bif v2 then
  some ((⟨(⟨0, []⟩ : Big), (⟨0, []⟩ : Big)⟩ : Frac), 1)
 else
  bif q1.Sign == 0 then
   some ((⟨(⟨0, []⟩ : Big), (⟨0, []⟩ : Big)⟩ : Frac), 14)
  else
   (bif decide (q1.Sign < 0) then
    (a9a n p1).bind fun v6 =>
    (a9a n q1).bind fun v7 =>
    some (v7.Sign, v7.Digits, v6.Sign, v6.Digits)
   else
    some (q1.Sign, q1.Digits, p1.Sign, p1.Digits)).bind fun (f1, f2, f3, f4) =>
   (b0i n (⟨f3, f4⟩ : Big) (⟨f1, f2⟩ : Big)).bind fun v3 =>
   (a8a n (⟨f3, f4⟩ : Big) v3.1).bind fun v4 =>
   (a8a n (⟨f1, f2⟩ : Big) v3.1).bind fun v5 =>
   some ((⟨v4.1, v5.1⟩ : Frac), 0)
set_option maxHeartbeats 1000000 in
set_option maxRecDepth 1000000 in
theorem a7q (n : Nat) (p1 : Big) (q1 : Big) (r : (Frac × Int)) (hm : a5g n p1 q1 = some r) {w : World} {F : Frz} (hs : Sat F w) {as1 : Option Addr} {ns1 : Nat} {cs1 : Nat} {as2 : Option Addr} {ns2 : Nat} {cs2 : Nat} (hs1 : SlR (Rp.int .i64) F as1 ns1 cs1 p1.Digits) (hs2 : SlR (Rp.int .i64) F as2 ns2 cs2 q1.Digits) :
  Calls Tryz.prog 24 #[.agg #[.int .i64 p1.Sign, .slice as1 ns1 cs1], .agg #[.int .i64 q1.Sign, .slice as2 ns2 cs2]] w fun e w' => ∃ v F' O', e = .returned v ∧ HS F w [] F' O' w' ∧ (∃ (a0_1 : Option Addr) (n0_1 : Nat) (c0_1 : Nat) (a0_3 : Option Addr) (n0_3 : Nat) (c0_3 : Nat), v = .tuple #[.agg #[.int .i64 r.1.P.Sign, .slice a0_1 n0_1 c0_1, .int .i64 r.1.Q.Sign, .slice a0_3 n0_3 c0_3], .int .i64 r.2] ∧ O' = [] ∧ SlR (Rp.int .i64) F' a0_1 n0_1 c0_1 r.1.P.Digits ∧ SlR (Rp.int .i64) F' a0_3 n0_3 c0_3 r.1.Q.Digits) := by
 unfold a5g at hm
 have h := HS.init hs
 refine a0x 57 Tryz.func24 rfl rfl rfl ?_
 refine a0f (a0a ?_)
 refine a2o rfl rfl rfl rfl h ?_
 intro b1 wx1 hx1
 refine a2o rfl rfl rfl rfl hx1 ?_
 intro b2 wx2 hx2
 refine a0y ze26 rfl rfl rfl hx2 ?_
 intro b3 wx3 hx3
 refine a0b rfl rfl rfl (a0c (a0d (a0f (a0f (a0a ?_)))))
 refine a0k ag24 sz24 rfl rfl hx3 rfl (i := 2) rfl rfl ?_
 obtain ⟨v1, hv1, hm⟩ := bind_some hm
 refine a0g ent63 rfl rfl rfl rfl hx3 (a2l _ _ _ hv1 hx3.sat hs1) ?_
 rintro _ Fx1 _ wx4 hF1 hx4 ⟨rfl, rfl⟩
 refine a2x rfl rfl rfl (a0e rfl rfl rfl ?_)
 obtain ⟨v2, hb1, hm⟩ := bind_some hm
 refine a2k 4 (fun a w' => ∃ (Fx2 : Frz), Frz.le Fx1 Fx2 ∧ HS F w [] Fx2 [.box b3 26 [.int .i64 0, .slice none 0 0, .int .i64 0, .slice none 0 0], .box b2 24 [.int .i64 q1.Sign, .slice as2 ns2 cs2], .box b1 24 [.int .i64 p1.Sign, .slice as1 ns1 cs1]] w' ∧ Has 57 a [(2, .pointer (some ⟨b1, 0, none⟩)), (3, .pointer (some ⟨b2, 0, none⟩)), (4, .pointer (some ⟨b3, 0, none⟩)), (21, .bool v2)]) ?_ ?_
 ·rintro a wx5 ⟨Fx2, hF2, hx5, hax1⟩
  refine a1a hax1 ?_
  refine a0c (a0d ?_)
  rcases a0i hm with ⟨hb2, hm⟩ | ⟨hb2, hm⟩
  ·refine a0u 21 rfl hb2 ?_
   refine a0z rfl (a0f (a0a ?_))
   refine a1r (v := .agg #[.int .i64 0, .slice none 0 0, .int .i64 0, .slice none 0 0]) rfl rfl rfl (fun _ => by kernel_rfl) ?_
   refine a0o sz26 rfl hx5 rfl rfl rfl rfl (i := 0) rfl rfl rfl rfl ?_
   intro wx6 hx6
   refine a0b rfl rfl rfl (a0c (a0d (a1d (a0n ?_))))
   refine a1k (vl := [.agg #[.int .i64 0, .slice none 0 0, .int .i64 0, .slice none 0 0], .int .i64 1]) rfl ⟨a1q ag26 sz26 rfl hx6 rfl (i := 0) rfl, a1w rfl, trivial⟩ (by simp) ?_
   obtain rfl := Option.some.inj hm
   exact ⟨_, _, _, rfl, hx6.pick [] (by decide) rfl, none, 0, 0, none, 0, 0, rfl, rfl, SlR.nil _ _, SlR.nil _ _⟩
  refine a0u 21 rfl hb2 ?_
  refine a0s rfl (a1b (a0d (a0f (a0f (a0a ?_)))))
  refine a0h fa24_0 rfl rfl rfl ?_
  refine a0t ag3 rfl rfl hx5 rfl (i := 1) rfl rfl ?_
  refine a0v rfl rfl rfl rfl rfl ?_
  refine a0c (a0d ?_)
  rcases a0i hm with ⟨hb3, hm⟩ | ⟨hb3, hm⟩
  ·refine a0u 25 rfl hb3 ?_
   refine a0z rfl (a0f (a0a ?_))
   refine a1r (v := .agg #[.int .i64 0, .slice none 0 0, .int .i64 0, .slice none 0 0]) rfl rfl rfl (fun _ => by kernel_rfl) ?_
   refine a0o sz26 rfl hx5 rfl rfl rfl rfl (i := 0) rfl rfl rfl rfl ?_
   intro wx7 hx7
   refine a0b rfl rfl rfl (a0c (a0d (a1d (a0n ?_))))
   refine a1k (vl := [.agg #[.int .i64 0, .slice none 0 0, .int .i64 0, .slice none 0 0], .int .i64 14]) rfl ⟨a1q ag26 sz26 rfl hx7 rfl (i := 0) rfl, a1w rfl, trivial⟩ (by simp) ?_
   obtain rfl := Option.some.inj hm
   exact ⟨_, _, _, rfl, hx7.pick [] (by decide) rfl, none, 0, 0, none, 0, 0, rfl, rfl, SlR.nil _ _, SlR.nil _ _⟩
  refine a0u 25 rfl hb3 ?_
  refine a0s rfl (a1b (a0d (a0f (a0f (a0a ?_)))))
  refine a0h fa24_0 rfl rfl rfl ?_
  refine a0t ag3 rfl rfl hx5 rfl (i := 1) rfl rfl ?_
  refine a0v rfl rfl rfl rfl rfl ?_
  refine a0c (a0d ?_)
  obtain ⟨⟨f1, f2, f3, f4⟩, hb4, hm⟩ := bind_some hm
  refine b0q (fun a w' => ∃ (Fx3 : Frz) (as3 : Option Addr) (ns3 : Nat) (cs3 : Nat) (as4 : Option Addr) (ns4 : Nat) (cs4 : Nat), Frz.le Fx2 Fx3 ∧ HS F w [] Fx3 [.box b3 26 [.int .i64 0, .slice none 0 0, .int .i64 0, .slice none 0 0], .box b2 24 [.int .i64 f1, .slice as3 ns3 cs3], .box b1 24 [.int .i64 f3, .slice as4 ns4 cs4]] w' ∧ (SlR (Rp.int .i64) Fx3 as3 ns3 cs3 f2) ∧ (SlR (Rp.int .i64) Fx3 as4 ns4 cs4 f4) ∧ Has 57 a [(2, .pointer (some ⟨b1, 0, none⟩)), (3, .pointer (some ⟨b2, 0, none⟩)), (4, .pointer (some ⟨b3, 0, none⟩))]) ?_ ?_
  ·rintro a wx8 ⟨Fx3, as3, ns3, cs3, as4, ns4, cs4, hF3, hx8, hs3, hs4, hax2⟩
   refine a1l hax2 ?_
   refine a0f (a0a ?_)
   refine a0k ag24 sz24 rfl rfl hx8 rfl (i := 2) rfl rfl ?_
   refine a0k ag24 sz24 rfl rfl hx8 rfl (i := 1) rfl rfl ?_
   obtain ⟨v3, hv2, hm⟩ := bind_some hm
   refine a0g ent65 rfl rfl rfl rfl hx8 (b5x _ _ _ _ hv2 hx8.sat hs4 hs3) ?_
   rintro _ Fx4 _ wx9 hF4 hx9 ⟨as5, ns5, cs5, rfl, rfl, hs5⟩
   refine a0e rfl rfl rfl (a0j rfl rfl rfl rfl (a0j rfl rfl rfl rfl ?_))
   refine a0y ze24 rfl rfl rfl hx9 ?_
   intro b4 wx10 hx10
   refine a0o sz24 rfl hx10 rfl rfl rfl rfl (i := 0) rfl rfl rfl rfl ?_
   intro wx11 hx11
   refine a0b rfl rfl rfl (a0c (a0d (a0f (a0a ?_))))
   refine a0k ag24 sz24 rfl rfl hx11 rfl (i := 3) rfl rfl ?_
   refine a0k ag24 sz24 rfl rfl hx11 rfl (i := 0) rfl rfl ?_
   obtain ⟨v4, hv3, hm⟩ := bind_some hm
   refine a0g ent66 rfl rfl rfl rfl hx11 (b2s _ _ _ _ hv3 hx11.sat (hs4.mono hF4) hs5) ?_
   rintro _ Fx5 _ wx12 hF5 hx12 ⟨as6, ns6, cs6, as7, ns7, cs7, rfl, rfl, hs6, hs7⟩
   refine a0e rfl rfl rfl (a0j rfl rfl rfl rfl (a0j rfl rfl rfl rfl (a0j rfl rfl rfl rfl ?_)))
   refine a0y ze24 rfl rfl rfl hx12 ?_
   intro b5 wx13 hx13
   refine a0y ze24 rfl rfl rfl hx13 ?_
   intro b6 wx14 hx14
   refine a0o sz24 rfl hx14 rfl rfl rfl rfl (i := 1) rfl rfl rfl rfl ?_
   intro wx15 hx15
   refine a0o sz24 rfl hx15 rfl rfl rfl rfl (i := 0) rfl rfl rfl rfl ?_
   intro wx16 hx16
   refine a0b rfl rfl rfl (a0c (a0d (a0f (a0a ?_))))
   refine a0k ag24 sz24 rfl rfl hx16 rfl (i := 4) rfl rfl ?_
   refine a0k ag24 sz24 rfl rfl hx16 rfl (i := 2) rfl rfl ?_
   obtain ⟨v5, hv4, hm⟩ := bind_some hm
   refine a0g ent66 rfl rfl rfl rfl hx16 (b2s _ _ _ _ hv4 hx16.sat ((hs3.mono hF4).mono hF5) (hs5.mono hF5)) ?_
   rintro _ Fx6 _ wx17 hF6 hx17 ⟨as8, ns8, cs8, as9, ns9, cs9, rfl, rfl, hs8, hs9⟩
   refine a0e rfl rfl rfl (a0j rfl rfl rfl rfl (a0j rfl rfl rfl rfl (a0j rfl rfl rfl rfl ?_)))
   refine a0y ze24 rfl rfl rfl hx17 ?_
   intro b7 wx18 hx18
   refine a0y ze24 rfl rfl rfl hx18 ?_
   intro b8 wx19 hx19
   refine a0o sz24 rfl hx19 rfl rfl rfl rfl (i := 1) rfl rfl rfl rfl ?_
   intro wx20 hx20
   refine a0o sz24 rfl hx20 rfl rfl rfl rfl (i := 0) rfl rfl rfl rfl ?_
   intro wx21 hx21
   refine a0b rfl rfl rfl (a0c (a0d (a0f (a0a ?_))))
   refine a0k ag24 sz24 rfl rfl hx21 rfl (i := 3) rfl rfl ?_
   refine a0k ag24 sz24 rfl rfl hx21 rfl (i := 1) rfl rfl ?_
   refine a1r (v := .agg #[.int .i64 v4.1.Sign, .slice as6 ns6 cs6, .int .i64 v5.1.Sign, .slice as8 ns8 cs8]) rfl rfl rfl (fun _ => by kernel_rfl) ?_
   refine a0o sz26 rfl hx21 rfl rfl rfl rfl (i := 5) rfl rfl rfl rfl ?_
   intro wx22 hx22
   refine a0b rfl rfl rfl (a0c (a0d (a1d ?_)))
   refine a1k (vl := [.agg #[.int .i64 v4.1.Sign, .slice as6 ns6 cs6, .int .i64 v5.1.Sign, .slice as8 ns8 cs8], .int .i64 0]) rfl ⟨a1q ag26 sz26 rfl hx22 rfl (i := 5) rfl, a1w rfl, trivial⟩ (by simp) ?_
   obtain rfl := Option.some.inj hm
   exact ⟨_, _, _, rfl, hx22.pick [] (by decide) rfl, as6, ns6, cs6, as8, ns8, cs8, rfl, rfl, (hs6.mono hF6), hs8⟩
  clear hm
  rcases a0i hb4 with ⟨hb5, hb4⟩ | ⟨hb5, hb4⟩
  ·refine a0u 29 rfl hb5 ?_
   refine a0z rfl (a0f (a0a ?_))
   refine a0k ag24 sz24 rfl rfl hx5 rfl (i := 2) rfl rfl ?_
   obtain ⟨v6, hv5, hb4⟩ := bind_some hb4
   refine a0g ent64 rfl rfl rfl rfl hx5 (a8w _ _ _ hv5 hx5.sat ((hs1.mono hF1).mono hF2)) ?_
   rintro _ Fx7 _ wx23 hF7 hx23 ⟨as10, ns10, cs10, rfl, rfl, hs10⟩
   refine a0o sz24 rfl hx23 rfl rfl rfl rfl (i := 2) rfl rfl rfl rfl ?_
   intro wx24 hx24
   refine a0c (a0d (a0a ?_))
   refine a0k ag24 sz24 rfl rfl hx24 rfl (i := 1) rfl rfl ?_
   obtain ⟨v7, hv6, hb4⟩ := bind_some hb4
   refine a0g ent64 rfl rfl rfl rfl hx24 (a8w _ _ _ hv6 hx24.sat (((hs2.mono hF1).mono hF2).mono hF7)) ?_
   rintro _ Fx8 _ wx25 hF8 hx25 ⟨as11, ns11, cs11, rfl, rfl, hs11⟩
   refine a0o sz24 rfl hx25 rfl rfl rfl rfl (i := 1) rfl rfl rfl rfl ?_
   intro wx26 hx26
   refine a0c ?_
   refine a0p (fun a ha => ?_)
   cases hb4
   exact ⟨_, as11, ns11, cs11, as10, ns10, cs10, (hF7.trans hF8), hx26.pick [0, 1, 2] (by decide) rfl, hs11, (hs10.mono hF8), ha.cut (l := [2, 3, 4]) rfl⟩
  refine a0u 29 rfl hb5 ?_
  refine a0s rfl (a1b ?_)
  refine a0p (fun a ha => ?_)
  cases hb4
  exact ⟨_, as2, ns2, cs2, as1, ns1, cs1, Frz.refl _, hx5.pick [0, 1, 2] (by decide) rfl, ((hs2.mono hF1).mono hF2), ((hs1.mono hF1).mono hF2), ha.cut (l := [2, 3, 4]) rfl⟩
 clear hm
 rcases a0i hb1 with ⟨hb6, hb1⟩ | ⟨hb6, hb1⟩
 ·refine a1e 17 rfl hb6 ?_
  refine a0r rfl (by decide) rfl (a0r rfl (by decide) rfl (a0r rfl (by decide) rfl (a0m rfl rfl rfl rfl (a0c ?_))))
  refine a0p (fun a ha => ?_)
  cases hb1
  exact ⟨_, Frz.refl _, hx4.pick [0, 1, 2] (by decide) rfl, ha.cut (l := [2, 3, 4, 21]) rfl⟩
 refine a1e 17 rfl hb6 ?_
 refine a0k ag24 sz24 rfl rfl hx4 rfl (i := 1) rfl rfl ?_
 obtain ⟨v8, hv7, hb1⟩ := bind_some hb1
 refine a0g ent63 rfl rfl rfl rfl hx4 (a2l _ _ _ hv7 hx4.sat (hs2.mono hF1)) ?_
 rintro _ Fx9 _ wx27 hF9 hx27 ⟨rfl, rfl⟩
 refine a2x rfl rfl rfl (a0l rfl rfl rfl rfl (a0c ?_))
 refine a0p (fun a ha => ?_)
 cases hb1
 exact ⟨_, hF9, hx27.pick [0, 1, 2] (by decide) rfl, ha.cut (l := [2, 3, 4, 21]) rfl⟩
theorem ent24 : Ent Tryz.prog 24 := fun _ _ => by kernel_rfl
def a9k (n : Nat) (p1 : Int) (q1 : Int) : Option (Frac × Int) :=
 (b0z n p1).bind fun v1 =>
 (b0z n q1).bind fun v2 =>
 (a5g n v1 v2).bind fun v3 =>
 some (v3.1, v3.2)
set_option maxHeartbeats 1000000 in
set_option maxRecDepth 1000000 in
theorem b7m (n : Nat) (p1 : Int) (q1 : Int) (r : (Frac × Int)) (hm : a9k n p1 q1 = some r) {w : World} {F : Frz} (hs : Sat F w)  :
  Calls Tryz.prog 20 #[.int .i64 p1, .int .i64 q1] w fun e w' => ∃ v F' O', e = .returned v ∧ HS F w [] F' O' w' ∧ (∃ (a0_1 : Option Addr) (n0_1 : Nat) (c0_1 : Nat) (a0_3 : Option Addr) (n0_3 : Nat) (c0_3 : Nat), v = .tuple #[.agg #[.int .i64 r.1.P.Sign, .slice a0_1 n0_1 c0_1, .int .i64 r.1.Q.Sign, .slice a0_3 n0_3 c0_3], .int .i64 r.2] ∧ O' = [] ∧ SlR (Rp.int .i64) F' a0_1 n0_1 c0_1 r.1.P.Digits ∧ SlR (Rp.int .i64) F' a0_3 n0_3 c0_3 r.1.Q.Digits) := by
 unfold a9k at hm
 have h := HS.init hs
 refine a0x 13 Tryz.func20 rfl rfl rfl ?_
 refine a0f (a0a ?_)
 refine a0y ze26 rfl rfl rfl h ?_
 intro b1 wx1 hx1
 refine a0b rfl rfl rfl (a0c (a0d (a0f (a0a (a0e rfl rfl rfl ?_)))))
 obtain ⟨v1, hv1, hm⟩ := bind_some hm
 refine a0g ent56 rfl rfl rfl rfl hx1 (b4g _ _ _ hv1 hx1.sat) ?_
 rintro _ Fx1 _ wx2 hF1 hx2 ⟨as1, ns1, cs1, rfl, rfl, hs1⟩
 refine a0e rfl rfl rfl ?_
 obtain ⟨v2, hv2, hm⟩ := bind_some hm
 refine a0g ent56 rfl rfl rfl rfl hx2 (b4g _ _ _ hv2 hx2.sat) ?_
 rintro _ Fx2 _ wx3 hF2 hx3 ⟨as2, ns2, cs2, rfl, rfl, hs2⟩
 obtain ⟨v3, hv3, hm⟩ := bind_some hm
 refine a0g ent24 rfl rfl rfl rfl hx3 (a7q _ _ _ _ hv3 hx3.sat (hs1.mono hF2) hs2) ?_
 rintro _ Fx3 _ wx4 hF3 hx4 ⟨as3, ns3, cs3, as4, ns4, cs4, rfl, rfl, hs3, hs4⟩
 refine a0j rfl rfl rfl rfl (a0j rfl rfl rfl rfl ?_)
 refine a0o sz26 rfl hx4 rfl rfl rfl rfl (i := 0) rfl rfl rfl rfl ?_
 intro wx5 hx5
 refine a0b rfl rfl rfl (a0c (a0d (a1d ?_)))
 refine a1k (vl := [.agg #[.int .i64 v3.1.P.Sign, .slice as3 ns3 cs3, .int .i64 v3.1.Q.Sign, .slice as4 ns4 cs4], .int .i64 v3.2]) rfl ⟨a1q ag26 sz26 rfl hx5 rfl (i := 0) rfl, a1w rfl, trivial⟩ (by simp) ?_
 obtain rfl := Option.some.inj hm
 exact ⟨_, _, _, rfl, hx5.pick [] (by decide) rfl, as3, ns3, cs3, as4, ns4, cs4, rfl, rfl, hs3, hs4⟩
theorem ent26 : Ent Tryz.prog 26 := fun _ _ => by kernel_rfl
theorem ent53 : Ent Tryz.prog 53 := fun _ _ => by kernel_rfl
def a9r (n : Nat) (ax1 : Frac) (b1 : Frac) : Option (Frac × Int) :=
 (a2f n ax1).bind fun v1 =>
 (bif !v1 then
  some true
 else
  (a2f n b1).bind fun v8 =>
  some (!v8)).bind fun v2 =>
 bif v2 then
  some ((⟨(⟨0, []⟩ : Big), (⟨0, []⟩ : Big)⟩ : Frac), 1)
 else
  (a3u n ax1.P b1.Q).bind fun v3 =>
  (a3u n b1.P ax1.Q).bind fun v4 =>
  (a3u n ax1.Q b1.Q).bind fun v5 =>
  (b1l n v3.1 v4.1).bind fun v6 =>
  (a5g n v6.1 v5.1).bind fun v7 =>
  some (v7.1, v7.2)
set_option maxHeartbeats 1000000 in
set_option maxRecDepth 1000000 in
theorem c0t (n : Nat) (ax1 : Frac) (b1 : Frac) (r : (Frac × Int)) (hm : a9r n ax1 b1 = some r) {w : World} {F : Frz} (hs : Sat F w) {as1 : Option Addr} {ns1 : Nat} {cs1 : Nat} {as2 : Option Addr} {ns2 : Nat} {cs2 : Nat} {as3 : Option Addr} {ns3 : Nat} {cs3 : Nat} {as4 : Option Addr} {ns4 : Nat} {cs4 : Nat} (hs1 : SlR (Rp.int .i64) F as1 ns1 cs1 ax1.P.Digits) (hs2 : SlR (Rp.int .i64) F as2 ns2 cs2 ax1.Q.Digits) (hs3 : SlR (Rp.int .i64) F as3 ns3 cs3 b1.P.Digits) (hs4 : SlR (Rp.int .i64) F as4 ns4 cs4 b1.Q.Digits) :
  Calls Tryz.prog 11 #[.agg #[.int .i64 ax1.P.Sign, .slice as1 ns1 cs1, .int .i64 ax1.Q.Sign, .slice as2 ns2 cs2], .agg #[.int .i64 b1.P.Sign, .slice as3 ns3 cs3, .int .i64 b1.Q.Sign, .slice as4 ns4 cs4]] w fun e w' => ∃ v F' O', e = .returned v ∧ HS F w [] F' O' w' ∧ (∃ (a0_1 : Option Addr) (n0_1 : Nat) (c0_1 : Nat) (a0_3 : Option Addr) (n0_3 : Nat) (c0_3 : Nat), v = .tuple #[.agg #[.int .i64 r.1.P.Sign, .slice a0_1 n0_1 c0_1, .int .i64 r.1.Q.Sign, .slice a0_3 n0_3 c0_3], .int .i64 r.2] ∧ O' = [] ∧ SlR (Rp.int .i64) F' a0_1 n0_1 c0_1 r.1.P.Digits ∧ SlR (Rp.int .i64) F' a0_3 n0_3 c0_3 r.1.Q.Digits) := by
 unfold a9r at hm
 have h := HS.init hs
 refine a0x 58 Tryz.func11 rfl rfl rfl ?_
 refine a0f (a0a ?_)
 refine a2o rfl rfl rfl rfl h ?_
 intro b2 wx1 hx1
 refine a2o rfl rfl rfl rfl hx1 ?_
 intro b3 wx2 hx2
 refine a0y ze26 rfl rfl rfl hx2 ?_
 intro b4 wx3 hx3
 refine a0b rfl rfl rfl (a0c (a0d (a0f (a0f (a0a ?_)))))
 refine a0k ag26 sz26 rfl rfl hx3 rfl (i := 2) rfl rfl ?_
 obtain ⟨v1, hv1, hm⟩ := bind_some hm
 refine a0g ent26 rfl rfl rfl rfl hx3 (a2b _ _ _ hv1 hx3.sat hs1 hs2) ?_
 rintro _ Fx1 _ wx4 hF1 hx4 ⟨rfl, rfl⟩
 refine a2x rfl rfl rfl (a0e rfl rfl rfl ?_)
 obtain ⟨v2, hb1, hm⟩ := bind_some hm
 refine a2k 4 (fun a w' => ∃ (Fx2 : Frz), Frz.le Fx1 Fx2 ∧ HS F w [] Fx2 [.box b4 26 [.int .i64 0, .slice none 0 0, .int .i64 0, .slice none 0 0], .box b3 26 [.int .i64 b1.P.Sign, .slice as3 ns3 cs3, .int .i64 b1.Q.Sign, .slice as4 ns4 cs4], .box b2 26 [.int .i64 ax1.P.Sign, .slice as1 ns1 cs1, .int .i64 ax1.Q.Sign, .slice as2 ns2 cs2]] w' ∧ Has 58 a [(2, .pointer (some ⟨b2, 0, none⟩)), (3, .pointer (some ⟨b3, 0, none⟩)), (4, .pointer (some ⟨b4, 0, none⟩)), (21, .bool v2)]) ?_ ?_
 ·rintro a wx5 ⟨Fx2, hF2, hx5, hax1⟩
  refine a1a hax1 ?_
  refine a0c (a0d ?_)
  rcases a0i hm with ⟨hb2, hm⟩ | ⟨hb2, hm⟩
  ·refine a0u 21 rfl hb2 ?_
   refine a0z rfl (a0f (a0a ?_))
   refine a1r (v := .agg #[.int .i64 0, .slice none 0 0, .int .i64 0, .slice none 0 0]) rfl rfl rfl (fun _ => by kernel_rfl) ?_
   refine a0o sz26 rfl hx5 rfl rfl rfl rfl (i := 0) rfl rfl rfl rfl ?_
   intro wx6 hx6
   refine a0b rfl rfl rfl (a0c (a0d (a1d (a0n ?_))))
   refine a1k (vl := [.agg #[.int .i64 0, .slice none 0 0, .int .i64 0, .slice none 0 0], .int .i64 1]) rfl ⟨a1q ag26 sz26 rfl hx6 rfl (i := 0) rfl, a1w rfl, trivial⟩ (by simp) ?_
   obtain rfl := Option.some.inj hm
   exact ⟨_, _, _, rfl, hx6.pick [] (by decide) rfl, none, 0, 0, none, 0, 0, rfl, rfl, SlR.nil _ _, SlR.nil _ _⟩
  refine a0u 21 rfl hb2 ?_
  refine a0s rfl (a1b (a0d (a0f (a0a ?_))))
  refine a0h fa26_0 rfl rfl rfl ?_
  refine a1f (cs' := [.int .i64 ax1.P.Sign, .slice as1 ns1 cs1]) ag24 sz24 rfl rfl hx5 rfl (i := 2) rfl rfl rfl ?_
  refine a0h fa26_1 rfl rfl rfl ?_
  refine a1f (cs' := [.int .i64 b1.Q.Sign, .slice as4 ns4 cs4]) ag24 sz24 rfl rfl hx5 rfl (i := 1) rfl rfl rfl ?_
  obtain ⟨v3, hv2, hm⟩ := bind_some hm
  refine a0g ent53 rfl rfl rfl rfl hx5 (a4d _ _ _ _ hv2 hx5.sat ((hs1.mono hF1).mono hF2) ((hs4.mono hF1).mono hF2)) ?_
  rintro _ Fx3 _ wx7 hF3 hx7 ⟨as5, ns5, cs5, rfl, rfl, hs5⟩
  refine a0e rfl rfl rfl (a0j rfl rfl rfl rfl (a0j rfl rfl rfl rfl ?_))
  refine a0y ze24 rfl rfl rfl hx7 ?_
  intro b5 wx8 hx8
  refine a0o sz24 rfl hx8 rfl rfl rfl rfl (i := 0) rfl rfl rfl rfl ?_
  intro wx9 hx9
  refine a0b rfl rfl rfl (a0c (a0d (a0f (a0a ?_))))
  refine a0h fa26_0 rfl rfl rfl ?_
  refine a1f (cs' := [.int .i64 b1.P.Sign, .slice as3 ns3 cs3]) ag24 sz24 rfl rfl hx9 rfl (i := 2) rfl rfl rfl ?_
  refine a0h fa26_1 rfl rfl rfl ?_
  refine a1f (cs' := [.int .i64 ax1.Q.Sign, .slice as2 ns2 cs2]) ag24 sz24 rfl rfl hx9 rfl (i := 3) rfl rfl rfl ?_
  obtain ⟨v4, hv3, hm⟩ := bind_some hm
  refine a0g ent53 rfl rfl rfl rfl hx9 (a4d _ _ _ _ hv3 hx9.sat (((hs3.mono hF1).mono hF2).mono hF3) (((hs2.mono hF1).mono hF2).mono hF3)) ?_
  rintro _ Fx4 _ wx10 hF4 hx10 ⟨as6, ns6, cs6, rfl, rfl, hs6⟩
  refine a0e rfl rfl rfl (a0j rfl rfl rfl rfl (a0j rfl rfl rfl rfl ?_))
  refine a0y ze24 rfl rfl rfl hx10 ?_
  intro b6 wx11 hx11
  refine a0o sz24 rfl hx11 rfl rfl rfl rfl (i := 0) rfl rfl rfl rfl ?_
  intro wx12 hx12
  refine a0b rfl rfl rfl (a0c (a0d (a0f (a0a ?_))))
  refine a0h fa26_1 rfl rfl rfl ?_
  refine a1f (cs' := [.int .i64 ax1.Q.Sign, .slice as2 ns2 cs2]) ag24 sz24 rfl rfl hx12 rfl (i := 4) rfl rfl rfl ?_
  refine a0h fa26_1 rfl rfl rfl ?_
  refine a1f (cs' := [.int .i64 b1.Q.Sign, .slice as4 ns4 cs4]) ag24 sz24 rfl rfl hx12 rfl (i := 3) rfl rfl rfl ?_
  have hG1 := ((hF1.trans hF2).trans hF3).trans hF4
  obtain ⟨v5, hv4, hm⟩ := bind_some hm
  refine a0g ent53 rfl rfl rfl rfl hx12 (a4d _ _ _ _ hv4 hx12.sat (hs2.mono hG1) (hs4.mono hG1)) ?_
  rintro _ Fx5 _ wx13 hF5 hx13 ⟨as7, ns7, cs7, rfl, rfl, hs7⟩
  refine a0e rfl rfl rfl (a0j rfl rfl rfl rfl (a0j rfl rfl rfl rfl ?_))
  refine a0y ze24 rfl rfl rfl hx13 ?_
  intro b7 wx14 hx14
  refine a0o sz24 rfl hx14 rfl rfl rfl rfl (i := 0) rfl rfl rfl rfl ?_
  intro wx15 hx15
  refine a0b rfl rfl rfl (a0c (a0d (a0f (a0a ?_))))
  refine a0k ag24 sz24 rfl rfl hx15 rfl (i := 2) rfl rfl ?_
  refine a0k ag24 sz24 rfl rfl hx15 rfl (i := 1) rfl rfl ?_
  obtain ⟨v6, hv5, hm⟩ := bind_some hm
  refine a0g ent54 rfl rfl rfl rfl hx15 (b0s _ _ _ _ hv5 hx15.sat ((hs5.mono hF4).mono hF5) (hs6.mono hF5)) ?_
  rintro _ Fx6 _ wx16 hF6 hx16 ⟨as8, ns8, cs8, rfl, rfl, hs8⟩
  refine a0e rfl rfl rfl (a0j rfl rfl rfl rfl (a0j rfl rfl rfl rfl ?_))
  refine a0y ze24 rfl rfl rfl hx16 ?_
  intro b8 wx17 hx17
  refine a0o sz24 rfl hx17 rfl rfl rfl rfl (i := 0) rfl rfl rfl rfl ?_
  intro wx18 hx18
  refine a0b rfl rfl rfl (a0c (a0d (a0f (a0a ?_))))
  refine a0k ag24 sz24 rfl rfl hx18 rfl (i := 0) rfl rfl ?_
  refine a0k ag24 sz24 rfl rfl hx18 rfl (i := 1) rfl rfl ?_
  obtain ⟨v7, hv6, hm⟩ := bind_some hm
  refine a0g ent24 rfl rfl rfl rfl hx18 (a7q _ _ _ _ hv6 hx18.sat hs8 (hs7.mono hF6)) ?_
  rintro _ Fx7 _ wx19 hF7 hx19 ⟨as9, ns9, cs9, as10, ns10, cs10, rfl, rfl, hs9, hs10⟩
  refine a0j rfl rfl rfl rfl (a0j rfl rfl rfl rfl ?_)
  refine a0o sz26 rfl hx19 rfl rfl rfl rfl (i := 4) rfl rfl rfl rfl ?_
  intro wx20 hx20
  refine a0b rfl rfl rfl (a0c (a0d (a1d ?_)))
  refine a1k (vl := [.agg #[.int .i64 v7.1.P.Sign, .slice as9 ns9 cs9, .int .i64 v7.1.Q.Sign, .slice as10 ns10 cs10], .int .i64 v7.2]) rfl ⟨a1q ag26 sz26 rfl hx20 rfl (i := 4) rfl, a1w rfl, trivial⟩ (by simp) ?_
  obtain rfl := Option.some.inj hm
  exact ⟨_, _, _, rfl, hx20.pick [] (by decide) rfl, as9, ns9, cs9, as10, ns10, cs10, rfl, rfl, hs9, hs10⟩
 clear hm
 rcases a0i hb1 with ⟨hb3, hb1⟩ | ⟨hb3, hb1⟩
 ·refine a1e 17 rfl hb3 ?_
  refine a0r rfl (by decide) rfl (a0r rfl (by decide) rfl (a0r rfl (by decide) rfl (a0m rfl rfl rfl rfl (a0c ?_))))
  refine a0p (fun a ha => ?_)
  cases hb1
  exact ⟨_, Frz.refl _, hx4.pick [0, 1, 2] (by decide) rfl, ha.cut (l := [2, 3, 4, 21]) rfl⟩
 refine a1e 17 rfl hb3 ?_
 refine a0k ag26 sz26 rfl rfl hx4 rfl (i := 1) rfl rfl ?_
 obtain ⟨v8, hv7, hb1⟩ := bind_some hb1
 refine a0g ent26 rfl rfl rfl rfl hx4 (a2b _ _ _ hv7 hx4.sat (hs3.mono hF1) (hs4.mono hF1)) ?_
 rintro _ Fx8 _ wx21 hF8 hx21 ⟨rfl, rfl⟩
 refine a2x rfl rfl rfl (a0l rfl rfl rfl rfl (a0c ?_))
 refine a0p (fun a ha => ?_)
 cases hb1
 exact ⟨_, hF8, hx21.pick [0, 1, 2] (by decide) rfl, ha.cut (l := [2, 3, 4, 21]) rfl⟩
theorem ent55 : Ent Tryz.prog 55 := fun _ _ => by kernel_rfl
def b0b (n : Nat) (ax1 : Frac) (b1 : Frac) : Option (Frac × Int) :=
 (a2f n ax1).bind fun v1 =>
 (bif !v1 then
  some true
 else
  (a2f n b1).bind fun v8 =>
  some (!v8)).bind fun v2 =>
 bif v2 then
  some ((⟨(⟨0, []⟩ : Big), (⟨0, []⟩ : Big)⟩ : Frac), 1)
 else
  (a3u n ax1.P b1.Q).bind fun v3 =>
  (a3u n b1.P ax1.Q).bind fun v4 =>
  (a3u n ax1.Q b1.Q).bind fun v5 =>
  (b2x n v3.1 v4.1).bind fun v6 =>
  (a5g n v6.1 v5.1).bind fun v7 =>
  some (v7.1, v7.2)
set_option maxHeartbeats 1000000 in
set_option maxRecDepth 1000000 in
theorem c0y (n : Nat) (ax1 : Frac) (b1 : Frac) (r : (Frac × Int)) (hm : b0b n ax1 b1 = some r) {w : World} {F : Frz} (hs : Sat F w) {as1 : Option Addr} {ns1 : Nat} {cs1 : Nat} {as2 : Option Addr} {ns2 : Nat} {cs2 : Nat} {as3 : Option Addr} {ns3 : Nat} {cs3 : Nat} {as4 : Option Addr} {ns4 : Nat} {cs4 : Nat} (hs1 : SlR (Rp.int .i64) F as1 ns1 cs1 ax1.P.Digits) (hs2 : SlR (Rp.int .i64) F as2 ns2 cs2 ax1.Q.Digits) (hs3 : SlR (Rp.int .i64) F as3 ns3 cs3 b1.P.Digits) (hs4 : SlR (Rp.int .i64) F as4 ns4 cs4 b1.Q.Digits) :
  Calls Tryz.prog 13 #[.agg #[.int .i64 ax1.P.Sign, .slice as1 ns1 cs1, .int .i64 ax1.Q.Sign, .slice as2 ns2 cs2], .agg #[.int .i64 b1.P.Sign, .slice as3 ns3 cs3, .int .i64 b1.Q.Sign, .slice as4 ns4 cs4]] w fun e w' => ∃ v F' O', e = .returned v ∧ HS F w [] F' O' w' ∧ (∃ (a0_1 : Option Addr) (n0_1 : Nat) (c0_1 : Nat) (a0_3 : Option Addr) (n0_3 : Nat) (c0_3 : Nat), v = .tuple #[.agg #[.int .i64 r.1.P.Sign, .slice a0_1 n0_1 c0_1, .int .i64 r.1.Q.Sign, .slice a0_3 n0_3 c0_3], .int .i64 r.2] ∧ O' = [] ∧ SlR (Rp.int .i64) F' a0_1 n0_1 c0_1 r.1.P.Digits ∧ SlR (Rp.int .i64) F' a0_3 n0_3 c0_3 r.1.Q.Digits) := by
 unfold b0b at hm
 have h := HS.init hs
 refine a0x 58 Tryz.func13 rfl rfl rfl ?_
 refine a0f (a0a ?_)
 refine a2o rfl rfl rfl rfl h ?_
 intro b2 wx1 hx1
 refine a2o rfl rfl rfl rfl hx1 ?_
 intro b3 wx2 hx2
 refine a0y ze26 rfl rfl rfl hx2 ?_
 intro b4 wx3 hx3
 refine a0b rfl rfl rfl (a0c (a0d (a0f (a0f (a0a ?_)))))
 refine a0k ag26 sz26 rfl rfl hx3 rfl (i := 2) rfl rfl ?_
 obtain ⟨v1, hv1, hm⟩ := bind_some hm
 refine a0g ent26 rfl rfl rfl rfl hx3 (a2b _ _ _ hv1 hx3.sat hs1 hs2) ?_
 rintro _ Fx1 _ wx4 hF1 hx4 ⟨rfl, rfl⟩
 refine a2x rfl rfl rfl (a0e rfl rfl rfl ?_)
 obtain ⟨v2, hb1, hm⟩ := bind_some hm
 refine a2k 4 (fun a w' => ∃ (Fx2 : Frz), Frz.le Fx1 Fx2 ∧ HS F w [] Fx2 [.box b4 26 [.int .i64 0, .slice none 0 0, .int .i64 0, .slice none 0 0], .box b3 26 [.int .i64 b1.P.Sign, .slice as3 ns3 cs3, .int .i64 b1.Q.Sign, .slice as4 ns4 cs4], .box b2 26 [.int .i64 ax1.P.Sign, .slice as1 ns1 cs1, .int .i64 ax1.Q.Sign, .slice as2 ns2 cs2]] w' ∧ Has 58 a [(2, .pointer (some ⟨b2, 0, none⟩)), (3, .pointer (some ⟨b3, 0, none⟩)), (4, .pointer (some ⟨b4, 0, none⟩)), (21, .bool v2)]) ?_ ?_
 ·rintro a wx5 ⟨Fx2, hF2, hx5, hax1⟩
  refine a1a hax1 ?_
  refine a0c (a0d ?_)
  rcases a0i hm with ⟨hb2, hm⟩ | ⟨hb2, hm⟩
  ·refine a0u 21 rfl hb2 ?_
   refine a0z rfl (a0f (a0a ?_))
   refine a1r (v := .agg #[.int .i64 0, .slice none 0 0, .int .i64 0, .slice none 0 0]) rfl rfl rfl (fun _ => by kernel_rfl) ?_
   refine a0o sz26 rfl hx5 rfl rfl rfl rfl (i := 0) rfl rfl rfl rfl ?_
   intro wx6 hx6
   refine a0b rfl rfl rfl (a0c (a0d (a1d (a0n ?_))))
   refine a1k (vl := [.agg #[.int .i64 0, .slice none 0 0, .int .i64 0, .slice none 0 0], .int .i64 1]) rfl ⟨a1q ag26 sz26 rfl hx6 rfl (i := 0) rfl, a1w rfl, trivial⟩ (by simp) ?_
   obtain rfl := Option.some.inj hm
   exact ⟨_, _, _, rfl, hx6.pick [] (by decide) rfl, none, 0, 0, none, 0, 0, rfl, rfl, SlR.nil _ _, SlR.nil _ _⟩
  refine a0u 21 rfl hb2 ?_
  refine a0s rfl (a1b (a0d (a0f (a0a ?_))))
  refine a0h fa26_0 rfl rfl rfl ?_
  refine a1f (cs' := [.int .i64 ax1.P.Sign, .slice as1 ns1 cs1]) ag24 sz24 rfl rfl hx5 rfl (i := 2) rfl rfl rfl ?_
  refine a0h fa26_1 rfl rfl rfl ?_
  refine a1f (cs' := [.int .i64 b1.Q.Sign, .slice as4 ns4 cs4]) ag24 sz24 rfl rfl hx5 rfl (i := 1) rfl rfl rfl ?_
  obtain ⟨v3, hv2, hm⟩ := bind_some hm
  refine a0g ent53 rfl rfl rfl rfl hx5 (a4d _ _ _ _ hv2 hx5.sat ((hs1.mono hF1).mono hF2) ((hs4.mono hF1).mono hF2)) ?_
  rintro _ Fx3 _ wx7 hF3 hx7 ⟨as5, ns5, cs5, rfl, rfl, hs5⟩
  refine a0e rfl rfl rfl (a0j rfl rfl rfl rfl (a0j rfl rfl rfl rfl ?_))
  refine a0y ze24 rfl rfl rfl hx7 ?_
  intro b5 wx8 hx8
  refine a0o sz24 rfl hx8 rfl rfl rfl rfl (i := 0) rfl rfl rfl rfl ?_
  intro wx9 hx9
  refine a0b rfl rfl rfl (a0c (a0d (a0f (a0a ?_))))
  refine a0h fa26_0 rfl rfl rfl ?_
  refine a1f (cs' := [.int .i64 b1.P.Sign, .slice as3 ns3 cs3]) ag24 sz24 rfl rfl hx9 rfl (i := 2) rfl rfl rfl ?_
  refine a0h fa26_1 rfl rfl rfl ?_
  refine a1f (cs' := [.int .i64 ax1.Q.Sign, .slice as2 ns2 cs2]) ag24 sz24 rfl rfl hx9 rfl (i := 3) rfl rfl rfl ?_
  obtain ⟨v4, hv3, hm⟩ := bind_some hm
  refine a0g ent53 rfl rfl rfl rfl hx9 (a4d _ _ _ _ hv3 hx9.sat (((hs3.mono hF1).mono hF2).mono hF3) (((hs2.mono hF1).mono hF2).mono hF3)) ?_
  rintro _ Fx4 _ wx10 hF4 hx10 ⟨as6, ns6, cs6, rfl, rfl, hs6⟩
  refine a0e rfl rfl rfl (a0j rfl rfl rfl rfl (a0j rfl rfl rfl rfl ?_))
  refine a0y ze24 rfl rfl rfl hx10 ?_
  intro b6 wx11 hx11
  refine a0o sz24 rfl hx11 rfl rfl rfl rfl (i := 0) rfl rfl rfl rfl ?_
  intro wx12 hx12
  refine a0b rfl rfl rfl (a0c (a0d (a0f (a0a ?_))))
  refine a0h fa26_1 rfl rfl rfl ?_
  refine a1f (cs' := [.int .i64 ax1.Q.Sign, .slice as2 ns2 cs2]) ag24 sz24 rfl rfl hx12 rfl (i := 4) rfl rfl rfl ?_
  refine a0h fa26_1 rfl rfl rfl ?_
  refine a1f (cs' := [.int .i64 b1.Q.Sign, .slice as4 ns4 cs4]) ag24 sz24 rfl rfl hx12 rfl (i := 3) rfl rfl rfl ?_
  have hG1 := ((hF1.trans hF2).trans hF3).trans hF4
  obtain ⟨v5, hv4, hm⟩ := bind_some hm
  refine a0g ent53 rfl rfl rfl rfl hx12 (a4d _ _ _ _ hv4 hx12.sat (hs2.mono hG1) (hs4.mono hG1)) ?_
  rintro _ Fx5 _ wx13 hF5 hx13 ⟨as7, ns7, cs7, rfl, rfl, hs7⟩
  refine a0e rfl rfl rfl (a0j rfl rfl rfl rfl (a0j rfl rfl rfl rfl ?_))
  refine a0y ze24 rfl rfl rfl hx13 ?_
  intro b7 wx14 hx14
  refine a0o sz24 rfl hx14 rfl rfl rfl rfl (i := 0) rfl rfl rfl rfl ?_
  intro wx15 hx15
  refine a0b rfl rfl rfl (a0c (a0d (a0f (a0a ?_))))
  refine a0k ag24 sz24 rfl rfl hx15 rfl (i := 2) rfl rfl ?_
  refine a0k ag24 sz24 rfl rfl hx15 rfl (i := 1) rfl rfl ?_
  obtain ⟨v6, hv5, hm⟩ := bind_some hm
  refine a0g ent55 rfl rfl rfl rfl hx15 (c0w _ _ _ _ hv5 hx15.sat ((hs5.mono hF4).mono hF5) (hs6.mono hF5)) ?_
  rintro _ Fx6 _ wx16 hF6 hx16 ⟨as8, ns8, cs8, rfl, rfl, hs8⟩
  refine a0e rfl rfl rfl (a0j rfl rfl rfl rfl (a0j rfl rfl rfl rfl ?_))
  refine a0y ze24 rfl rfl rfl hx16 ?_
  intro b8 wx17 hx17
  refine a0o sz24 rfl hx17 rfl rfl rfl rfl (i := 0) rfl rfl rfl rfl ?_
  intro wx18 hx18
  refine a0b rfl rfl rfl (a0c (a0d (a0f (a0a ?_))))
  refine a0k ag24 sz24 rfl rfl hx18 rfl (i := 0) rfl rfl ?_
  refine a0k ag24 sz24 rfl rfl hx18 rfl (i := 1) rfl rfl ?_
  obtain ⟨v7, hv6, hm⟩ := bind_some hm
  refine a0g ent24 rfl rfl rfl rfl hx18 (a7q _ _ _ _ hv6 hx18.sat hs8 (hs7.mono hF6)) ?_
  rintro _ Fx7 _ wx19 hF7 hx19 ⟨as9, ns9, cs9, as10, ns10, cs10, rfl, rfl, hs9, hs10⟩
  refine a0j rfl rfl rfl rfl (a0j rfl rfl rfl rfl ?_)
  refine a0o sz26 rfl hx19 rfl rfl rfl rfl (i := 4) rfl rfl rfl rfl ?_
  intro wx20 hx20
  refine a0b rfl rfl rfl (a0c (a0d (a1d ?_)))
  refine a1k (vl := [.agg #[.int .i64 v7.1.P.Sign, .slice as9 ns9 cs9, .int .i64 v7.1.Q.Sign, .slice as10 ns10 cs10], .int .i64 v7.2]) rfl ⟨a1q ag26 sz26 rfl hx20 rfl (i := 4) rfl, a1w rfl, trivial⟩ (by simp) ?_
  obtain rfl := Option.some.inj hm
  exact ⟨_, _, _, rfl, hx20.pick [] (by decide) rfl, as9, ns9, cs9, as10, ns10, cs10, rfl, rfl, hs9, hs10⟩
 clear hm
 rcases a0i hb1 with ⟨hb3, hb1⟩ | ⟨hb3, hb1⟩
 ·refine a1e 17 rfl hb3 ?_
  refine a0r rfl (by decide) rfl (a0r rfl (by decide) rfl (a0r rfl (by decide) rfl (a0m rfl rfl rfl rfl (a0c ?_))))
  refine a0p (fun a ha => ?_)
  cases hb1
  exact ⟨_, Frz.refl _, hx4.pick [0, 1, 2] (by decide) rfl, ha.cut (l := [2, 3, 4, 21]) rfl⟩
 refine a1e 17 rfl hb3 ?_
 refine a0k ag26 sz26 rfl rfl hx4 rfl (i := 1) rfl rfl ?_
 obtain ⟨v8, hv7, hb1⟩ := bind_some hb1
 refine a0g ent26 rfl rfl rfl rfl hx4 (a2b _ _ _ hv7 hx4.sat (hs3.mono hF1) (hs4.mono hF1)) ?_
 rintro _ Fx8 _ wx21 hF8 hx21 ⟨rfl, rfl⟩
 refine a2x rfl rfl rfl (a0l rfl rfl rfl rfl (a0c ?_))
 refine a0p (fun a ha => ?_)
 cases hb1
 exact ⟨_, hF8, hx21.pick [0, 1, 2] (by decide) rfl, ha.cut (l := [2, 3, 4, 21]) rfl⟩
def a9w (n : Nat) (ax1 : Frac) (b1 : Frac) : Option (Frac × Int) :=
 (a2f n ax1).bind fun v1 =>
 (bif !v1 then
  some true
 else
  (a2f n b1).bind fun v6 =>
  some (!v6)).bind fun v2 =>
 bif v2 then
  some ((⟨(⟨0, []⟩ : Big), (⟨0, []⟩ : Big)⟩ : Frac), 1)
 else
  (a3u n ax1.P b1.P).bind fun v3 =>
  (a3u n ax1.Q b1.Q).bind fun v4 =>
  (a5g n v3.1 v4.1).bind fun v5 =>
  some (v5.1, v5.2)
set_option maxHeartbeats 1000000 in
set_option maxRecDepth 1000000 in
theorem c0x (n : Nat) (ax1 : Frac) (b1 : Frac) (r : (Frac × Int)) (hm : a9w n ax1 b1 = some r) {w : World} {F : Frz} (hs : Sat F w) {as1 : Option Addr} {ns1 : Nat} {cs1 : Nat} {as2 : Option Addr} {ns2 : Nat} {cs2 : Nat} {as3 : Option Addr} {ns3 : Nat} {cs3 : Nat} {as4 : Option Addr} {ns4 : Nat} {cs4 : Nat} (hs1 : SlR (Rp.int .i64) F as1 ns1 cs1 ax1.P.Digits) (hs2 : SlR (Rp.int .i64) F as2 ns2 cs2 ax1.Q.Digits) (hs3 : SlR (Rp.int .i64) F as3 ns3 cs3 b1.P.Digits) (hs4 : SlR (Rp.int .i64) F as4 ns4 cs4 b1.Q.Digits) :
  Calls Tryz.prog 16 #[.agg #[.int .i64 ax1.P.Sign, .slice as1 ns1 cs1, .int .i64 ax1.Q.Sign, .slice as2 ns2 cs2], .agg #[.int .i64 b1.P.Sign, .slice as3 ns3 cs3, .int .i64 b1.Q.Sign, .slice as4 ns4 cs4]] w fun e w' => ∃ v F' O', e = .returned v ∧ HS F w [] F' O' w' ∧ (∃ (a0_1 : Option Addr) (n0_1 : Nat) (c0_1 : Nat) (a0_3 : Option Addr) (n0_3 : Nat) (c0_3 : Nat), v = .tuple #[.agg #[.int .i64 r.1.P.Sign, .slice a0_1 n0_1 c0_1, .int .i64 r.1.Q.Sign, .slice a0_3 n0_3 c0_3], .int .i64 r.2] ∧ O' = [] ∧ SlR (Rp.int .i64) F' a0_1 n0_1 c0_1 r.1.P.Digits ∧ SlR (Rp.int .i64) F' a0_3 n0_3 c0_3 r.1.Q.Digits) := by
 unfold a9w at hm
 have h := HS.init hs
 refine a0x 40 Tryz.func16 rfl rfl rfl ?_
 refine a0f (a0a ?_)
 refine a2o rfl rfl rfl rfl h ?_
 intro b2 wx1 hx1
 refine a2o rfl rfl rfl rfl hx1 ?_
 intro b3 wx2 hx2
 refine a0y ze26 rfl rfl rfl hx2 ?_
 intro b4 wx3 hx3
 refine a0b rfl rfl rfl (a0c (a0d (a0f (a0f (a0a ?_)))))
 refine a0k ag26 sz26 rfl rfl hx3 rfl (i := 2) rfl rfl ?_
 obtain ⟨v1, hv1, hm⟩ := bind_some hm
 refine a0g ent26 rfl rfl rfl rfl hx3 (a2b _ _ _ hv1 hx3.sat hs1 hs2) ?_
 rintro _ Fx1 _ wx4 hF1 hx4 ⟨rfl, rfl⟩
 refine a2x rfl rfl rfl (a0e rfl rfl rfl ?_)
 obtain ⟨v2, hb1, hm⟩ := bind_some hm
 refine a2k 4 (fun a w' => ∃ (Fx2 : Frz), Frz.le Fx1 Fx2 ∧ HS F w [] Fx2 [.box b4 26 [.int .i64 0, .slice none 0 0, .int .i64 0, .slice none 0 0], .box b3 26 [.int .i64 b1.P.Sign, .slice as3 ns3 cs3, .int .i64 b1.Q.Sign, .slice as4 ns4 cs4], .box b2 26 [.int .i64 ax1.P.Sign, .slice as1 ns1 cs1, .int .i64 ax1.Q.Sign, .slice as2 ns2 cs2]] w' ∧ Has 40 a [(2, .pointer (some ⟨b2, 0, none⟩)), (3, .pointer (some ⟨b3, 0, none⟩)), (4, .pointer (some ⟨b4, 0, none⟩)), (17, .bool v2)]) ?_ ?_
 ·rintro a wx5 ⟨Fx2, hF2, hx5, hax1⟩
  refine a1a hax1 ?_
  refine a0c (a0d ?_)
  rcases a0i hm with ⟨hb2, hm⟩ | ⟨hb2, hm⟩
  ·refine a0u 17 rfl hb2 ?_
   refine a0z rfl (a0f (a0a ?_))
   refine a1r (v := .agg #[.int .i64 0, .slice none 0 0, .int .i64 0, .slice none 0 0]) rfl rfl rfl (fun _ => by kernel_rfl) ?_
   refine a0o sz26 rfl hx5 rfl rfl rfl rfl (i := 0) rfl rfl rfl rfl ?_
   intro wx6 hx6
   refine a0b rfl rfl rfl (a0c (a0d (a1d (a0n ?_))))
   refine a1k (vl := [.agg #[.int .i64 0, .slice none 0 0, .int .i64 0, .slice none 0 0], .int .i64 1]) rfl ⟨a1q ag26 sz26 rfl hx6 rfl (i := 0) rfl, a1w rfl, trivial⟩ (by simp) ?_
   obtain rfl := Option.some.inj hm
   exact ⟨_, _, _, rfl, hx6.pick [] (by decide) rfl, none, 0, 0, none, 0, 0, rfl, rfl, SlR.nil _ _, SlR.nil _ _⟩
  refine a0u 17 rfl hb2 ?_
  refine a0s rfl (a1b (a0d (a0f (a0a ?_))))
  refine a0h fa26_0 rfl rfl rfl ?_
  refine a1f (cs' := [.int .i64 ax1.P.Sign, .slice as1 ns1 cs1]) ag24 sz24 rfl rfl hx5 rfl (i := 2) rfl rfl rfl ?_
  refine a0h fa26_0 rfl rfl rfl ?_
  refine a1f (cs' := [.int .i64 b1.P.Sign, .slice as3 ns3 cs3]) ag24 sz24 rfl rfl hx5 rfl (i := 1) rfl rfl rfl ?_
  obtain ⟨v3, hv2, hm⟩ := bind_some hm
  refine a0g ent53 rfl rfl rfl rfl hx5 (a4d _ _ _ _ hv2 hx5.sat ((hs1.mono hF1).mono hF2) ((hs3.mono hF1).mono hF2)) ?_
  rintro _ Fx3 _ wx7 hF3 hx7 ⟨as5, ns5, cs5, rfl, rfl, hs5⟩
  refine a0e rfl rfl rfl (a0j rfl rfl rfl rfl (a0j rfl rfl rfl rfl ?_))
  refine a0y ze24 rfl rfl rfl hx7 ?_
  intro b5 wx8 hx8
  refine a0o sz24 rfl hx8 rfl rfl rfl rfl (i := 0) rfl rfl rfl rfl ?_
  intro wx9 hx9
  refine a0b rfl rfl rfl (a0c (a0d (a0f (a0a ?_))))
  refine a0h fa26_1 rfl rfl rfl ?_
  refine a1f (cs' := [.int .i64 ax1.Q.Sign, .slice as2 ns2 cs2]) ag24 sz24 rfl rfl hx9 rfl (i := 3) rfl rfl rfl ?_
  refine a0h fa26_1 rfl rfl rfl ?_
  refine a1f (cs' := [.int .i64 b1.Q.Sign, .slice as4 ns4 cs4]) ag24 sz24 rfl rfl hx9 rfl (i := 2) rfl rfl rfl ?_
  obtain ⟨v4, hv3, hm⟩ := bind_some hm
  refine a0g ent53 rfl rfl rfl rfl hx9 (a4d _ _ _ _ hv3 hx9.sat (((hs2.mono hF1).mono hF2).mono hF3) (((hs4.mono hF1).mono hF2).mono hF3)) ?_
  rintro _ Fx4 _ wx10 hF4 hx10 ⟨as6, ns6, cs6, rfl, rfl, hs6⟩
  refine a0e rfl rfl rfl (a0j rfl rfl rfl rfl (a0j rfl rfl rfl rfl ?_))
  refine a0y ze24 rfl rfl rfl hx10 ?_
  intro b6 wx11 hx11
  refine a0o sz24 rfl hx11 rfl rfl rfl rfl (i := 0) rfl rfl rfl rfl ?_
  intro wx12 hx12
  refine a0b rfl rfl rfl (a0c (a0d (a0f (a0a ?_))))
  refine a0k ag24 sz24 rfl rfl hx12 rfl (i := 1) rfl rfl ?_
  refine a0k ag24 sz24 rfl rfl hx12 rfl (i := 0) rfl rfl ?_
  obtain ⟨v5, hv4, hm⟩ := bind_some hm
  refine a0g ent24 rfl rfl rfl rfl hx12 (a7q _ _ _ _ hv4 hx12.sat (hs5.mono hF4) hs6) ?_
  rintro _ Fx5 _ wx13 hF5 hx13 ⟨as7, ns7, cs7, as8, ns8, cs8, rfl, rfl, hs7, hs8⟩
  refine a0j rfl rfl rfl rfl (a0j rfl rfl rfl rfl ?_)
  refine a0o sz26 rfl hx13 rfl rfl rfl rfl (i := 2) rfl rfl rfl rfl ?_
  intro wx14 hx14
  refine a0b rfl rfl rfl (a0c (a0d (a1d ?_)))
  refine a1k (vl := [.agg #[.int .i64 v5.1.P.Sign, .slice as7 ns7 cs7, .int .i64 v5.1.Q.Sign, .slice as8 ns8 cs8], .int .i64 v5.2]) rfl ⟨a1q ag26 sz26 rfl hx14 rfl (i := 2) rfl, a1w rfl, trivial⟩ (by simp) ?_
  obtain rfl := Option.some.inj hm
  exact ⟨_, _, _, rfl, hx14.pick [] (by decide) rfl, as7, ns7, cs7, as8, ns8, cs8, rfl, rfl, hs7, hs8⟩
 clear hm
 rcases a0i hb1 with ⟨hb3, hb1⟩ | ⟨hb3, hb1⟩
 ·refine a1e 13 rfl hb3 ?_
  refine a0r rfl (by decide) rfl (a0r rfl (by decide) rfl (a0r rfl (by decide) rfl (a0m rfl rfl rfl rfl (a0c ?_))))
  refine a0p (fun a ha => ?_)
  cases hb1
  exact ⟨_, Frz.refl _, hx4.pick [0, 1, 2] (by decide) rfl, ha.cut (l := [2, 3, 4, 17]) rfl⟩
 refine a1e 13 rfl hb3 ?_
 refine a0k ag26 sz26 rfl rfl hx4 rfl (i := 1) rfl rfl ?_
 obtain ⟨v6, hv5, hb1⟩ := bind_some hb1
 refine a0g ent26 rfl rfl rfl rfl hx4 (a2b _ _ _ hv5 hx4.sat (hs3.mono hF1) (hs4.mono hF1)) ?_
 rintro _ Fx6 _ wx15 hF6 hx15 ⟨rfl, rfl⟩
 refine a2x rfl rfl rfl (a0l rfl rfl rfl rfl (a0c ?_))
 refine a0p (fun a ha => ?_)
 cases hb1
 exact ⟨_, hF6, hx15.pick [0, 1, 2] (by decide) rfl, ha.cut (l := [2, 3, 4, 17]) rfl⟩
def a8j (n : Nat) (ax1 : Frac) (b1 : Frac) : Option (Frac × Int) :=
 (a2f n ax1).bind fun v1 =>
 (bif !v1 then
  some true
 else
  (a2f n b1).bind fun v6 =>
  some (!v6)).bind fun v2 =>
 bif v2 then
  some ((⟨(⟨0, []⟩ : Big), (⟨0, []⟩ : Big)⟩ : Frac), 1)
 else
  bif b1.P.Sign == 0 then
   some ((⟨(⟨0, []⟩ : Big), (⟨0, []⟩ : Big)⟩ : Frac), 14)
  else
   (a3u n ax1.P b1.Q).bind fun v3 =>
   (a3u n ax1.Q b1.P).bind fun v4 =>
   (a5g n v3.1 v4.1).bind fun v5 =>
   some (v5.1, v5.2)
set_option maxHeartbeats 1000000 in
set_option maxRecDepth 1000000 in
theorem c0s (n : Nat) (ax1 : Frac) (b1 : Frac) (r : (Frac × Int)) (hm : a8j n ax1 b1 = some r) {w : World} {F : Frz} (hs : Sat F w) {as1 : Option Addr} {ns1 : Nat} {cs1 : Nat} {as2 : Option Addr} {ns2 : Nat} {cs2 : Nat} {as3 : Option Addr} {ns3 : Nat} {cs3 : Nat} {as4 : Option Addr} {ns4 : Nat} {cs4 : Nat} (hs1 : SlR (Rp.int .i64) F as1 ns1 cs1 ax1.P.Digits) (hs2 : SlR (Rp.int .i64) F as2 ns2 cs2 ax1.Q.Digits) (hs3 : SlR (Rp.int .i64) F as3 ns3 cs3 b1.P.Digits) (hs4 : SlR (Rp.int .i64) F as4 ns4 cs4 b1.Q.Digits) :
  Calls Tryz.prog 18 #[.agg #[.int .i64 ax1.P.Sign, .slice as1 ns1 cs1, .int .i64 ax1.Q.Sign, .slice as2 ns2 cs2], .agg #[.int .i64 b1.P.Sign, .slice as3 ns3 cs3, .int .i64 b1.Q.Sign, .slice as4 ns4 cs4]] w fun e w' => ∃ v F' O', e = .returned v ∧ HS F w [] F' O' w' ∧ (∃ (a0_1 : Option Addr) (n0_1 : Nat) (c0_1 : Nat) (a0_3 : Option Addr) (n0_3 : Nat) (c0_3 : Nat), v = .tuple #[.agg #[.int .i64 r.1.P.Sign, .slice a0_1 n0_1 c0_1, .int .i64 r.1.Q.Sign, .slice a0_3 n0_3 c0_3], .int .i64 r.2] ∧ O' = [] ∧ SlR (Rp.int .i64) F' a0_1 n0_1 c0_1 r.1.P.Digits ∧ SlR (Rp.int .i64) F' a0_3 n0_3 c0_3 r.1.Q.Digits) := by
 unfold a8j at hm
 have h := HS.init hs
 refine a0x 45 Tryz.func18 rfl rfl rfl ?_
 refine a0f (a0a ?_)
 refine a2o rfl rfl rfl rfl h ?_
 intro b2 wx1 hx1
 refine a2o rfl rfl rfl rfl hx1 ?_
 intro b3 wx2 hx2
 refine a0y ze26 rfl rfl rfl hx2 ?_
 intro b4 wx3 hx3
 refine a0b rfl rfl rfl (a0c (a0d (a0f (a0f (a0a ?_)))))
 refine a0k ag26 sz26 rfl rfl hx3 rfl (i := 2) rfl rfl ?_
 obtain ⟨v1, hv1, hm⟩ := bind_some hm
 refine a0g ent26 rfl rfl rfl rfl hx3 (a2b _ _ _ hv1 hx3.sat hs1 hs2) ?_
 rintro _ Fx1 _ wx4 hF1 hx4 ⟨rfl, rfl⟩
 refine a2x rfl rfl rfl (a0e rfl rfl rfl ?_)
 obtain ⟨v2, hb1, hm⟩ := bind_some hm
 refine a2k 4 (fun a w' => ∃ (Fx2 : Frz), Frz.le Fx1 Fx2 ∧ HS F w [] Fx2 [.box b4 26 [.int .i64 0, .slice none 0 0, .int .i64 0, .slice none 0 0], .box b3 26 [.int .i64 b1.P.Sign, .slice as3 ns3 cs3, .int .i64 b1.Q.Sign, .slice as4 ns4 cs4], .box b2 26 [.int .i64 ax1.P.Sign, .slice as1 ns1 cs1, .int .i64 ax1.Q.Sign, .slice as2 ns2 cs2]] w' ∧ Has 45 a [(2, .pointer (some ⟨b2, 0, none⟩)), (3, .pointer (some ⟨b3, 0, none⟩)), (4, .pointer (some ⟨b4, 0, none⟩)), (17, .bool v2)]) ?_ ?_
 ·rintro a wx5 ⟨Fx2, hF2, hx5, hax1⟩
  refine a1a hax1 ?_
  refine a0c (a0d ?_)
  rcases a0i hm with ⟨hb2, hm⟩ | ⟨hb2, hm⟩
  ·refine a0u 17 rfl hb2 ?_
   refine a0z rfl (a0f (a0a ?_))
   refine a1r (v := .agg #[.int .i64 0, .slice none 0 0, .int .i64 0, .slice none 0 0]) rfl rfl rfl (fun _ => by kernel_rfl) ?_
   refine a0o sz26 rfl hx5 rfl rfl rfl rfl (i := 0) rfl rfl rfl rfl ?_
   intro wx6 hx6
   refine a0b rfl rfl rfl (a0c (a0d (a1d (a0n ?_))))
   refine a1k (vl := [.agg #[.int .i64 0, .slice none 0 0, .int .i64 0, .slice none 0 0], .int .i64 1]) rfl ⟨a1q ag26 sz26 rfl hx6 rfl (i := 0) rfl, a1w rfl, trivial⟩ (by simp) ?_
   obtain rfl := Option.some.inj hm
   exact ⟨_, _, _, rfl, hx6.pick [] (by decide) rfl, none, 0, 0, none, 0, 0, rfl, rfl, SlR.nil _ _, SlR.nil _ _⟩
  refine a0u 17 rfl hb2 ?_
  refine a0s rfl (a1b (a0d (a0f (a0f (a0a ?_)))))
  refine a0h fa26_0 rfl rfl rfl ?_
  refine a0h fa24_0 rfl rfl rfl ?_
  refine a0t ag3 rfl rfl hx5 rfl (i := 1) rfl rfl ?_
  refine a0v rfl rfl rfl rfl rfl ?_
  refine a0c (a0d ?_)
  rcases a0i hm with ⟨hb3, hm⟩ | ⟨hb3, hm⟩
  ·refine a0u 22 rfl hb3 ?_
   refine a0z rfl (a0f (a0a ?_))
   refine a1r (v := .agg #[.int .i64 0, .slice none 0 0, .int .i64 0, .slice none 0 0]) rfl rfl rfl (fun _ => by kernel_rfl) ?_
   refine a0o sz26 rfl hx5 rfl rfl rfl rfl (i := 0) rfl rfl rfl rfl ?_
   intro wx7 hx7
   refine a0b rfl rfl rfl (a0c (a0d (a1d (a0n ?_))))
   refine a1k (vl := [.agg #[.int .i64 0, .slice none 0 0, .int .i64 0, .slice none 0 0], .int .i64 14]) rfl ⟨a1q ag26 sz26 rfl hx7 rfl (i := 0) rfl, a1w rfl, trivial⟩ (by simp) ?_
   obtain rfl := Option.some.inj hm
   exact ⟨_, _, _, rfl, hx7.pick [] (by decide) rfl, none, 0, 0, none, 0, 0, rfl, rfl, SlR.nil _ _, SlR.nil _ _⟩
  refine a0u 22 rfl hb3 ?_
  refine a0s rfl (a1b (a0d (a0f (a0a ?_))))
  refine a0h fa26_0 rfl rfl rfl ?_
  refine a1f (cs' := [.int .i64 ax1.P.Sign, .slice as1 ns1 cs1]) ag24 sz24 rfl rfl hx5 rfl (i := 2) rfl rfl rfl ?_
  refine a0h fa26_1 rfl rfl rfl ?_
  refine a1f (cs' := [.int .i64 b1.Q.Sign, .slice as4 ns4 cs4]) ag24 sz24 rfl rfl hx5 rfl (i := 1) rfl rfl rfl ?_
  obtain ⟨v3, hv2, hm⟩ := bind_some hm
  refine a0g ent53 rfl rfl rfl rfl hx5 (a4d _ _ _ _ hv2 hx5.sat ((hs1.mono hF1).mono hF2) ((hs4.mono hF1).mono hF2)) ?_
  rintro _ Fx3 _ wx8 hF3 hx8 ⟨as5, ns5, cs5, rfl, rfl, hs5⟩
  refine a0e rfl rfl rfl (a0j rfl rfl rfl rfl (a0j rfl rfl rfl rfl ?_))
  refine a0y ze24 rfl rfl rfl hx8 ?_
  intro b5 wx9 hx9
  refine a0o sz24 rfl hx9 rfl rfl rfl rfl (i := 0) rfl rfl rfl rfl ?_
  intro wx10 hx10
  refine a0b rfl rfl rfl (a0c (a0d (a0f (a0a ?_))))
  refine a0h fa26_1 rfl rfl rfl ?_
  refine a1f (cs' := [.int .i64 ax1.Q.Sign, .slice as2 ns2 cs2]) ag24 sz24 rfl rfl hx10 rfl (i := 3) rfl rfl rfl ?_
  refine a0h fa26_0 rfl rfl rfl ?_
  refine a1f (cs' := [.int .i64 b1.P.Sign, .slice as3 ns3 cs3]) ag24 sz24 rfl rfl hx10 rfl (i := 2) rfl rfl rfl ?_
  obtain ⟨v4, hv3, hm⟩ := bind_some hm
  refine a0g ent53 rfl rfl rfl rfl hx10 (a4d _ _ _ _ hv3 hx10.sat (((hs2.mono hF1).mono hF2).mono hF3) (((hs3.mono hF1).mono hF2).mono hF3)) ?_
  rintro _ Fx4 _ wx11 hF4 hx11 ⟨as6, ns6, cs6, rfl, rfl, hs6⟩
  refine a0e rfl rfl rfl (a0j rfl rfl rfl rfl (a0j rfl rfl rfl rfl ?_))
  refine a0y ze24 rfl rfl rfl hx11 ?_
  intro b6 wx12 hx12
  refine a0o sz24 rfl hx12 rfl rfl rfl rfl (i := 0) rfl rfl rfl rfl ?_
  intro wx13 hx13
  refine a0b rfl rfl rfl (a0c (a0d (a0f (a0a ?_))))
  refine a0k ag24 sz24 rfl rfl hx13 rfl (i := 1) rfl rfl ?_
  refine a0k ag24 sz24 rfl rfl hx13 rfl (i := 0) rfl rfl ?_
  obtain ⟨v5, hv4, hm⟩ := bind_some hm
  refine a0g ent24 rfl rfl rfl rfl hx13 (a7q _ _ _ _ hv4 hx13.sat (hs5.mono hF4) hs6) ?_
  rintro _ Fx5 _ wx14 hF5 hx14 ⟨as7, ns7, cs7, as8, ns8, cs8, rfl, rfl, hs7, hs8⟩
  refine a0j rfl rfl rfl rfl (a0j rfl rfl rfl rfl ?_)
  refine a0o sz26 rfl hx14 rfl rfl rfl rfl (i := 2) rfl rfl rfl rfl ?_
  intro wx15 hx15
  refine a0b rfl rfl rfl (a0c (a0d (a1d ?_)))
  refine a1k (vl := [.agg #[.int .i64 v5.1.P.Sign, .slice as7 ns7 cs7, .int .i64 v5.1.Q.Sign, .slice as8 ns8 cs8], .int .i64 v5.2]) rfl ⟨a1q ag26 sz26 rfl hx15 rfl (i := 2) rfl, a1w rfl, trivial⟩ (by simp) ?_
  obtain rfl := Option.some.inj hm
  exact ⟨_, _, _, rfl, hx15.pick [] (by decide) rfl, as7, ns7, cs7, as8, ns8, cs8, rfl, rfl, hs7, hs8⟩
 clear hm
 rcases a0i hb1 with ⟨hb4, hb1⟩ | ⟨hb4, hb1⟩
 ·refine a1e 13 rfl hb4 ?_
  refine a0r rfl (by decide) rfl (a0r rfl (by decide) rfl (a0r rfl (by decide) rfl (a0m rfl rfl rfl rfl (a0c ?_))))
  refine a0p (fun a ha => ?_)
  cases hb1
  exact ⟨_, Frz.refl _, hx4.pick [0, 1, 2] (by decide) rfl, ha.cut (l := [2, 3, 4, 17]) rfl⟩
 refine a1e 13 rfl hb4 ?_
 refine a0k ag26 sz26 rfl rfl hx4 rfl (i := 1) rfl rfl ?_
 obtain ⟨v6, hv5, hb1⟩ := bind_some hb1
 refine a0g ent26 rfl rfl rfl rfl hx4 (a2b _ _ _ hv5 hx4.sat (hs3.mono hF1) (hs4.mono hF1)) ?_
 rintro _ Fx6 _ wx16 hF6 hx16 ⟨rfl, rfl⟩
 refine a2x rfl rfl rfl (a0l rfl rfl rfl rfl (a0c ?_))
 refine a0p (fun a ha => ?_)
 cases hb1
 exact ⟨_, hF6, hx16.pick [0, 1, 2] (by decide) rfl, ha.cut (l := [2, 3, 4, 17]) rfl⟩
theorem ent20 : Ent Tryz.prog 20 := fun _ _ => by kernel_rfl
def b2o (n : Nat) (nx1 : Int) : Option Frac :=
 (a9k n nx1 1).bind fun v1 =>
 some v1.1
set_option maxHeartbeats 1000000 in
set_option maxRecDepth 1000000 in
theorem c0o (n : Nat) (nx1 : Int) (r : Frac) (hm : b2o n nx1 = some r) {w : World} {F : Frz} (hs : Sat F w)  :
  Calls Tryz.prog 39 #[.int .i64 nx1] w fun e w' => ∃ v F' O', e = .returned v ∧ HS F w [] F' O' w' ∧ (∃ (a0_1 : Option Addr) (n0_1 : Nat) (c0_1 : Nat) (a0_3 : Option Addr) (n0_3 : Nat) (c0_3 : Nat), v = .agg #[.int .i64 r.P.Sign, .slice a0_1 n0_1 c0_1, .int .i64 r.Q.Sign, .slice a0_3 n0_3 c0_3] ∧ O' = [] ∧ SlR (Rp.int .i64) F' a0_1 n0_1 c0_1 r.P.Digits ∧ SlR (Rp.int .i64) F' a0_3 n0_3 c0_3 r.Q.Digits) := by
 unfold b2o at hm
 have h := HS.init hs
 refine a0x 11 Tryz.func39 rfl rfl rfl ?_
 refine a0f (a0a ?_)
 refine a0y ze26 rfl rfl rfl h ?_
 intro b1 wx1 hx1
 refine a0c (a0d (a0f (a0a (a0e rfl rfl rfl ?_))))
 obtain ⟨v1, hv1, hm⟩ := bind_some hm
 refine a0g ent20 rfl rfl rfl rfl hx1 (b7m _ _ _ _ hv1 hx1.sat) ?_
 rintro _ Fx1 _ wx2 hF1 hx2 ⟨as1, ns1, cs1, as2, ns2, cs2, rfl, rfl, hs1, hs2⟩
 refine a0e rfl rfl rfl (a0j rfl rfl rfl rfl (a0j rfl rfl rfl rfl ?_))
 refine a0y ze26 rfl rfl rfl hx2 ?_
 intro b2 wx3 hx3
 refine a0o sz26 rfl hx3 rfl rfl rfl rfl (i := 0) rfl rfl rfl rfl ?_
 intro wx4 hx4
 refine a0b rfl rfl rfl (a0c (a0d (a0f (a0a ?_))))
 refine a0k ag26 sz26 rfl rfl hx4 rfl (i := 0) rfl rfl ?_
 refine a0o sz26 rfl hx4 rfl rfl rfl rfl (i := 1) rfl rfl rfl rfl ?_
 intro wx5 hx5
 refine a0c (a0d (a1d ?_))
 refine a6l rfl ag26 sz26 rfl hx5 rfl (i := 1) rfl ?_
 obtain rfl := Option.some.inj hm
 exact ⟨_, _, _, rfl, hx5.pick [] (by decide) rfl, as1, ns1, cs1, as2, ns2, cs2, rfl, rfl, hs1, hs2⟩
def b0d (n : Nat) (f1 : Frac) : Option Frac :=
 (a2f n f1).bind fun v1 =>
 bif !v1 then
  some (⟨(⟨0, []⟩ : Big), (⟨0, []⟩ : Big)⟩ : Frac)
 else
  (a9a n f1.P).bind fun v2 =>
  some (⟨v2, f1.Q⟩ : Frac)
set_option maxHeartbeats 1000000 in
set_option maxRecDepth 1000000 in
theorem c1e (n : Nat) (f1 : Frac) (r : Frac) (hm : b0d n f1 = some r) {w : World} {F : Frz} (hs : Sat F w) {as1 : Option Addr} {ns1 : Nat} {cs1 : Nat} {as2 : Option Addr} {ns2 : Nat} {cs2 : Nat} (hs1 : SlR (Rp.int .i64) F as1 ns1 cs1 f1.P.Digits) (hs2 : SlR (Rp.int .i64) F as2 ns2 cs2 f1.Q.Digits) :
  Calls Tryz.prog 35 #[.agg #[.int .i64 f1.P.Sign, .slice as1 ns1 cs1, .int .i64 f1.Q.Sign, .slice as2 ns2 cs2]] w fun e w' => ∃ v F' O', e = .returned v ∧ HS F w [] F' O' w' ∧ (∃ (a0_1 : Option Addr) (n0_1 : Nat) (c0_1 : Nat) (a0_3 : Option Addr) (n0_3 : Nat) (c0_3 : Nat), v = .agg #[.int .i64 r.P.Sign, .slice a0_1 n0_1 c0_1, .int .i64 r.Q.Sign, .slice a0_3 n0_3 c0_3] ∧ O' = [] ∧ SlR (Rp.int .i64) F' a0_1 n0_1 c0_1 r.P.Digits ∧ SlR (Rp.int .i64) F' a0_3 n0_3 c0_3 r.Q.Digits) := by
 unfold b0d at hm
 have h := HS.init hs
 refine a0x 13 Tryz.func35 rfl rfl rfl ?_
 refine a0f (a0a ?_)
 refine a2o rfl rfl rfl rfl h ?_
 intro b1 wx1 hx1
 refine a0y ze26 rfl rfl rfl hx1 ?_
 intro b2 wx2 hx2
 refine a0c (a0d (a0f (a0f (a0a ?_))))
 refine a0k ag26 sz26 rfl rfl hx2 rfl (i := 1) rfl rfl ?_
 obtain ⟨v1, hv1, hm⟩ := bind_some hm
 refine a0g ent26 rfl rfl rfl rfl hx2 (a2b _ _ _ hv1 hx2.sat hs1 hs2) ?_
 rintro _ Fx1 _ wx3 hF1 hx3 ⟨rfl, rfl⟩
 refine a2x rfl rfl rfl (a0c (a0d ?_))
 rcases a0i hm with ⟨hb1, hm⟩ | ⟨hb1, hm⟩
 ·refine a0u 5 rfl hb1 ?_
  refine a0z rfl (a0f (a0a ?_))
  refine a1r (v := .agg #[.int .i64 0, .slice none 0 0, .int .i64 0, .slice none 0 0]) rfl rfl rfl (fun _ => by kernel_rfl) ?_
  refine a0o sz26 rfl hx3 rfl rfl rfl rfl (i := 0) rfl rfl rfl rfl ?_
  intro wx4 hx4
  refine a0c (a0d (a1d (a0n ?_)))
  refine a6l rfl ag26 sz26 rfl hx4 rfl (i := 0) rfl ?_
  obtain rfl := Option.some.inj hm
  exact ⟨_, _, _, rfl, hx4.pick [] (by decide) rfl, none, 0, 0, none, 0, 0, rfl, rfl, SlR.nil _ _, SlR.nil _ _⟩
 refine a0u 5 rfl hb1 ?_
 refine a0s rfl (a1b (a0d (a0f ?_)))
 refine a2m (SH Fx1 [.box b1 26 [.int .i64 f1.P.Sign, .slice as1 ns1 cs1, .int .i64 f1.Q.Sign, .slice as2 ns2 cs2]]) 7 rfl (by kernel_rfl) hx3 ?_
 intro wx5 hx5
 refine d_tk 0 rfl (by kernel_rfl) rfl rfl rfl rfl (hx5.sh (Frz.refl _) [1] (by decide) rfl) (fun _ _ _ _ _ => a0h fa26_0 rfl rfl rfl (a0c (qq rfl))) ?_
 refine d_tk 1 rfl (by kernel_rfl) rfl rfl rfl rfl (hx5.sh (Frz.refl _) [1] (by decide) rfl) (fun _ _ _ _ hq => a1f (cs' := [.int .i64 f1.P.Sign, .slice as1 ns1 cs1]) ag24 sz24 rfl rfl hq rfl (i := 0) rfl rfl rfl (a0c (qq rfl))) ?_
 refine d_tk 3 rfl (by kernel_rfl) rfl rfl rfl rfl (hx5.sh (Frz.refl _) [1] (by decide) rfl) (fun _ _ _ _ _ => a0h fa26_1 rfl rfl rfl (a0c (qq rfl))) ?_
 refine d_tk 4 rfl (by kernel_rfl) rfl rfl rfl rfl (hx5.sh (Frz.refl _) [1] (by decide) rfl) (fun _ _ _ _ hq => a1f (cs' := [.int .i64 f1.Q.Sign, .slice as2 ns2 cs2]) ag24 sz24 rfl rfl hq rfl (i := 0) rfl rfl rfl (a0c (qq rfl))) ?_
 refine a1c 2 rfl (by kernel_rfl) ?_
 obtain ⟨v2, hv2, hm⟩ := bind_some hm
 refine a0g ent64 rfl rfl rfl rfl hx5 (a8w _ _ _ hv2 hx5.sat (hs1.mono hF1)) ?_
 rintro _ Fx2 _ wx6 hF2 hx6 ⟨as3, ns3, cs3, rfl, rfl, hs3⟩
 refine a0w (hx6.sh hF2 [1] (by decide) rfl) ?_
 refine d_tk 5 rfl (by kernel_rfl) rfl rfl rfl rfl (hx6.sh hF2 [1] (by decide) rfl) (fun _ _ _ _ _ => a1r (v := .agg #[.int .i64 v2.Sign, .slice as3 ns3 cs3, .int .i64 f1.Q.Sign, .slice as2 ns2 cs2]) rfl rfl rfl (fun _ => by kernel_rfl) (a0c (qq rfl))) ?_
 refine a1c 6 rfl (by kernel_rfl) ?_
 refine a0o sz26 rfl hx6 rfl rfl rfl rfl (i := 0) rfl rfl rfl rfl ?_
 intro wx7 hx7
 refine a0w (hx7.sh hF2 [1] (by decide) rfl) ?_
 refine a3v (by kernel_rfl) ?_
 refine a0d (a1d ?_)
 refine a6l rfl ag26 sz26 rfl hx7 rfl (i := 0) rfl ?_
 obtain rfl := Option.some.inj hm
 exact ⟨_, _, _, rfl, hx7.pick [] (by decide) rfl, as3, ns3, cs3, as2, ns2, cs2, rfl, rfl, hs3, ((hs2.mono hF1).mono hF2)⟩
def a8l (n : Nat) (f1 : Frac) : Option Int :=
 (a2f n f1).bind fun v1 =>
 bif !v1 then
  some 0
 else
  some f1.P.Sign
set_option maxHeartbeats 1000000 in
set_option maxRecDepth 1000000 in
theorem b9j (n : Nat) (f1 : Frac) (r : Int) (hm : a8l n f1 = some r) {w : World} {F : Frz} (hs : Sat F w) {as1 : Option Addr} {ns1 : Nat} {cs1 : Nat} {as2 : Option Addr} {ns2 : Nat} {cs2 : Nat} (hs1 : SlR (Rp.int .i64) F as1 ns1 cs1 f1.P.Digits) (hs2 : SlR (Rp.int .i64) F as2 ns2 cs2 f1.Q.Digits) :
  Calls Tryz.prog 37 #[.agg #[.int .i64 f1.P.Sign, .slice as1 ns1 cs1, .int .i64 f1.Q.Sign, .slice as2 ns2 cs2]] w fun e w' => ∃ v F' O', e = .returned v ∧ HS F w [] F' O' w' ∧ (v = .int .i64 r ∧ O' = []) := by
 unfold a8l at hm
 have h := HS.init hs
 refine a0x 9 Tryz.func37 rfl rfl rfl ?_
 refine a0f (a0a ?_)
 refine a2o rfl rfl rfl rfl h ?_
 intro b1 wx1 hx1
 refine a0b rfl rfl rfl (a0c (a0d (a0f (a0f (a0a ?_)))))
 refine a0k ag26 sz26 rfl rfl hx1 rfl (i := 0) rfl rfl ?_
 obtain ⟨v1, hv1, hm⟩ := bind_some hm
 refine a0g ent26 rfl rfl rfl rfl hx1 (a2b _ _ _ hv1 hx1.sat hs1 hs2) ?_
 rintro _ Fx1 _ wx2 hF1 hx2 ⟨rfl, rfl⟩
 refine a2x rfl rfl rfl (a0c (a0d ?_))
 rcases a0i hm with ⟨hb1, hm⟩ | ⟨hb1, hm⟩
 ·refine a0u 5 rfl hb1 ?_
  refine a0z rfl (a0f (a0a (a0b rfl rfl rfl (a0c (a0d (a1d (a0n ?_)))))))
  refine a1p rfl rfl ?_
  obtain rfl := Option.some.inj hm
  exact ⟨_, _, _, rfl, hx2.pick [] (by decide) rfl, rfl, rfl⟩
 refine a0u 5 rfl hb1 ?_
 refine a0s rfl (a1b (a0d (a0f (a0a ?_))))
 refine a0h fa26_0 rfl rfl rfl ?_
 refine a0h fa24_0 rfl rfl rfl ?_
 refine a0t ag3 rfl rfl hx2 rfl (i := 0) rfl rfl ?_
 refine a0b rfl rfl rfl (a0c (a0d (a1d ?_)))
 refine a1p rfl rfl ?_
 obtain rfl := Option.some.inj hm
 exact ⟨_, _, _, rfl, hx2.pick [] (by decide) rfl, rfl, rfl⟩
def a4w (n : Nat) (ax1 : Frac) (b1 : Frac) : Option Int :=
 (a2f n ax1).bind fun v1 =>
 (bif !v1 then
  some true
 else
  (a2f n b1).bind fun v6 =>
  some (!v6)).bind fun v2 =>
 bif v2 then
  some 0
 else
  (a3u n ax1.P b1.Q).bind fun v3 =>
  (a3u n b1.P ax1.Q).bind fun v4 =>
  (a7c n v3.1 v4.1).bind fun v5 =>
  some v5
set_option maxHeartbeats 1000000 in
set_option maxRecDepth 1000000 in
theorem a9d (n : Nat) (ax1 : Frac) (b1 : Frac) (r : Int) (hm : a4w n ax1 b1 = some r) {w : World} {F : Frz} (hs : Sat F w) {as1 : Option Addr} {ns1 : Nat} {cs1 : Nat} {as2 : Option Addr} {ns2 : Nat} {cs2 : Nat} {as3 : Option Addr} {ns3 : Nat} {cs3 : Nat} {as4 : Option Addr} {ns4 : Nat} {cs4 : Nat} (hs1 : SlR (Rp.int .i64) F as1 ns1 cs1 ax1.P.Digits) (hs2 : SlR (Rp.int .i64) F as2 ns2 cs2 ax1.Q.Digits) (hs3 : SlR (Rp.int .i64) F as3 ns3 cs3 b1.P.Digits) (hs4 : SlR (Rp.int .i64) F as4 ns4 cs4 b1.Q.Digits) :
  Calls Tryz.prog 28 #[.agg #[.int .i64 ax1.P.Sign, .slice as1 ns1 cs1, .int .i64 ax1.Q.Sign, .slice as2 ns2 cs2], .agg #[.int .i64 b1.P.Sign, .slice as3 ns3 cs3, .int .i64 b1.Q.Sign, .slice as4 ns4 cs4]] w fun e w' => ∃ v F' O', e = .returned v ∧ HS F w [] F' O' w' ∧ (v = .int .i64 r ∧ O' = []) := by
 unfold a4w at hm
 have h := HS.init hs
 refine a0x 36 Tryz.func28 rfl rfl rfl ?_
 refine a0f (a0a ?_)
 refine a2o rfl rfl rfl rfl h ?_
 intro b2 wx1 hx1
 refine a2o rfl rfl rfl rfl hx1 ?_
 intro b3 wx2 hx2
 refine a0b rfl rfl rfl (a0c (a0d (a0f (a0f (a0a ?_)))))
 refine a0k ag26 sz26 rfl rfl hx2 rfl (i := 1) rfl rfl ?_
 obtain ⟨v1, hv1, hm⟩ := bind_some hm
 refine a0g ent26 rfl rfl rfl rfl hx2 (a2b _ _ _ hv1 hx2.sat hs1 hs2) ?_
 rintro _ Fx1 _ wx3 hF1 hx3 ⟨rfl, rfl⟩
 refine a2x rfl rfl rfl (a0e rfl rfl rfl ?_)
 obtain ⟨v2, hb1, hm⟩ := bind_some hm
 refine a2k 4 (fun a w' => ∃ (Fx2 : Frz), Frz.le Fx1 Fx2 ∧ HS F w [] Fx2 [.box b3 26 [.int .i64 b1.P.Sign, .slice as3 ns3 cs3, .int .i64 b1.Q.Sign, .slice as4 ns4 cs4], .box b2 26 [.int .i64 ax1.P.Sign, .slice as1 ns1 cs1, .int .i64 ax1.Q.Sign, .slice as2 ns2 cs2]] w' ∧ Has 36 a [(2, .pointer (some ⟨b2, 0, none⟩)), (3, .pointer (some ⟨b3, 0, none⟩)), (16, .bool v2)]) ?_ ?_
 ·rintro a wx4 ⟨Fx2, hF2, hx4, hax1⟩
  refine a1a hax1 ?_
  refine a0c (a0d ?_)
  rcases a0i hm with ⟨hb2, hm⟩ | ⟨hb2, hm⟩
  ·refine a0u 16 rfl hb2 ?_
   refine a0z rfl (a0f (a0a (a0b rfl rfl rfl (a0c (a0d (a1d (a0n ?_)))))))
   refine a1p rfl rfl ?_
   obtain rfl := Option.some.inj hm
   exact ⟨_, _, _, rfl, hx4.pick [] (by decide) rfl, rfl, rfl⟩
  refine a0u 16 rfl hb2 ?_
  refine a0s rfl (a1b (a0d (a0f (a0a ?_))))
  refine a0h fa26_0 rfl rfl rfl ?_
  refine a1f (cs' := [.int .i64 ax1.P.Sign, .slice as1 ns1 cs1]) ag24 sz24 rfl rfl hx4 rfl (i := 1) rfl rfl rfl ?_
  refine a0h fa26_1 rfl rfl rfl ?_
  refine a1f (cs' := [.int .i64 b1.Q.Sign, .slice as4 ns4 cs4]) ag24 sz24 rfl rfl hx4 rfl (i := 0) rfl rfl rfl ?_
  obtain ⟨v3, hv2, hm⟩ := bind_some hm
  refine a0g ent53 rfl rfl rfl rfl hx4 (a4d _ _ _ _ hv2 hx4.sat ((hs1.mono hF1).mono hF2) ((hs4.mono hF1).mono hF2)) ?_
  rintro _ Fx3 _ wx5 hF3 hx5 ⟨as5, ns5, cs5, rfl, rfl, hs5⟩
  refine a0e rfl rfl rfl (a0j rfl rfl rfl rfl (a0j rfl rfl rfl rfl ?_))
  refine a0y ze24 rfl rfl rfl hx5 ?_
  intro b4 wx6 hx6
  refine a0o sz24 rfl hx6 rfl rfl rfl rfl (i := 0) rfl rfl rfl rfl ?_
  intro wx7 hx7
  refine a0b rfl rfl rfl (a0c (a0d (a0f (a0a ?_))))
  refine a0h fa26_0 rfl rfl rfl ?_
  refine a1f (cs' := [.int .i64 b1.P.Sign, .slice as3 ns3 cs3]) ag24 sz24 rfl rfl hx7 rfl (i := 1) rfl rfl rfl ?_
  refine a0h fa26_1 rfl rfl rfl ?_
  refine a1f (cs' := [.int .i64 ax1.Q.Sign, .slice as2 ns2 cs2]) ag24 sz24 rfl rfl hx7 rfl (i := 2) rfl rfl rfl ?_
  obtain ⟨v4, hv3, hm⟩ := bind_some hm
  refine a0g ent53 rfl rfl rfl rfl hx7 (a4d _ _ _ _ hv3 hx7.sat (((hs3.mono hF1).mono hF2).mono hF3) (((hs2.mono hF1).mono hF2).mono hF3)) ?_
  rintro _ Fx4 _ wx8 hF4 hx8 ⟨as6, ns6, cs6, rfl, rfl, hs6⟩
  refine a0e rfl rfl rfl (a0j rfl rfl rfl rfl (a0j rfl rfl rfl rfl ?_))
  refine a0y ze24 rfl rfl rfl hx8 ?_
  intro b5 wx9 hx9
  refine a0o sz24 rfl hx9 rfl rfl rfl rfl (i := 0) rfl rfl rfl rfl ?_
  intro wx10 hx10
  refine a0b rfl rfl rfl (a0c (a0d (a0f (a0a ?_))))
  refine a0k ag24 sz24 rfl rfl hx10 rfl (i := 1) rfl rfl ?_
  refine a0k ag24 sz24 rfl rfl hx10 rfl (i := 0) rfl rfl ?_
  obtain ⟨v5, hv4, hm⟩ := bind_some hm
  refine a0g ent68 rfl rfl rfl rfl hx10 (b2g _ _ _ _ hv4 hx10.sat (hs5.mono hF4) hs6) ?_
  rintro _ Fx5 _ wx11 hF5 hx11 ⟨rfl, rfl⟩
  refine a0b rfl rfl rfl (a0c (a0d (a1d ?_)))
  refine a1p rfl rfl ?_
  obtain rfl := Option.some.inj hm
  exact ⟨_, _, _, rfl, hx11.pick [] (by decide) rfl, rfl, rfl⟩
 clear hm
 rcases a0i hb1 with ⟨hb3, hb1⟩ | ⟨hb3, hb1⟩
 ·refine a1e 12 rfl hb3 ?_
  refine a0r rfl (by decide) rfl (a0r rfl (by decide) rfl (a0r rfl (by decide) rfl (a0m rfl rfl rfl rfl (a0c ?_))))
  refine a0p (fun a ha => ?_)
  cases hb1
  exact ⟨_, Frz.refl _, hx3.pick [0, 1] (by decide) rfl, ha.cut (l := [2, 3, 16]) rfl⟩
 refine a1e 12 rfl hb3 ?_
 refine a0k ag26 sz26 rfl rfl hx3 rfl (i := 0) rfl rfl ?_
 obtain ⟨v6, hv5, hb1⟩ := bind_some hb1
 refine a0g ent26 rfl rfl rfl rfl hx3 (a2b _ _ _ hv5 hx3.sat (hs3.mono hF1) (hs4.mono hF1)) ?_
 rintro _ Fx6 _ wx12 hF6 hx12 ⟨rfl, rfl⟩
 refine a2x rfl rfl rfl (a0l rfl rfl rfl rfl (a0c ?_))
 refine a0p (fun a ha => ?_)
 cases hb1
 exact ⟨_, hF6, hx12.pick [0, 1] (by decide) rfl, ha.cut (l := [2, 3, 16]) rfl⟩
theorem ent28 : Ent Tryz.prog 28 := fun _ _ => by kernel_rfl
def b0f (n : Nat) (ax1 : Frac) (b1 : Frac) : Option (Frac × Int) :=
 (a2f n ax1).bind fun v1 =>
 (bif !v1 then
  some true
 else
  (a2f n b1).bind fun v4 =>
  some (!v4)).bind fun v2 =>
 bif v2 then
  some ((⟨(⟨0, []⟩ : Big), (⟨0, []⟩ : Big)⟩ : Frac), 1)
 else
  (a4w n ax1 b1).bind fun v3 =>
  bif decide (v3 ≤ 0) then
   some (ax1, 0)
  else
   some (b1, 0)
set_option maxHeartbeats 1000000 in
set_option maxRecDepth 1000000 in
theorem c0j (n : Nat) (ax1 : Frac) (b1 : Frac) (r : (Frac × Int)) (hm : b0f n ax1 b1 = some r) {w : World} {F : Frz} (hs : Sat F w) {as1 : Option Addr} {ns1 : Nat} {cs1 : Nat} {as2 : Option Addr} {ns2 : Nat} {cs2 : Nat} {as3 : Option Addr} {ns3 : Nat} {cs3 : Nat} {as4 : Option Addr} {ns4 : Nat} {cs4 : Nat} (hs1 : SlR (Rp.int .i64) F as1 ns1 cs1 ax1.P.Digits) (hs2 : SlR (Rp.int .i64) F as2 ns2 cs2 ax1.Q.Digits) (hs3 : SlR (Rp.int .i64) F as3 ns3 cs3 b1.P.Digits) (hs4 : SlR (Rp.int .i64) F as4 ns4 cs4 b1.Q.Digits) :
  Calls Tryz.prog 31 #[.agg #[.int .i64 ax1.P.Sign, .slice as1 ns1 cs1, .int .i64 ax1.Q.Sign, .slice as2 ns2 cs2], .agg #[.int .i64 b1.P.Sign, .slice as3 ns3 cs3, .int .i64 b1.Q.Sign, .slice as4 ns4 cs4]] w fun e w' => ∃ v F' O', e = .returned v ∧ HS F w [] F' O' w' ∧ (∃ (a0_1 : Option Addr) (n0_1 : Nat) (c0_1 : Nat) (a0_3 : Option Addr) (n0_3 : Nat) (c0_3 : Nat), v = .tuple #[.agg #[.int .i64 r.1.P.Sign, .slice a0_1 n0_1 c0_1, .int .i64 r.1.Q.Sign, .slice a0_3 n0_3 c0_3], .int .i64 r.2] ∧ O' = [] ∧ SlR (Rp.int .i64) F' a0_1 n0_1 c0_1 r.1.P.Digits ∧ SlR (Rp.int .i64) F' a0_3 n0_3 c0_3 r.1.Q.Digits) := by
 unfold b0f at hm
 have h := HS.init hs
 refine a0x 21 Tryz.func31 rfl rfl rfl ?_
 refine a0f (a0a ?_)
 refine a2o rfl rfl rfl rfl h ?_
 intro b2 wx1 hx1
 refine a2o rfl rfl rfl rfl hx1 ?_
 intro b3 wx2 hx2
 refine a0y ze26 rfl rfl rfl hx2 ?_
 intro b4 wx3 hx3
 refine a0b rfl rfl rfl (a0c (a0d (a0f (a0f (a0a ?_)))))
 refine a0k ag26 sz26 rfl rfl hx3 rfl (i := 2) rfl rfl ?_
 obtain ⟨v1, hv1, hm⟩ := bind_some hm
 refine a0g ent26 rfl rfl rfl rfl hx3 (a2b _ _ _ hv1 hx3.sat hs1 hs2) ?_
 rintro _ Fx1 _ wx4 hF1 hx4 ⟨rfl, rfl⟩
 refine a2x rfl rfl rfl (a0e rfl rfl rfl ?_)
 obtain ⟨v2, hb1, hm⟩ := bind_some hm
 refine a2k 4 (fun a w' => ∃ (Fx2 : Frz), Frz.le Fx1 Fx2 ∧ HS F w [] Fx2 [.box b4 26 [.int .i64 0, .slice none 0 0, .int .i64 0, .slice none 0 0], .box b3 26 [.int .i64 b1.P.Sign, .slice as3 ns3 cs3, .int .i64 b1.Q.Sign, .slice as4 ns4 cs4], .box b2 26 [.int .i64 ax1.P.Sign, .slice as1 ns1 cs1, .int .i64 ax1.Q.Sign, .slice as2 ns2 cs2]] w' ∧ Has 21 a [(2, .pointer (some ⟨b2, 0, none⟩)), (3, .pointer (some ⟨b3, 0, none⟩)), (4, .pointer (some ⟨b4, 0, none⟩)), (13, .bool v2)]) ?_ ?_
 ·rintro a wx5 ⟨Fx2, hF2, hx5, hax1⟩
  refine a1a hax1 ?_
  refine a0c (a0d ?_)
  rcases a0i hm with ⟨hb2, hm⟩ | ⟨hb2, hm⟩
  ·refine a0u 13 rfl hb2 ?_
   refine a0z rfl (a0f (a0a ?_))
   refine a1r (v := .agg #[.int .i64 0, .slice none 0 0, .int .i64 0, .slice none 0 0]) rfl rfl rfl (fun _ => by kernel_rfl) ?_
   refine a0o sz26 rfl hx5 rfl rfl rfl rfl (i := 0) rfl rfl rfl rfl ?_
   intro wx6 hx6
   refine a0b rfl rfl rfl (a0c (a0d (a1d (a0n ?_))))
   refine a1k (vl := [.agg #[.int .i64 0, .slice none 0 0, .int .i64 0, .slice none 0 0], .int .i64 1]) rfl ⟨a1q ag26 sz26 rfl hx6 rfl (i := 0) rfl, a1w rfl, trivial⟩ (by simp) ?_
   obtain rfl := Option.some.inj hm
   exact ⟨_, _, _, rfl, hx6.pick [] (by decide) rfl, none, 0, 0, none, 0, 0, rfl, rfl, SlR.nil _ _, SlR.nil _ _⟩
  refine a0u 13 rfl hb2 ?_
  refine a0s rfl (a1b (a0d (a0f (a0f (a0a ?_)))))
  refine a0k ag26 sz26 rfl rfl hx5 rfl (i := 2) rfl rfl ?_
  refine a0k ag26 sz26 rfl rfl hx5 rfl (i := 1) rfl rfl ?_
  obtain ⟨v3, hv2, hm⟩ := bind_some hm
  refine a0g ent28 rfl rfl rfl rfl hx5 (a9d _ _ _ _ hv2 hx5.sat ((hs1.mono hF1).mono hF2) ((hs2.mono hF1).mono hF2) ((hs3.mono hF1).mono hF2) ((hs4.mono hF1).mono hF2)) ?_
  rintro _ Fx3 _ wx7 hF3 hx7 ⟨rfl, rfl⟩
  refine a0v rfl rfl rfl rfl rfl ?_
  refine a0c (a0d ?_)
  rcases a0i hm with ⟨hb3, hm⟩ | ⟨hb3, hm⟩
  ·refine a0u 18 rfl hb3 ?_
   refine a0z rfl (a0f (a0a ?_))
   refine a0k ag26 sz26 rfl rfl hx7 rfl (i := 2) rfl rfl ?_
   refine a0o sz26 rfl hx7 rfl rfl rfl rfl (i := 0) rfl rfl rfl rfl ?_
   intro wx8 hx8
   refine a0b rfl rfl rfl (a0c (a0d (a1d (a0n ?_))))
   refine a1k (vl := [.agg #[.int .i64 ax1.P.Sign, .slice as1 ns1 cs1, .int .i64 ax1.Q.Sign, .slice as2 ns2 cs2], .int .i64 0]) rfl ⟨a1q ag26 sz26 rfl hx8 rfl (i := 0) rfl, a1w rfl, trivial⟩ (by simp) ?_
   obtain rfl := Option.some.inj hm
   exact ⟨_, _, _, rfl, hx8.pick [] (by decide) rfl, as1, ns1, cs1, as2, ns2, cs2, rfl, rfl, (((hs1.mono hF1).mono hF2).mono hF3), (((hs2.mono hF1).mono hF2).mono hF3)⟩
  refine a0u 18 rfl hb3 ?_
  refine a0s rfl (a1b (a0d (a0f (a0a ?_))))
  refine a0k ag26 sz26 rfl rfl hx7 rfl (i := 1) rfl rfl ?_
  refine a0o sz26 rfl hx7 rfl rfl rfl rfl (i := 0) rfl rfl rfl rfl ?_
  intro wx9 hx9
  refine a0b rfl rfl rfl (a0c (a0d (a1d ?_)))
  refine a1k (vl := [.agg #[.int .i64 b1.P.Sign, .slice as3 ns3 cs3, .int .i64 b1.Q.Sign, .slice as4 ns4 cs4], .int .i64 0]) rfl ⟨a1q ag26 sz26 rfl hx9 rfl (i := 0) rfl, a1w rfl, trivial⟩ (by simp) ?_
  obtain rfl := Option.some.inj hm
  exact ⟨_, _, _, rfl, hx9.pick [] (by decide) rfl, as3, ns3, cs3, as4, ns4, cs4, rfl, rfl, (((hs3.mono hF1).mono hF2).mono hF3), (((hs4.mono hF1).mono hF2).mono hF3)⟩
 clear hm
 rcases a0i hb1 with ⟨hb4, hb1⟩ | ⟨hb4, hb1⟩
 ·refine a1e 9 rfl hb4 ?_
  refine a0r rfl (by decide) rfl (a0r rfl (by decide) rfl (a0r rfl (by decide) rfl (a0m rfl rfl rfl rfl (a0c ?_))))
  refine a0p (fun a ha => ?_)
  cases hb1
  exact ⟨_, Frz.refl _, hx4.pick [0, 1, 2] (by decide) rfl, ha.cut (l := [2, 3, 4, 13]) rfl⟩
 refine a1e 9 rfl hb4 ?_
 refine a0k ag26 sz26 rfl rfl hx4 rfl (i := 1) rfl rfl ?_
 obtain ⟨v4, hv3, hb1⟩ := bind_some hb1
 refine a0g ent26 rfl rfl rfl rfl hx4 (a2b _ _ _ hv3 hx4.sat (hs3.mono hF1) (hs4.mono hF1)) ?_
 rintro _ Fx4 _ wx10 hF4 hx10 ⟨rfl, rfl⟩
 refine a2x rfl rfl rfl (a0l rfl rfl rfl rfl (a0c ?_))
 refine a0p (fun a ha => ?_)
 cases hb1
 exact ⟨_, hF4, hx10.pick [0, 1, 2] (by decide) rfl, ha.cut (l := [2, 3, 4, 13]) rfl⟩
def a9s (n : Nat) (ax1 : Frac) (b1 : Frac) : Option (Frac × Int) :=
 (a2f n ax1).bind fun v1 =>
 (bif !v1 then
  some true
 else
  (a2f n b1).bind fun v4 =>
  some (!v4)).bind fun v2 =>
 bif v2 then
  some ((⟨(⟨0, []⟩ : Big), (⟨0, []⟩ : Big)⟩ : Frac), 1)
 else
  (a4w n ax1 b1).bind fun v3 =>
  bif decide (0 ≤ v3) then
   some (ax1, 0)
  else
   some (b1, 0)
set_option maxHeartbeats 1000000 in
set_option maxRecDepth 1000000 in
theorem c0p (n : Nat) (ax1 : Frac) (b1 : Frac) (r : (Frac × Int)) (hm : a9s n ax1 b1 = some r) {w : World} {F : Frz} (hs : Sat F w) {as1 : Option Addr} {ns1 : Nat} {cs1 : Nat} {as2 : Option Addr} {ns2 : Nat} {cs2 : Nat} {as3 : Option Addr} {ns3 : Nat} {cs3 : Nat} {as4 : Option Addr} {ns4 : Nat} {cs4 : Nat} (hs1 : SlR (Rp.int .i64) F as1 ns1 cs1 ax1.P.Digits) (hs2 : SlR (Rp.int .i64) F as2 ns2 cs2 ax1.Q.Digits) (hs3 : SlR (Rp.int .i64) F as3 ns3 cs3 b1.P.Digits) (hs4 : SlR (Rp.int .i64) F as4 ns4 cs4 b1.Q.Digits) :
  Calls Tryz.prog 33 #[.agg #[.int .i64 ax1.P.Sign, .slice as1 ns1 cs1, .int .i64 ax1.Q.Sign, .slice as2 ns2 cs2], .agg #[.int .i64 b1.P.Sign, .slice as3 ns3 cs3, .int .i64 b1.Q.Sign, .slice as4 ns4 cs4]] w fun e w' => ∃ v F' O', e = .returned v ∧ HS F w [] F' O' w' ∧ (∃ (a0_1 : Option Addr) (n0_1 : Nat) (c0_1 : Nat) (a0_3 : Option Addr) (n0_3 : Nat) (c0_3 : Nat), v = .tuple #[.agg #[.int .i64 r.1.P.Sign, .slice a0_1 n0_1 c0_1, .int .i64 r.1.Q.Sign, .slice a0_3 n0_3 c0_3], .int .i64 r.2] ∧ O' = [] ∧ SlR (Rp.int .i64) F' a0_1 n0_1 c0_1 r.1.P.Digits ∧ SlR (Rp.int .i64) F' a0_3 n0_3 c0_3 r.1.Q.Digits) := by
 unfold a9s at hm
 have h := HS.init hs
 refine a0x 21 Tryz.func33 rfl rfl rfl ?_
 refine a0f (a0a ?_)
 refine a2o rfl rfl rfl rfl h ?_
 intro b2 wx1 hx1
 refine a2o rfl rfl rfl rfl hx1 ?_
 intro b3 wx2 hx2
 refine a0y ze26 rfl rfl rfl hx2 ?_
 intro b4 wx3 hx3
 refine a0b rfl rfl rfl (a0c (a0d (a0f (a0f (a0a ?_)))))
 refine a0k ag26 sz26 rfl rfl hx3 rfl (i := 2) rfl rfl ?_
 obtain ⟨v1, hv1, hm⟩ := bind_some hm
 refine a0g ent26 rfl rfl rfl rfl hx3 (a2b _ _ _ hv1 hx3.sat hs1 hs2) ?_
 rintro _ Fx1 _ wx4 hF1 hx4 ⟨rfl, rfl⟩
 refine a2x rfl rfl rfl (a0e rfl rfl rfl ?_)
 obtain ⟨v2, hb1, hm⟩ := bind_some hm
 refine a2k 4 (fun a w' => ∃ (Fx2 : Frz), Frz.le Fx1 Fx2 ∧ HS F w [] Fx2 [.box b4 26 [.int .i64 0, .slice none 0 0, .int .i64 0, .slice none 0 0], .box b3 26 [.int .i64 b1.P.Sign, .slice as3 ns3 cs3, .int .i64 b1.Q.Sign, .slice as4 ns4 cs4], .box b2 26 [.int .i64 ax1.P.Sign, .slice as1 ns1 cs1, .int .i64 ax1.Q.Sign, .slice as2 ns2 cs2]] w' ∧ Has 21 a [(2, .pointer (some ⟨b2, 0, none⟩)), (3, .pointer (some ⟨b3, 0, none⟩)), (4, .pointer (some ⟨b4, 0, none⟩)), (13, .bool v2)]) ?_ ?_
 ·rintro a wx5 ⟨Fx2, hF2, hx5, hax1⟩
  refine a1a hax1 ?_
  refine a0c (a0d ?_)
  rcases a0i hm with ⟨hb2, hm⟩ | ⟨hb2, hm⟩
  ·refine a0u 13 rfl hb2 ?_
   refine a0z rfl (a0f (a0a ?_))
   refine a1r (v := .agg #[.int .i64 0, .slice none 0 0, .int .i64 0, .slice none 0 0]) rfl rfl rfl (fun _ => by kernel_rfl) ?_
   refine a0o sz26 rfl hx5 rfl rfl rfl rfl (i := 0) rfl rfl rfl rfl ?_
   intro wx6 hx6
   refine a0b rfl rfl rfl (a0c (a0d (a1d (a0n ?_))))
   refine a1k (vl := [.agg #[.int .i64 0, .slice none 0 0, .int .i64 0, .slice none 0 0], .int .i64 1]) rfl ⟨a1q ag26 sz26 rfl hx6 rfl (i := 0) rfl, a1w rfl, trivial⟩ (by simp) ?_
   obtain rfl := Option.some.inj hm
   exact ⟨_, _, _, rfl, hx6.pick [] (by decide) rfl, none, 0, 0, none, 0, 0, rfl, rfl, SlR.nil _ _, SlR.nil _ _⟩
  refine a0u 13 rfl hb2 ?_
  refine a0s rfl (a1b (a0d (a0f (a0f (a0a ?_)))))
  refine a0k ag26 sz26 rfl rfl hx5 rfl (i := 2) rfl rfl ?_
  refine a0k ag26 sz26 rfl rfl hx5 rfl (i := 1) rfl rfl ?_
  obtain ⟨v3, hv2, hm⟩ := bind_some hm
  refine a0g ent28 rfl rfl rfl rfl hx5 (a9d _ _ _ _ hv2 hx5.sat ((hs1.mono hF1).mono hF2) ((hs2.mono hF1).mono hF2) ((hs3.mono hF1).mono hF2) ((hs4.mono hF1).mono hF2)) ?_
  rintro _ Fx3 _ wx7 hF3 hx7 ⟨rfl, rfl⟩
  refine a0v rfl rfl rfl rfl rfl ?_
  refine a0c (a0d ?_)
  rcases a0i hm with ⟨hb3, hm⟩ | ⟨hb3, hm⟩
  ·refine a0u 18 rfl hb3 ?_
   refine a0z rfl (a0f (a0a ?_))
   refine a0k ag26 sz26 rfl rfl hx7 rfl (i := 2) rfl rfl ?_
   refine a0o sz26 rfl hx7 rfl rfl rfl rfl (i := 0) rfl rfl rfl rfl ?_
   intro wx8 hx8
   refine a0b rfl rfl rfl (a0c (a0d (a1d (a0n ?_))))
   refine a1k (vl := [.agg #[.int .i64 ax1.P.Sign, .slice as1 ns1 cs1, .int .i64 ax1.Q.Sign, .slice as2 ns2 cs2], .int .i64 0]) rfl ⟨a1q ag26 sz26 rfl hx8 rfl (i := 0) rfl, a1w rfl, trivial⟩ (by simp) ?_
   obtain rfl := Option.some.inj hm
   exact ⟨_, _, _, rfl, hx8.pick [] (by decide) rfl, as1, ns1, cs1, as2, ns2, cs2, rfl, rfl, (((hs1.mono hF1).mono hF2).mono hF3), (((hs2.mono hF1).mono hF2).mono hF3)⟩
  refine a0u 18 rfl hb3 ?_
  refine a0s rfl (a1b (a0d (a0f (a0a ?_))))
  refine a0k ag26 sz26 rfl rfl hx7 rfl (i := 1) rfl rfl ?_
  refine a0o sz26 rfl hx7 rfl rfl rfl rfl (i := 0) rfl rfl rfl rfl ?_
  intro wx9 hx9
  refine a0b rfl rfl rfl (a0c (a0d (a1d ?_)))
  refine a1k (vl := [.agg #[.int .i64 b1.P.Sign, .slice as3 ns3 cs3, .int .i64 b1.Q.Sign, .slice as4 ns4 cs4], .int .i64 0]) rfl ⟨a1q ag26 sz26 rfl hx9 rfl (i := 0) rfl, a1w rfl, trivial⟩ (by simp) ?_
  obtain rfl := Option.some.inj hm
  exact ⟨_, _, _, rfl, hx9.pick [] (by decide) rfl, as3, ns3, cs3, as4, ns4, cs4, rfl, rfl, (((hs3.mono hF1).mono hF2).mono hF3), (((hs4.mono hF1).mono hF2).mono hF3)⟩
 clear hm
 rcases a0i hb1 with ⟨hb4, hb1⟩ | ⟨hb4, hb1⟩
 ·refine a1e 9 rfl hb4 ?_
  refine a0r rfl (by decide) rfl (a0r rfl (by decide) rfl (a0r rfl (by decide) rfl (a0m rfl rfl rfl rfl (a0c ?_))))
  refine a0p (fun a ha => ?_)
  cases hb1
  exact ⟨_, Frz.refl _, hx4.pick [0, 1, 2] (by decide) rfl, ha.cut (l := [2, 3, 4, 13]) rfl⟩
 refine a1e 9 rfl hb4 ?_
 refine a0k ag26 sz26 rfl rfl hx4 rfl (i := 1) rfl rfl ?_
 obtain ⟨v4, hv3, hb1⟩ := bind_some hb1
 refine a0g ent26 rfl rfl rfl rfl hx4 (a2b _ _ _ hv3 hx4.sat (hs3.mono hF1) (hs4.mono hF1)) ?_
 rintro _ Fx4 _ wx10 hF4 hx10 ⟨rfl, rfl⟩
 refine a2x rfl rfl rfl (a0l rfl rfl rfl rfl (a0c ?_))
 refine a0p (fun a ha => ?_)
 cases hb1
 exact ⟨_, hF4, hx10.pick [0, 1, 2] (by decide) rfl, ha.cut (l := [2, 3, 4, 13]) rfl⟩
def a7n (n : Nat) (f1 : Frac) : Option Big :=
 (a2f n f1).bind fun v1 =>
 bif !v1 then
  some (⟨0, []⟩ : Big)
 else
  (a8a n f1.P f1.Q).bind fun v2 =>
  some v2.1
set_option maxHeartbeats 1000000 in
set_option maxRecDepth 1000000 in
theorem b8v (n : Nat) (f1 : Frac) (r : Big) (hm : a7n n f1 = some r) {w : World} {F : Frz} (hs : Sat F w) {as1 : Option Addr} {ns1 : Nat} {cs1 : Nat} {as2 : Option Addr} {ns2 : Nat} {cs2 : Nat} (hs1 : SlR (Rp.int .i64) F as1 ns1 cs1 f1.P.Digits) (hs2 : SlR (Rp.int .i64) F as2 ns2 cs2 f1.Q.Digits) :
  Calls Tryz.prog 44 #[.agg #[.int .i64 f1.P.Sign, .slice as1 ns1 cs1, .int .i64 f1.Q.Sign, .slice as2 ns2 cs2]] w fun e w' => ∃ v F' O', e = .returned v ∧ HS F w [] F' O' w' ∧ (∃ (a0_1 : Option Addr) (n0_1 : Nat) (c0_1 : Nat), v = .agg #[.int .i64 r.Sign, .slice a0_1 n0_1 c0_1] ∧ O' = [] ∧ SlR (Rp.int .i64) F' a0_1 n0_1 c0_1 r.Digits) := by
 unfold a7n at hm
 have h := HS.init hs
 refine a0x 20 Tryz.func44 rfl rfl rfl ?_
 refine a0f (a0a ?_)
 refine a2o rfl rfl rfl rfl h ?_
 intro b1 wx1 hx1
 refine a0y ze24 rfl rfl rfl hx1 ?_
 intro b2 wx2 hx2
 refine a0c (a0d (a0f (a0f (a0a ?_))))
 refine a0k ag26 sz26 rfl rfl hx2 rfl (i := 1) rfl rfl ?_
 obtain ⟨v1, hv1, hm⟩ := bind_some hm
 refine a0g ent26 rfl rfl rfl rfl hx2 (a2b _ _ _ hv1 hx2.sat hs1 hs2) ?_
 rintro _ Fx1 _ wx3 hF1 hx3 ⟨rfl, rfl⟩
 refine a2x rfl rfl rfl (a0c (a0d ?_))
 rcases a0i hm with ⟨hb1, hm⟩ | ⟨hb1, hm⟩
 ·refine a0u 8 rfl hb1 ?_
  refine a0z rfl (a0f (a0a ?_))
  refine a1r (v := .agg #[.int .i64 0, .slice none 0 0]) rfl rfl rfl (fun _ => by kernel_rfl) ?_
  refine a0o sz24 rfl hx3 rfl rfl rfl rfl (i := 0) rfl rfl rfl rfl ?_
  intro wx4 hx4
  refine a0c (a0d (a1d (a0n ?_)))
  refine a6l rfl ag24 sz24 rfl hx4 rfl (i := 0) rfl ?_
  obtain rfl := Option.some.inj hm
  exact ⟨_, _, _, rfl, hx4.pick [] (by decide) rfl, none, 0, 0, rfl, rfl, SlR.nil _ _⟩
 refine a0u 8 rfl hb1 ?_
 refine a0s rfl (a1b (a0d (a0f (a0a ?_))))
 refine a0h fa26_0 rfl rfl rfl ?_
 refine a1f (cs' := [.int .i64 f1.P.Sign, .slice as1 ns1 cs1]) ag24 sz24 rfl rfl hx3 rfl (i := 1) rfl rfl rfl ?_
 refine a0h fa26_1 rfl rfl rfl ?_
 refine a1f (cs' := [.int .i64 f1.Q.Sign, .slice as2 ns2 cs2]) ag24 sz24 rfl rfl hx3 rfl (i := 1) rfl rfl rfl ?_
 obtain ⟨v2, hv2, hm⟩ := bind_some hm
 refine a0g ent66 rfl rfl rfl rfl hx3 (b2s _ _ _ _ hv2 hx3.sat (hs1.mono hF1) (hs2.mono hF1)) ?_
 rintro _ Fx2 _ wx5 hF2 hx5 ⟨as3, ns3, cs3, as4, ns4, cs4, rfl, rfl, hs3, hs4⟩
 refine a0e rfl rfl rfl (a0j rfl rfl rfl rfl (a0j rfl rfl rfl rfl (a0j rfl rfl rfl rfl ?_)))
 refine a0y ze24 rfl rfl rfl hx5 ?_
 intro b3 wx6 hx6
 refine a0y ze24 rfl rfl rfl hx6 ?_
 intro b4 wx7 hx7
 refine a0o sz24 rfl hx7 rfl rfl rfl rfl (i := 1) rfl rfl rfl rfl ?_
 intro wx8 hx8
 refine a0o sz24 rfl hx8 rfl rfl rfl rfl (i := 0) rfl rfl rfl rfl ?_
 intro wx9 hx9
 refine a0b rfl rfl rfl (a0c (a0d (a0f (a0a ?_))))
 refine a0k ag24 sz24 rfl rfl hx9 rfl (i := 1) rfl rfl ?_
 refine a0o sz24 rfl hx9 rfl rfl rfl rfl (i := 2) rfl rfl rfl rfl ?_
 intro wx10 hx10
 refine a0c (a0d (a1d ?_))
 refine a6l rfl ag24 sz24 rfl hx10 rfl (i := 2) rfl ?_
 obtain rfl := Option.some.inj hm
 exact ⟨_, _, _, rfl, hx10.pick [] (by decide) rfl, as3, ns3, cs3, rfl, rfl, hs3⟩
theorem ent74 : Ent Tryz.prog 74 := fun _ _ => by kernel_rfl
def a6h (n : Nat) (f1 : Frac) : Option Bs :=
 (a2f n f1).bind fun v1 =>
 bif !v1 then
  some []
 else
  (a9o n f1.P).bind fun v2 =>
  (scat v2 [47]).bind fun t1 =>
  (a9o n f1.Q).bind fun v3 =>
  (scat t1 v3).bind fun t2 =>
  some t2
set_option maxHeartbeats 1000000 in
set_option maxRecDepth 1000000 in
theorem b4o (n : Nat) (f1 : Frac) (r : Bs) (hm : a6h n f1 = some r) {w : World} {F : Frz} (hs : Sat F w) {as1 : Option Addr} {ns1 : Nat} {cs1 : Nat} {as2 : Option Addr} {ns2 : Nat} {cs2 : Nat} (hs1 : SlR (Rp.int .i64) F as1 ns1 cs1 f1.P.Digits) (hs2 : SlR (Rp.int .i64) F as2 ns2 cs2 f1.Q.Digits) :
  Calls Tryz.prog 41 #[.agg #[.int .i64 f1.P.Sign, .slice as1 ns1 cs1, .int .i64 f1.Q.Sign, .slice as2 ns2 cs2]] w fun e w' => ∃ v F' O', e = .returned v ∧ HS F w [] F' O' w' ∧ (v = vs r ∧ O' = []) := by
 unfold a6h at hm
 have h := HS.init hs
 refine a0x 14 Tryz.func41 rfl rfl rfl ?_
 refine a0f (a0a ?_)
 refine a2o rfl rfl rfl rfl h ?_
 intro b1 wx1 hx1
 refine a0b rfl rfl rfl (a0c (a0d (a0f (a0f (a0a ?_)))))
 refine a0k ag26 sz26 rfl rfl hx1 rfl (i := 0) rfl rfl ?_
 obtain ⟨v1, hv1, hm⟩ := bind_some hm
 refine a0g ent26 rfl rfl rfl rfl hx1 (a2b _ _ _ hv1 hx1.sat hs1 hs2) ?_
 rintro _ Fx1 _ wx2 hF1 hx2 ⟨rfl, rfl⟩
 refine a2x rfl rfl rfl (a0c (a0d ?_))
 rcases a0i hm with ⟨hb1, hm⟩ | ⟨hb1, hm⟩
 ·refine a0u 5 rfl hb1 ?_
  refine a0z rfl (a0f (a0a (a0b rfl rfl rfl (a0c (a0d (a1d (a0n ?_)))))))
  refine a1p rfl rfl ?_
  obtain rfl := Option.some.inj hm
  exact ⟨_, _, _, rfl, hx2.pick [] (by decide) rfl, rfl, rfl⟩
 refine a0u 5 rfl hb1 ?_
 refine a0s rfl (a1b (a0d (a0f ?_)))
 refine a4s (by kernel_rfl) (by kernel_rfl) hx2 ?_
 refine a1h rfl rfl rfl rfl (fun _ _ _ _ => a0h fa26_0 rfl rfl rfl (a0c (qq rfl))) ?_
 refine a1h rfl rfl rfl rfl (fun _ _ _ hq => a1f (cs' := [.int .i64 f1.P.Sign, .slice as1 ns1 cs1]) ag24 sz24 rfl rfl hq rfl (i := 0) rfl rfl rfl (a0c (qq rfl))) ?_
 obtain ⟨v2, hv2, hm⟩ := bind_some hm
 refine a7k ent74 rfl rfl rfl rfl (fun _ _ hleq hq => b4r _ _ _ hv2 hq.sat ((hs1.mono hF1).mono hleq)) ?_
 obtain ⟨t1, hq1, hm⟩ := bind_some hm
 refine a1h rfl rfl rfl rfl (fun _ _ _ _ => c1k rfl rfl rfl rfl hq1 (a0c (qq rfl))) ?_
 refine a1h rfl rfl rfl rfl (fun _ _ _ _ => a0h fa26_1 rfl rfl rfl (a0c (qq rfl))) ?_
 refine a1h rfl rfl rfl rfl (fun _ _ _ hq => a1f (cs' := [.int .i64 f1.Q.Sign, .slice as2 ns2 cs2]) ag24 sz24 rfl rfl hq rfl (i := 0) rfl rfl rfl (a0c (qq rfl))) ?_
 obtain ⟨v3, hv3, hm⟩ := bind_some hm
 refine a7k ent74 rfl rfl rfl rfl (fun _ _ hleq hq => b4r _ _ _ hv3 hq.sat ((hs2.mono hF1).mono hleq)) ?_
 obtain ⟨t2, hq2, hm⟩ := bind_some hm
 refine a1h rfl rfl rfl rfl (fun _ _ _ _ => c1k rfl rfl rfl rfl hq2 (a0c (qq rfl))) ?_
 refine a1h rfl rfl rfl rfl (fun _ _ _ _ => a0b rfl rfl rfl (a0c (qq rfl))) ?_
 refine b3x ?_
 rintro wx3 ⟨Fx2, hF2, hx3⟩
 refine a0d (a1d ?_)
 refine a1p rfl rfl ?_
 obtain rfl := Option.some.inj hm
 exact ⟨_, _, _, rfl, hx3.pick [] (by decide) rfl, rfl, rfl⟩
theorem ent59 : Ent Tryz.prog 59 := fun _ _ => by kernel_rfl
theorem ent41 : Ent Tryz.prog 41 := fun _ _ => by kernel_rfl
def a6b (n : Nat) (s1 : Bs) (kont1 : Int → Option (Frac × Int)) : Nat → Int → Option (Frac × Int)
 | 0, _ => none
 | mx1 + 1, atx1 =>
  (bif decide (atx1 < (s1.length : Int)) then
   (sidx s1 atx1).bind fun c1 =>
   some (c1 != 47)
  else
   some false).bind fun v6 =>
  bif v6 then
   a6b n s1 kont1 mx1 (iadd .i64 atx1 1)
  else
   kont1 atx1
theorem a9v (n : Nat) (s1 : Bs) (kont1 : Int → Option (Frac × Int)) (mx1 : Nat) (atx1 : Int) : a6b n s1 kont1 (mx1 + 1) atx1 =
  (bif decide (atx1 < (s1.length : Int)) then
   (sidx s1 atx1).bind fun c1 =>
   some (c1 != 47)
  else
   some false).bind fun v6 =>
  bif v6 then
   a6b n s1 kont1 mx1 (iadd .i64 atx1 1)
  else
   kont1 atx1 := rfl
def a9m (n : Nat) (s1 : Bs) : Option (Frac × Int) :=
 a6b n s1 (fun (atx2 : Int) =>
  bif atx2 == (s1.length : Int) then
   some ((⟨(⟨0, []⟩ : Big), (⟨0, []⟩ : Big)⟩ : Frac), 2)
  else
   (ssl s1 0 atx2).bind fun t1 =>
   (a3r n t1).bind fun v1 =>
   (ssl s1 (iadd .i64 atx2 1) s1.length).bind fun t2 =>
   (a3r n t2).bind fun v2 =>
   (bif v1.2 != 0 then
    some true
   else
    some (v2.2 != 0)).bind fun v3 =>
   (bif v3 then
    some true
   else
    (a6h n (⟨v1.1, v2.1⟩ : Frac)).bind fun v5 =>
    some (!(v5 == s1))).bind fun v4 =>
   bif v4 then
    some ((⟨(⟨0, []⟩ : Big), (⟨0, []⟩ : Big)⟩ : Frac), 2)
   else
    some ((⟨v1.1, v2.1⟩ : Frac), 0)) n 0
set_option maxHeartbeats 1000000 in
set_option maxRecDepth 1000000 in
theorem b9r (n : Nat) (s1 : Bs) (r : (Frac × Int)) (hm : a9m n s1 = some r) {w : World} {F : Frz} (hs : Sat F w)  :
  Calls Tryz.prog 22 #[vs s1] w fun e w' => ∃ v F' O', e = .returned v ∧ HS F w [] F' O' w' ∧ (∃ (a0_1 : Option Addr) (n0_1 : Nat) (c0_1 : Nat) (a0_3 : Option Addr) (n0_3 : Nat) (c0_3 : Nat), v = .tuple #[.agg #[.int .i64 r.1.P.Sign, .slice a0_1 n0_1 c0_1, .int .i64 r.1.Q.Sign, .slice a0_3 n0_3 c0_3], .int .i64 r.2] ∧ O' = [] ∧ SlR (Rp.int .i64) F' a0_1 n0_1 c0_1 r.1.P.Digits ∧ SlR (Rp.int .i64) F' a0_3 n0_3 c0_3 r.1.Q.Digits) := by
 unfold a9m at hm
 have h := HS.init hs
 refine a0x 59 Tryz.func22 rfl rfl rfl ?_
 refine a0f (a0a ?_)
 refine a0y ze26 rfl rfl rfl h ?_
 intro b1 wx1 hx1
 refine a0b rfl rfl rfl (a0c (a0d (a0f (a0a (a0b rfl rfl rfl (a0c (a0d (a0f (a1i ?_)))))))))
 intro a hax6
 obtain ⟨kont1, hkont1⟩ : ∃ kont1 : Int → Option (Frac × Int), kont1 = (fun (atx2 : Int) =>
       bif atx2 == (s1.length : Int) then
        some ((⟨(⟨0, []⟩ : Big), (⟨0, []⟩ : Big)⟩ : Frac), 2)
       else
        (ssl s1 0 atx2).bind fun t1 =>
        (a3r n t1).bind fun v1 =>
        (ssl s1 (iadd .i64 atx2 1) s1.length).bind fun t2 =>
        (a3r n t2).bind fun v2 =>
        (bif v1.2 != 0 then
         some true
        else
         some (v2.2 != 0)).bind fun v3 =>
        (bif v3 then
         some true
        else
         (a6h n (⟨v1.1, v2.1⟩ : Frac)).bind fun v5 =>
         some (!(v5 == s1))).bind fun v4 =>
        bif v4 then
         some ((⟨(⟨0, []⟩ : Big), (⟨0, []⟩ : Big)⟩ : Frac), 2)
        else
         some ((⟨v1.1, v2.1⟩ : Frac), 0)) := ⟨_, rfl⟩
 replace hm : (fun m (s : Int) => a6b n s1 kont1 m s) n 0 = some r := by rw [hkont1]; exact hm
 refine a5u (id := 0) (fun m (s : Int) => a6b n s1 kont1 m s) (fun (y : Int) => kont1 y) r (fun (s : Int) a w' => wx1 = w' ∧ Has 59 a [(0, vs s1), (2, .pointer (some ⟨b1, 0, none⟩)), (4, .int .i64 s)]) (fun (y : Int) a w' => wx1 = w' ∧ Has 59 a [(0, vs s1), (2, .pointer (some ⟨b1, 0, none⟩)), (4, .int .i64 y)]) (fun _ => rfl) ?_ ?_ hm ⟨rfl, hax6.cut (l := [0, 2, 4]) rfl⟩
 ·clear hm; rintro atx2 a wx2 hm ⟨rfl, hax1⟩
  rw [hkont1] at hm
  replace hm := hm
  refine a2d (e := .exit 0) hax1 ?_
  refine a1j (a0d (a0f (a0f (a0a (a0e rfl rfl rfl (a0e rfl rfl rfl ?_))))))
  refine a8k u9 rfl rfl rfl ?_
  refine a0v rfl rfl rfl rfl rfl ?_
  refine a0c (a0d ?_)
  rcases a0i hm with ⟨hb1, hm⟩ | ⟨hb1, hm⟩
  ·refine a0u 25 rfl hb1 ?_
   refine a0z rfl (a0f (a0a ?_))
   refine a1r (v := .agg #[.int .i64 0, .slice none 0 0, .int .i64 0, .slice none 0 0]) rfl rfl rfl (fun _ => by kernel_rfl) ?_
   refine a0o sz26 rfl hx1 rfl rfl rfl rfl (i := 0) rfl rfl rfl rfl ?_
   intro wx3 hx2
   refine a0b rfl rfl rfl (a0c (a0d (a1d (a0n ?_))))
   refine a1k (vl := [.agg #[.int .i64 0, .slice none 0 0, .int .i64 0, .slice none 0 0], .int .i64 2]) rfl ⟨a1q ag26 sz26 rfl hx2 rfl (i := 0) rfl, a1w rfl, trivial⟩ (by simp) ?_
   obtain rfl := Option.some.inj hm
   exact ⟨_, _, _, rfl, hx2.pick [] (by decide) rfl, none, 0, 0, none, 0, 0, rfl, rfl, SlR.nil _ _, SlR.nil _ _⟩
  refine a0u 25 rfl hb1 ?_
  refine a0s rfl (a1b (a0d (a0f (a0a (a0e rfl rfl rfl (a0e rfl rfl rfl ?_))))))
  obtain ⟨t1, hc1, hm⟩ := bind_some hm
  refine b9w u9 rfl rfl rfl rfl hc1 ?_
  obtain ⟨v1, hv1, hm⟩ := bind_some hm
  refine a0g ent59 rfl rfl rfl rfl hx1 (b4s _ _ _ hv1 hx1.sat) ?_
  rintro _ Fx1 _ wx4 hF1 hx3 ⟨as2, ns2, cs2, rfl, rfl, hs2⟩
  refine a0e rfl rfl rfl (a0j rfl rfl rfl rfl (a0j rfl rfl rfl rfl ?_))
  refine a0y ze24 rfl rfl rfl hx3 ?_
  intro b2 wx5 hx4
  refine a0o sz24 rfl hx4 rfl rfl rfl rfl (i := 0) rfl rfl rfl rfl ?_
  intro wx6 hx5
  refine a0b rfl rfl rfl (a0c (a0d (a0f (a0a (a0e rfl rfl rfl (a0e rfl rfl rfl ?_))))))
  refine a0v rfl rfl rfl rfl rfl ?_
  obtain ⟨t2, hc2, hm⟩ := bind_some hm
  refine b7b u9 rfl rfl rfl rfl hc2 ?_
  obtain ⟨v2, hv2, hm⟩ := bind_some hm
  refine a0g ent59 rfl rfl rfl rfl hx5 (b4s _ _ _ hv2 hx5.sat) ?_
  rintro _ Fx2 _ wx7 hF2 hx6 ⟨as3, ns3, cs3, rfl, rfl, hs3⟩
  refine a0e rfl rfl rfl (a0j rfl rfl rfl rfl (a0j rfl rfl rfl rfl ?_))
  refine a0y ze24 rfl rfl rfl hx6 ?_
  intro b3 wx8 hx7
  refine a0o sz24 rfl hx7 rfl rfl rfl rfl (i := 0) rfl rfl rfl rfl ?_
  intro wx9 hx8
  refine a0b rfl rfl rfl (a0c (a0d (a0f (a0a ?_))))
  refine a0k ag24 sz24 rfl rfl hx8 rfl (i := 1) rfl rfl ?_
  refine a0k ag24 sz24 rfl rfl hx8 rfl (i := 0) rfl rfl ?_
  refine a1r (v := .agg #[.int .i64 v1.1.Sign, .slice as2 ns2 cs2, .int .i64 v2.1.Sign, .slice as3 ns3 cs3]) rfl rfl rfl (fun _ => by kernel_rfl) ?_
  refine a0y ze26 rfl rfl rfl hx8 ?_
  intro b4 wx10 hx9
  refine a0o sz26 rfl hx9 rfl rfl rfl rfl (i := 0) rfl rfl rfl rfl ?_
  intro wx11 hx10
  refine a0c (a0d (a0f (a0f (a0a (a0e rfl rfl rfl ?_)))))
  refine a0v rfl rfl rfl rfl rfl ?_
  refine a0e rfl rfl rfl ?_
  obtain ⟨v3, hb2, hm⟩ := bind_some hm
  refine a2k 3 (fun a w' => wx11 = w' ∧ Has 59 a [(0, vs s1), (2, .pointer (some ⟨b1, 0, none⟩)), (9, .pointer (some ⟨b4, 0, none⟩)), (50, .bool v3)]) ?_ ?_
  ·rintro a wx12 ⟨rfl, hax2⟩
   refine a1a hax2 ?_
   refine a0e rfl rfl rfl ?_
   obtain ⟨v4, hb3, hm⟩ := bind_some hm
   refine a2k 5 (fun a w' => ∃ (Fx3 : Frz), Frz.le Fx2 Fx3 ∧ HS F w [] Fx3 [.box b4 26 [.int .i64 v1.1.Sign, .slice as2 ns2 cs2, .int .i64 v2.1.Sign, .slice as3 ns3 cs3], .box b3 24 [.int .i64 v2.1.Sign, .slice as3 ns3 cs3], .box b2 24 [.int .i64 v1.1.Sign, .slice as2 ns2 cs2], .box b1 26 [.int .i64 0, .slice none 0 0, .int .i64 0, .slice none 0 0]] w' ∧ Has 59 a [(2, .pointer (some ⟨b1, 0, none⟩)), (9, .pointer (some ⟨b4, 0, none⟩)), (56, .bool v4)]) ?_ ?_
   ·rintro a wx13 ⟨Fx3, hF3, hx11, hax3⟩
    refine a1a hax3 ?_
    refine a0c (a0d ?_)
    rcases a0i hm with ⟨hb4, hm⟩ | ⟨hb4, hm⟩
    ·refine a0u 56 rfl hb4 ?_
     refine a0z rfl (a0f (a0a ?_))
     refine a1r (v := .agg #[.int .i64 0, .slice none 0 0, .int .i64 0, .slice none 0 0]) rfl rfl rfl (fun _ => by kernel_rfl) ?_
     refine a0o sz26 rfl hx11 rfl rfl rfl rfl (i := 3) rfl rfl rfl rfl ?_
     intro wx14 hx12
     refine a0b rfl rfl rfl (a0c (a0d (a1d (a0n ?_))))
     refine a1k (vl := [.agg #[.int .i64 0, .slice none 0 0, .int .i64 0, .slice none 0 0], .int .i64 2]) rfl ⟨a1q ag26 sz26 rfl hx12 rfl (i := 3) rfl, a1w rfl, trivial⟩ (by simp) ?_
     obtain rfl := Option.some.inj hm
     exact ⟨_, _, _, rfl, hx12.pick [] (by decide) rfl, none, 0, 0, none, 0, 0, rfl, rfl, SlR.nil _ _, SlR.nil _ _⟩
    refine a0u 56 rfl hb4 ?_
    refine a0s rfl (a1b (a0d (a0f (a0a ?_))))
    refine a0k ag26 sz26 rfl rfl hx11 rfl (i := 0) rfl rfl ?_
    refine a0o sz26 rfl hx11 rfl rfl rfl rfl (i := 3) rfl rfl rfl rfl ?_
    intro wx15 hx13
    refine a0b rfl rfl rfl (a0c (a0d (a1d ?_)))
    refine a1k (vl := [.agg #[.int .i64 v1.1.Sign, .slice as2 ns2 cs2, .int .i64 v2.1.Sign, .slice as3 ns3 cs3], .int .i64 0]) rfl ⟨a1q ag26 sz26 rfl hx13 rfl (i := 3) rfl, a1w rfl, trivial⟩ (by simp) ?_
    obtain rfl := Option.some.inj hm
    exact ⟨_, _, _, rfl, hx13.pick [] (by decide) rfl, as2, ns2, cs2, as3, ns3, cs3, rfl, rfl, ((hs2.mono hF2).mono hF3), (hs3.mono hF3)⟩
   clear hm
   rcases a0i hb3 with ⟨hb5, hb3⟩ | ⟨hb5, hb3⟩
   ·refine a1e 51 rfl hb5 ?_
    refine a0r rfl (by decide) rfl (a0r rfl (by decide) rfl (a0r rfl (by decide) rfl (a0r rfl (by decide) rfl (a0m rfl rfl rfl rfl (a0c ?_)))))
    refine a0p (fun a ha => ?_)
    cases hb3
    exact ⟨_, Frz.refl _, hx10.pick [0, 1, 2, 3] (by decide) rfl, ha.cut (l := [2, 9, 56]) rfl⟩
   refine a1e 51 rfl hb5 ?_
   refine a0k ag26 sz26 rfl rfl hx10 rfl (i := 0) rfl rfl ?_
   obtain ⟨v5, hv3, hb3⟩ := bind_some hb3
   refine a0g ent41 rfl rfl rfl rfl hx10 (b4o _ _ _ hv3 hx10.sat (hs2.mono hF2) hs3) ?_
   rintro _ Fx4 _ wx16 hF4 hx14 ⟨rfl, rfl⟩
   refine a0e rfl rfl rfl ?_
   refine b2d rfl rfl rfl rfl rfl ?_
   refine a0l rfl rfl rfl rfl (a0c ?_)
   refine a0p (fun a ha => ?_)
   cases hb3
   exact ⟨_, hF4, hx14.pick [0, 1, 2, 3] (by decide) rfl, ha.cut (l := [2, 9, 56]) rfl⟩
  clear hm
  rcases a0i hb2 with ⟨hb6, hb2⟩ | ⟨hb6, hb2⟩
  ·refine a1e 47 rfl hb6 ?_
   refine a0r rfl (by decide) rfl (a0r rfl (by decide) rfl (a0m rfl rfl rfl rfl (a0c ?_)))
   refine a0p (fun a ha => ?_)
   cases hb2
   exact ⟨rfl, ha.cut (l := [0, 2, 9, 50]) rfl⟩
  refine a1e 47 rfl hb6 ?_
  refine a0e rfl rfl rfl ?_
  refine a0v rfl rfl rfl rfl rfl ?_
  refine a0l rfl rfl rfl rfl (a0c ?_)
  refine a0p (fun a ha => ?_)
  cases hb2
  exact ⟨rfl, ha.cut (l := [0, 2, 9, 50]) rfl⟩
 clear hm hkont1; intro hk1 mx1 K ihx1
 rintro atx1 a wx17 hm ⟨rfl, hax4⟩
 simp only [a9v] at hm
 refine a1l hax4 ?_
 refine a0f (a0f (a0a (a0e rfl rfl rfl (a0e rfl rfl rfl ?_))))
 refine a8k u9 rfl rfl rfl ?_
 refine a0v rfl rfl rfl rfl rfl ?_
 refine a0e rfl rfl rfl ?_
 obtain ⟨v6, hb7, hm⟩ := bind_some hm
 refine a2k 5 (fun a w' => wx1 = w' ∧ Has 59 a [(0, vs s1), (2, .pointer (some ⟨b1, 0, none⟩)), (4, .int .i64 atx1), (19, .bool v6)]) ?_ ?_
 ·rintro a wx18 ⟨rfl, hax5⟩
  refine a1a hax5 ?_
  refine a0c (a0d ?_)
  rcases a0i hm with ⟨hb8, hm⟩ | ⟨hb8, hm⟩
  ·refine a0u 19 rfl hb8 ?_
   refine a0z rfl (a1b (a0d (a1i (a0a (a0e rfl rfl rfl ?_)))))
   refine a0v rfl rfl rfl rfl rfl ?_
   refine a0b rfl rfl rfl (a0c (a2a ?_))
   refine a0p (fun a ha => ihx1 (iadd .i64 atx1 1) a _ hm ?_)
   exact ⟨rfl, ha.cut (l := [0, 2, 4]) rfl⟩
  refine a0u 19 rfl hb8 ?_
  refine a0s rfl (a3l (a0q (a0q ?_)))
  refine fun a ha => hk1 atx1 a _ hm ?_
  exact ⟨rfl, ha.cut (l := [0, 2, 4]) rfl⟩
 clear hm
 rcases a0i hb7 with ⟨hb9, hb7⟩ | ⟨hb9, hb7⟩
 ·refine a1e 14 rfl hb9 ?_
  refine a0e rfl rfl rfl (a0e rfl rfl rfl ?_)
  obtain ⟨c1, hc3, hb7⟩ := bind_some hb7
  refine b3y u9 rfl rfl rfl rfl hc3 ?_
  refine a0v rfl rfl rfl rfl rfl ?_
  refine a0m rfl rfl rfl rfl (a0c ?_)
  refine a0p (fun a ha => ?_)
  cases hb7
  exact ⟨rfl, ha.cut (l := [0, 2, 4, 19]) rfl⟩
 refine a1e 14 rfl hb9 ?_
 refine a0r rfl (by decide) rfl (a0r rfl (by decide) rfl (a0r rfl (by decide) rfl (a0r rfl (by decide) rfl (a0l rfl rfl rfl rfl (a0c ?_)))))
 refine a0p (fun a ha => ?_)
 cases hb7
 exact ⟨rfl, ha.cut (l := [0, 2, 4, 19]) rfl⟩
end Go.Proofs.YtaanocaobllohaaGreatDoor.M
