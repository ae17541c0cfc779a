/- Several texts in one, for FeeSmooth.said: what the theorem leans on. -/
import Derived.Test.YtknpjecpcmajiaaGreatRows
import Derived.Test.YtknpjecpcmajiaaGreatPs2
namespace Go.Proofs.YtknpjecpcmajiaaGreat.M
open Go Go.RowKit Rt
def a5l (n : Nat) (ax1 : Big) (b1 : Big) (kont1 : Option Bool) : Nat → Int → Option Bool
 | 0, _ => none
 | mx1 + 1, i1 =>
  bif decide (i1 < (ax1.Digits.length : Int)) then
   (ix ax1.Digits i1).bind fun ex1 =>
   (ix b1.Digits i1).bind fun ex2 =>
   bif ex1 != ex2 then
    some false
   else
    a5l n ax1 b1 kont1 mx1 (iadd .i64 i1 1)
  else
   kont1
theorem b5d (n : Nat) (ax1 : Big) (b1 : Big) (kont1 : Option Bool) (mx1 : Nat) (i1 : Int) : a5l n ax1 b1 kont1 (mx1 + 1) i1 =
  bif decide (i1 < (ax1.Digits.length : Int)) then
   (ix ax1.Digits i1).bind fun ex1 =>
   (ix b1.Digits i1).bind fun ex2 =>
   bif ex1 != ex2 then
    some false
   else
    a5l n ax1 b1 kont1 mx1 (iadd .i64 i1 1)
  else
   kont1 := rfl
def b0b (n : Nat) (ax1 : Big) (b1 : Big) : Option Bool :=
 (bif ax1.Sign != b1.Sign then
  some true
 else
  some ((ax1.Digits.length : Int) != (b1.Digits.length : Int))).bind fun v1 =>
 bif v1 then
  some false
 else
  a5l n ax1 b1 (
   some true) n 0
set_option maxHeartbeats 1000000 in
set_option maxRecDepth 1000000 in
theorem b2g (n : Nat) (ax1 : Big) (b1 : Big) (r : Bool) (hm : b0b n ax1 b1 = some r) {w : World} {F : Frz} (hs : Sat F w) {as1 : Option Addr} {ns1 : Nat} {cs1 : Nat} {as2 : Option Addr} {ns2 : Nat} {cs2 : Nat} (hs1 : SlR (Rp.int .i64) F as1 ns1 cs1 ax1.Digits) (hs2 : SlR (Rp.int .i64) F as2 ns2 cs2 b1.Digits) :
  Calls Tryz.prog 43 #[.agg #[.int .i64 ax1.Sign, .slice as1 ns1 cs1], .agg #[.int .i64 b1.Sign, .slice as2 ns2 cs2]] w fun e w' => ∃ v F' O', e = .returned v ∧ HS F w [] F' O' w' ∧ (v = .bool r ∧ O' = []) := by
 unfold b0b at hm
 have h := HS.init hs
 refine a1a 38 Tryz.func43 rfl rfl rfl ?_
 refine a0f (a0a ?_)
 refine a2t rfl rfl rfl rfl h ?_
 intro b2 wx1 hx1
 refine a2t rfl rfl rfl rfl hx1 ?_
 intro b3 wx2 hx2
 refine a0b rfl rfl rfl (a0c (a0d (a0f (a0f (a0a ?_)))))
 refine a0h fa35_0 rfl rfl rfl ?_
 refine a0r ag3 rfl rfl hx2 rfl (i := 1) rfl rfl ?_
 refine a0h fa35_0 rfl rfl rfl ?_
 refine a0r ag3 rfl rfl hx2 rfl (i := 0) rfl rfl ?_
 refine a0u rfl rfl rfl rfl rfl ?_
 refine a0e rfl rfl rfl ?_
 obtain ⟨v1, hb1, hm⟩ := bind_some hm
 refine a2r 8 (fun a w' => wx2 = w' ∧ Has 38 a [(2, .pointer (some ⟨b2, 0, none⟩)), (3, .pointer (some ⟨b3, 0, none⟩)), (19, .bool v1)]) ?_ ?_
 ·rintro a wx3 ⟨rfl, hax1⟩
  refine a1f hax1 ?_
  refine a0c (a0d ?_)
  rcases a0g hm with ⟨hb2, hm⟩ | ⟨hb2, hm⟩
  ·refine a0t 19 rfl hb2 ?_
   refine a0y rfl (a0f (a0a (a0b rfl rfl rfl (a0c (a0d (a1d (a0k ?_)))))))
   refine a1l rfl rfl ?_
   obtain rfl := Option.some.inj hm
   exact ⟨_, _, _, rfl, hx2.pick [] (by decide) rfl, rfl, rfl⟩
  ·refine a0t 19 rfl hb2 ?_
   refine a0s rfl (a1e (a0d (a0f (a0f (a0a (a0b rfl rfl rfl (a0c (a0d (a1g ?_)))))))))
   intro a hax4
   obtain ⟨kont1, hkont1⟩ : ∃ kont1 : Option Bool, kont1 = (
       some true) := ⟨_, rfl⟩
   replace hm : (fun m (s : Int) => a5l n ax1 b1 kont1 m s) n 0 = some r := by rw [hkont1]; exact hm
   refine a5w (id := 0) (fun m (s : Int) => a5l n ax1 b1 kont1 m s) (fun (y : Unit) => kont1) r (fun (s : Int) a w' => ∃ (Fx1 : Frz), Frz.le F Fx1 ∧ HS F w [] Fx1 [.box b3 35 [.int .i64 b1.Sign, .slice as2 ns2 cs2], .box b2 35 [.int .i64 ax1.Sign, .slice as1 ns1 cs1]] w' ∧ Has 38 a [(2, .pointer (some ⟨b2, 0, none⟩)), (3, .pointer (some ⟨b3, 0, none⟩)), (5, .int .i64 s)]) (fun (y : Unit) a w' => ∃ (Fx2 : Frz), Frz.le F Fx2 ∧ HS F w [] Fx2 [] w' ∧ Has 38 a []) (fun _ => rfl) ?_ ?_ hm ⟨_, Frz.refl _, hx2.pick [0, 1] (by decide) rfl, hax4.cut (l := [2, 3, 5]) rfl⟩
   ·clear hm; rintro _u a wx4 hm ⟨Fx2, hF2, hx4, hax2⟩
    rw [hkont1] at hm
    refine a2f (e := .exit 0) hax2 ?_
    refine a1k (a0d (a0f (a0a (a0b rfl rfl rfl (a0c (a0d (a1d ?_)))))))
    refine a1l rfl rfl ?_
    obtain rfl := Option.some.inj hm
    exact ⟨_, _, _, rfl, hx4.pick [] (by decide) rfl, rfl, rfl⟩
   ·clear hm hkont1; intro hk1 mx1 K ihx1
    rintro i1 a wx5 hm ⟨Fx1, hF1, hx3, hax3⟩
    simp only [b5d] at hm
    refine a1i hax3 ?_
    refine a0f (a0f (a0a (a0e rfl rfl rfl ?_)))
    refine a0h fa35_1 rfl rfl rfl ?_
    refine a0r ag28 rfl rfl hx3 rfl (i := 1) rfl rfl ?_
    refine a1u hs1.len u28 rfl rfl rfl ?_
    refine a0u rfl rfl rfl rfl rfl ?_
    refine a0c (a0d ?_)
    rcases a0g hm with ⟨hb3, hm⟩ | ⟨hb3, hm⟩
    ·refine a0t 24 rfl hb3 ?_
     refine a0y rfl (a1e (a0d (a0f (a1g (a0f ?_)))))
     refine a4f (by kernel_rfl) (by kernel_rfl) hx3 ?_
     refine a1h rfl rfl rfl rfl (fun _ _ _ _ => a0h fa35_1 rfl rfl rfl (a0c (qq rfl))) ?_
     refine a1h rfl rfl rfl rfl (fun _ _ _ hq => a0r ag28 rfl rfl hq rfl (i := 1) rfl rfl (a0c (qq rfl))) ?_
     refine a1h rfl rfl rfl rfl (fun _ _ _ _ => a0e rfl rfl rfl (a0c (qq rfl))) ?_
     obtain ⟨ex1, he1, hm⟩ := bind_some hm
     obtain ⟨b4, o1, cs1, hf1, hr1, hrun1⟩ := a2s (P := Tryz.prog) (r := (Rp.int .i64)) u28 sz3 (hs1.mono hF1) he1
     have hc1 : cs1 = [.int .i64 ex1] := hr1
     subst hc1
     refine a3i rfl rfl rfl rfl hrun1 ?_
     refine a1h rfl rfl rfl rfl (fun _ _ hleq hq => a2h (j := 0) ag3 rfl rfl hq (hf1.mono hleq) rfl rfl (a0c (qq rfl))) ?_
     refine a1h rfl rfl rfl rfl (fun _ _ _ _ => a0h fa35_1 rfl rfl rfl (a0c (qq rfl))) ?_
     refine a1h rfl rfl rfl rfl (fun _ _ _ hq => a0r ag28 rfl rfl hq rfl (i := 0) rfl rfl (a0c (qq rfl))) ?_
     refine a1h rfl rfl rfl rfl (fun _ _ _ _ => a0e rfl rfl rfl (a0c (qq rfl))) ?_
     obtain ⟨ex2, he2, hm⟩ := bind_some hm
     obtain ⟨b5, o2, cs2, hf2, hr2, hrun2⟩ := a2s (P := Tryz.prog) (r := (Rp.int .i64)) u28 sz3 (hs2.mono hF1) he2
     have hc2 : cs2 = [.int .i64 ex2] := hr2
     subst hc2
     refine a3i rfl rfl rfl rfl hrun2 ?_
     refine a1h rfl rfl rfl rfl (fun _ _ hleq hq => a2h (j := 0) ag3 rfl rfl hq (hf2.mono hleq) rfl rfl (a0c (qq rfl))) ?_
     refine a1h rfl rfl rfl rfl (fun _ _ _ _ => a0u rfl rfl rfl rfl rfl (a0c (qq rfl))) ?_
     refine b2i ?_
     rintro wx6 ⟨Fx3, hF3, hx5⟩
     refine a0d ?_
     rcases a0g hm with ⟨hb4, hm⟩ | ⟨hb4, hm⟩
     ·refine a0t 37 rfl hb4 ?_
      refine a0y rfl (a0f (a0a (a0b rfl rfl rfl (a0c (a0d (a1d (a0x (a0k (a0k (a0x (a0k ?_)))))))))))
      refine a1l rfl rfl ?_
      obtain rfl := Option.some.inj hm
      exact ⟨_, _, _, rfl, hx5.pick [] (by decide) rfl, rfl, rfl⟩
     ·refine a0t 37 rfl hb4 ?_
      refine a0s rfl (a1e (a1m (a0d (a0a (a0e rfl rfl rfl ?_)))))
      refine a0u rfl rfl rfl rfl rfl ?_
      refine a0b rfl rfl rfl (a0c ?_)
      refine a0n (fun a ha => ihx1 (iadd .i64 i1 1) a _ hm ?_)
      exact ⟨_, (hF1.trans hF3), hx5.pick [0, 1] (by decide) rfl, ha.cut (l := [2, 3, 5]) rfl⟩
    ·refine a0t 24 rfl hb3 ?_
     refine a0s rfl (a3u (a0w (a0w ?_)))
     refine fun a ha => hk1 () a _ hm ?_
     exact ⟨_, hF1, hx3.pick [] (by decide) rfl, ha.cut (l := []) rfl⟩
 ·clear hm
  rcases a0g hb1 with ⟨hb5, hb1⟩ | ⟨hb5, hb1⟩
  ·refine a1j 11 rfl hb5 ?_
   refine a0z rfl (by decide) rfl (a0z rfl (by decide) rfl (a0z rfl (by decide) rfl (a0z rfl (by decide) rfl (a0z rfl (by decide) rfl (a0z rfl (by decide) rfl (a0z rfl (by decide) rfl (a0q rfl rfl rfl rfl (a0c ?_))))))))
   refine a0n (fun a ha => ?_)
   cases hb1
   exact ⟨rfl, ha.cut (l := [2, 3, 19]) rfl⟩
  ·refine a1j 11 rfl hb5 ?_
   refine a0h fa35_1 rfl rfl rfl ?_
   refine a0r ag28 rfl rfl hx2 rfl (i := 1) rfl rfl ?_
   refine a1u hs1.len u28 rfl rfl rfl ?_
   refine a0h fa35_1 rfl rfl rfl ?_
   refine a0r ag28 rfl rfl hx2 rfl (i := 0) rfl rfl ?_
   refine a1u hs2.len u28 rfl rfl rfl ?_
   refine a0u rfl rfl rfl rfl rfl ?_
   refine a0m rfl rfl rfl rfl (a0c ?_)
   refine a0n (fun a ha => ?_)
   cases hb1
   exact ⟨rfl, ha.cut (l := [2, 3, 19]) rfl⟩
structure Frac where
 P : Big
 Q : Big
 deriving DecidableEq, Inhabited
def rp_Frac : Rp Frac where
 k := 4
 R := fun F cs x => ∃ (a1 : Option Addr) (n1 : Nat) (c1 : Nat) (a3 : Option Addr) (n3 : Nat) (c3 : Nat), cs = [.int .i64 x.P.Sign, .slice a1 n1 c1, .int .i64 x.Q.Sign, .slice a3 n3 c3] ∧ SlR (Rp.int .i64) F a1 n1 c1 x.P.Digits ∧ SlR (Rp.int .i64) F a3 n3 c3 x.Q.Digits
 len := by rintro F cs x ⟨a1, n1, c1, a3, n3, c3, h, _⟩; simp [h]
 mono := by rintro F F' cs x hF ⟨a1, n1, c1, a3, n3, c3, h, h0, h1⟩; exact ⟨a1, n1, c1, a3, n3, c3, h, h0.mono hF, h1.mono hF⟩
 one := by rintro F cs x ⟨a1, n1, c1, a3, n3, c3, h, _⟩ u hu; subst h; simp at hu; rcases hu with rfl | rfl | rfl | rfl <;> rfl
theorem fa37_0 : a6n Tryz.prog 37 0 0 := fun _ _ _ => by kernel_rfl
theorem ent43 : Ent Tryz.prog 43 := fun _ _ => by kernel_rfl
theorem fa37_1 : a6n Tryz.prog 37 1 2 := fun _ _ _ => by kernel_rfl
def b0e (n : Nat) (ax1 : Frac) (b1 : Frac) : Option Bool :=
 (b0b n ax1.P b1.P).bind fun v1 =>
 (bif v1 then
  (b0b n ax1.Q b1.Q).bind fun v3 =>
  some v3
 else
  some false).bind fun v2 =>
 some v2
set_option maxHeartbeats 1000000 in
set_option maxRecDepth 1000000 in
theorem a9z (n : Nat) (ax1 : Frac) (b1 : Frac) (r : Bool) (hm : b0e n ax1 b1 = some r) {w : World} {F : Frz} (hs : Sat F w) {as1 : Option Addr} {ns1 : Nat} {cs1 : Nat} {as2 : Option Addr} {ns2 : Nat} {cs2 : Nat} {as3 : Option Addr} {ns3 : Nat} {cs3 : Nat} {as4 : Option Addr} {ns4 : Nat} {cs4 : Nat} (hs1 : SlR (Rp.int .i64) F as1 ns1 cs1 ax1.P.Digits) (hs2 : SlR (Rp.int .i64) F as2 ns2 cs2 ax1.Q.Digits) (hs3 : SlR (Rp.int .i64) F as3 ns3 cs3 b1.P.Digits) (hs4 : SlR (Rp.int .i64) F as4 ns4 cs4 b1.Q.Digits) :
  Calls Tryz.prog 12 #[.agg #[.int .i64 ax1.P.Sign, .slice as1 ns1 cs1, .int .i64 ax1.Q.Sign, .slice as2 ns2 cs2], .agg #[.int .i64 b1.P.Sign, .slice as3 ns3 cs3, .int .i64 b1.Q.Sign, .slice as4 ns4 cs4]] w fun e w' => ∃ v F' O', e = .returned v ∧ HS F w [] F' O' w' ∧ (v = .bool r ∧ O' = []) := by
 unfold b0e at hm
 have h := HS.init hs
 refine a1a 17 Tryz.func12 rfl rfl rfl ?_
 refine a0f (a0a ?_)
 refine a2t rfl rfl rfl rfl h ?_
 intro b2 wx1 hx1
 refine a2t rfl rfl rfl rfl hx1 ?_
 intro b3 wx2 hx2
 refine a0b rfl rfl rfl (a0c (a0d (a0f (a0a ?_))))
 refine a0h fa37_0 rfl rfl rfl ?_
 refine a2m (cs' := [.int .i64 ax1.P.Sign, .slice as1 ns1 cs1]) ag35 sz35 rfl rfl hx2 rfl (i := 1) rfl rfl rfl ?_
 refine a0h fa37_0 rfl rfl rfl ?_
 refine a2m (cs' := [.int .i64 b1.P.Sign, .slice as3 ns3 cs3]) ag35 sz35 rfl rfl hx2 rfl (i := 0) rfl rfl rfl ?_
 obtain ⟨v1, hv1, hm⟩ := bind_some hm
 refine a0i ent43 rfl rfl rfl rfl hx2 (b2g _ _ _ _ hv1 hx2.sat hs1 hs3) ?_
 rintro _ Fx1 _ wx3 hF1 hx3 ⟨rfl, rfl⟩
 refine a0e rfl rfl rfl ?_
 obtain ⟨v2, hb1, hm⟩ := bind_some hm
 refine a2r 6 (fun a w' => ∃ (Fx2 : Frz), Frz.le Fx1 Fx2 ∧ HS F w [] Fx2 [.box b3 37 [.int .i64 b1.P.Sign, .slice as3 ns3 cs3, .int .i64 b1.Q.Sign, .slice as4 ns4 cs4], .box b2 37 [.int .i64 ax1.P.Sign, .slice as1 ns1 cs1, .int .i64 ax1.Q.Sign, .slice as2 ns2 cs2]] w' ∧ Has 17 a [(16, .bool v2)]) ?_ ?_
 ·rintro a wx4 ⟨Fx2, hF2, hx4, hax1⟩
  refine a1f hax1 ?_
  refine a0b rfl rfl rfl (a0c (a0d (a1d ?_)))
  refine a1l rfl rfl ?_
  obtain rfl := Option.some.inj hm
  exact ⟨_, _, _, rfl, hx4.pick [] (by decide) rfl, rfl, rfl⟩
 ·clear hm
  rcases a0g hb1 with ⟨hb2, hb1⟩ | ⟨hb2, hb1⟩
  ·refine a1j 10 rfl hb2 ?_
   refine a0h fa37_1 rfl rfl rfl ?_
   refine a2m (cs' := [.int .i64 ax1.Q.Sign, .slice as2 ns2 cs2]) ag35 sz35 rfl rfl hx3 rfl (i := 1) rfl rfl rfl ?_
   refine a0h fa37_1 rfl rfl rfl ?_
   refine a2m (cs' := [.int .i64 b1.Q.Sign, .slice as4 ns4 cs4]) ag35 sz35 rfl rfl hx3 rfl (i := 0) rfl rfl rfl ?_
   obtain ⟨v3, hv2, hb1⟩ := bind_some hb1
   refine a0i ent43 rfl rfl rfl rfl hx3 (b2g _ _ _ _ hv2 hx3.sat (hs2.mono hF1) (hs4.mono hF1)) ?_
   rintro _ Fx3 _ wx5 hF3 hx5 ⟨rfl, rfl⟩
   refine a0q rfl rfl rfl rfl (a0c ?_)
   refine a0n (fun a ha => ?_)
   cases hb1
   exact ⟨_, hF3, hx5.pick [0, 1] (by decide) rfl, ha.cut (l := [16]) rfl⟩
  ·refine a1j 10 rfl hb2 ?_
   refine a0z rfl (by decide) rfl (a0z rfl (by decide) rfl (a0z rfl (by decide) rfl (a0z rfl (by decide) rfl (a0z rfl (by decide) rfl (a0m rfl rfl rfl rfl (a0c ?_))))))
   refine a0n (fun a ha => ?_)
   cases hb1
   exact ⟨_, Frz.refl _, hx3.pick [0, 1] (by decide) rfl, ha.cut (l := [16]) rfl⟩
def a9t (_n : Nat) (f1 : Frac) (nx1 : Int) : Option Bool :=
 (bif decide ((f1.P.Digits.length : Int) ≤ nx1) then
  some (decide ((f1.Q.Digits.length : Int) ≤ nx1))
 else
  some false).bind fun v1 =>
 some v1
set_option maxHeartbeats 1000000 in
set_option maxRecDepth 1000000 in
theorem c0x (n : Nat) (f1 : Frac) (nx1 : Int) (r : Bool) (hm : a9t n f1 nx1 = some r) {w : World} {F : Frz} (hs : Sat F w) {as1 : Option Addr} {ns1 : Nat} {cs1 : Nat} {as2 : Option Addr} {ns2 : Nat} {cs2 : Nat} (hs1 : SlR (Rp.int .i64) F as1 ns1 cs1 f1.P.Digits) (hs2 : SlR (Rp.int .i64) F as2 ns2 cs2 f1.Q.Digits) :
  Calls Tryz.prog 13 #[.agg #[.int .i64 f1.P.Sign, .slice as1 ns1 cs1, .int .i64 f1.Q.Sign, .slice as2 ns2 cs2], .int .i64 nx1] w fun e w' => ∃ v F' O', e = .returned v ∧ HS F w [] F' O' w' ∧ (v = .bool r ∧ O' = []) := by
 unfold a9t at hm
 have h := HS.init hs
 refine a1a 19 Tryz.func13 rfl rfl rfl ?_
 refine a0f (a0a ?_)
 refine a2t rfl rfl rfl rfl h ?_
 intro b1 wx1 hx1
 refine a0b rfl rfl rfl (a0c (a0d (a0f (a0a ?_))))
 refine a0h fa37_0 rfl rfl rfl ?_
 refine a0h fa35_1 rfl rfl rfl ?_
 refine a0r ag28 rfl rfl hx1 rfl (i := 0) rfl rfl ?_
 refine a1u hs1.len u28 rfl rfl rfl ?_
 refine a0e rfl rfl rfl ?_
 refine a0u rfl rfl rfl rfl rfl ?_
 refine a0e rfl rfl rfl ?_
 obtain ⟨v1, hb1, hm⟩ := bind_some hm
 refine a2r 7 (fun a w' => wx1 = w' ∧ Has 19 a [(18, .bool v1)]) ?_ ?_
 ·rintro a wx2 ⟨rfl, hax1⟩
  refine a1f hax1 ?_
  refine a0b rfl rfl rfl (a0c (a0d (a1d ?_)))
  refine a1l rfl rfl ?_
  obtain rfl := Option.some.inj hm
  exact ⟨_, _, _, rfl, hx1.pick [] (by decide) rfl, rfl, rfl⟩
 ·clear hm
  rcases a0g hb1 with ⟨hb2, hb1⟩ | ⟨hb2, hb1⟩
  ·refine a1j 11 rfl hb2 ?_
   refine a0h fa37_1 rfl rfl rfl ?_
   refine a0h fa35_1 rfl rfl rfl ?_
   refine a0r ag28 rfl rfl hx1 rfl (i := 0) rfl rfl ?_
   refine a1u hs2.len u28 rfl rfl rfl ?_
   refine a0e rfl rfl rfl ?_
   refine a0u rfl rfl rfl rfl rfl ?_
   refine a0q rfl rfl rfl rfl (a0c ?_)
   refine a0n (fun a ha => ?_)
   cases hb1
   exact ⟨rfl, ha.cut (l := [18]) rfl⟩
  ·refine a1j 11 rfl hb2 ?_
   refine a0z rfl (by decide) rfl (a0z rfl (by decide) rfl (a0z rfl (by decide) rfl (a0z rfl (by decide) rfl (a0z rfl (by decide) rfl (a0z rfl (by decide) rfl (a0m rfl rfl rfl rfl (a0c ?_)))))))
   refine a0n (fun a ha => ?_)
   cases hb1
   exact ⟨rfl, ha.cut (l := [18]) rfl⟩
theorem ent83 : Ent Tryz.prog 83 := fun _ _ => by kernel_rfl
def b4x (n : Nat) (ax1 : Big) : Option Bool :=
 (b7o n ax1).bind fun v1 =>
 (bif v1.2 then
  some (v1.1 == 1)
 else
  some false).bind fun v2 =>
 some v2
set_option maxHeartbeats 1000000 in
set_option maxRecDepth 1000000 in
theorem c2r (n : Nat) (ax1 : Big) (r : Bool) (hm : b4x n ax1 = some r) {w : World} {F : Frz} (hs : Sat F w) {as1 : Option Addr} {ns1 : Nat} {cs1 : Nat} (hs1 : SlR (Rp.int .i64) F as1 ns1 cs1 ax1.Digits) :
  Calls Tryz.prog 46 #[.agg #[.int .i64 ax1.Sign, .slice as1 ns1 cs1]] w fun e w' => ∃ v F' O', e = .returned v ∧ HS F w [] F' O' w' ∧ (v = .bool r ∧ O' = []) := by
 unfold b4x at hm
 have h := HS.init hs
 refine a1a 15 Tryz.func46 rfl rfl rfl ?_
 refine a0f (a0a ?_)
 refine a2t rfl rfl rfl rfl h ?_
 intro b1 wx1 hx1
 refine a0b rfl rfl rfl (a0c (a0d (a0f (a0a ?_))))
 refine a0l ag35 sz35 rfl rfl hx1 rfl (i := 0) rfl rfl ?_
 obtain ⟨v1, hv1, hm⟩ := bind_some hm
 refine a0i ent83 rfl rfl rfl rfl hx1 (c3t _ _ _ hv1 hx1.sat hs1) ?_
 rintro _ Fx1 _ wx2 hF1 hx2 ⟨rfl, rfl⟩
 refine a0e rfl rfl rfl (a0j rfl rfl rfl rfl (a0j rfl rfl rfl rfl (a0b rfl rfl rfl (a0b rfl rfl rfl (a0c (a0d (a0f (a0a (a0e rfl rfl rfl (a0e rfl rfl rfl ?_))))))))))
 obtain ⟨v2, hb1, hm⟩ := bind_some hm
 refine a2r 3 (fun a w' => wx2 = w' ∧ Has 15 a [(14, .bool v2)]) ?_ ?_
 ·rintro a wx3 ⟨rfl, hax1⟩
  refine a1f hax1 ?_
  refine a0b rfl rfl rfl (a0c (a0d (a1d ?_)))
  refine a1l rfl rfl ?_
  obtain rfl := Option.some.inj hm
  exact ⟨_, _, _, rfl, hx2.pick [] (by decide) rfl, rfl, rfl⟩
 ·clear hm
  rcases a0g hb1 with ⟨hb2, hb1⟩ | ⟨hb2, hb1⟩
  ·refine a1j 11 rfl hb2 ?_
   refine a0e rfl rfl rfl ?_
   refine a0u rfl rfl rfl rfl rfl ?_
   refine a0q rfl rfl rfl rfl (a0c ?_)
   refine a0n (fun a ha => ?_)
   cases hb1
   exact ⟨rfl, ha.cut (l := [14]) rfl⟩
  ·refine a1j 11 rfl hb2 ?_
   refine a0z rfl (by decide) rfl (a0z rfl (by decide) rfl (a0m rfl rfl rfl rfl (a0c ?_)))
   refine a0n (fun a ha => ?_)
   cases hb1
   exact ⟨rfl, ha.cut (l := [14]) rfl⟩
theorem ent45 : Ent Tryz.prog 45 := fun _ _ => by kernel_rfl
theorem ent46 : Ent Tryz.prog 46 := fun _ _ => by kernel_rfl
def a2z (n : Nat) (f1 : Frac) : Option Bool :=
 (a3p n f1.P).bind fun v1 =>
 (bif !v1 then
  some true
 else
  (a3p n f1.Q).bind fun v7 =>
  some (!v7)).bind fun v2 =>
 (bif v2 then
  some true
 else
  some (f1.Q.Sign != 1)).bind fun v3 =>
 bif v3 then
  some false
 else
  (b3h n f1.P f1.Q).bind fun v4 =>
  (bif v4.2 == 0 then
   (b4x n v4.1).bind fun v6 =>
   some v6
  else
   some false).bind fun v5 =>
  some v5
set_option maxHeartbeats 1000000 in
set_option maxRecDepth 1000000 in
theorem a2u (n : Nat) (f1 : Frac) (r : Bool) (hm : a2z n f1 = some r) {w : World} {F : Frz} (hs : Sat F w) {as1 : Option Addr} {ns1 : Nat} {cs1 : Nat} {as2 : Option Addr} {ns2 : Nat} {cs2 : Nat} (hs1 : SlR (Rp.int .i64) F as1 ns1 cs1 f1.P.Digits) (hs2 : SlR (Rp.int .i64) F as2 ns2 cs2 f1.Q.Digits) :
  Calls Tryz.prog 14 #[.agg #[.int .i64 f1.P.Sign, .slice as1 ns1 cs1, .int .i64 f1.Q.Sign, .slice as2 ns2 cs2]] w fun e w' => ∃ v F' O', e = .returned v ∧ HS F w [] F' O' w' ∧ (v = .bool r ∧ O' = []) := by
 unfold a2z at hm
 have h := HS.init hs
 refine a1a 35 Tryz.func14 rfl rfl rfl ?_
 refine a0f (a0a ?_)
 refine a2t rfl rfl rfl rfl h ?_
 intro b1 wx1 hx1
 refine a0b rfl rfl rfl (a0c (a0d (a0f (a0f (a0a ?_)))))
 refine a0h fa37_0 rfl rfl rfl ?_
 refine a2m (cs' := [.int .i64 f1.P.Sign, .slice as1 ns1 cs1]) ag35 sz35 rfl rfl hx1 rfl (i := 0) rfl rfl rfl ?_
 obtain ⟨v1, hv1, hm⟩ := bind_some hm
 refine a0i ent44 rfl rfl rfl rfl hx1 (a3f _ _ _ hv1 hx1.sat hs1) ?_
 rintro _ Fx1 _ wx2 hF1 hx2 ⟨rfl, rfl⟩
 refine a4g rfl rfl rfl (a0e rfl rfl rfl ?_)
 obtain ⟨v2, hb1, hm⟩ := bind_some hm
 refine a2r 5 (fun a w' => ∃ (Fx2 : Frz), Frz.le Fx1 Fx2 ∧ HS F w [] Fx2 [.box b1 37 [.int .i64 f1.P.Sign, .slice as1 ns1 cs1, .int .i64 f1.Q.Sign, .slice as2 ns2 cs2]] w' ∧ Has 35 a [(1, .pointer (some ⟨b1, 0, none⟩)), (14, .bool v2)]) ?_ ?_
 ·rintro a wx3 ⟨Fx2, hF2, hx3, hax1⟩
  refine a1f hax1 ?_
  refine a0e rfl rfl rfl ?_
  obtain ⟨v3, hb2, hm⟩ := bind_some hm
  refine a2r 5 (fun a w' => wx3 = w' ∧ Has 35 a [(1, .pointer (some ⟨b1, 0, none⟩)), (20, .bool v3)]) ?_ ?_
  ·rintro a wx4 ⟨rfl, hax2⟩
   refine a1f hax2 ?_
   refine a0c (a0d ?_)
   rcases a0g hm with ⟨hb3, hm⟩ | ⟨hb3, hm⟩
   ·refine a0t 20 rfl hb3 ?_
    refine a0y rfl (a0f (a0a (a0b rfl rfl rfl (a0c (a0d (a1d (a0k ?_)))))))
    refine a1l rfl rfl ?_
    obtain rfl := Option.some.inj hm
    exact ⟨_, _, _, rfl, hx3.pick [] (by decide) rfl, rfl, rfl⟩
   ·refine a0t 20 rfl hb3 ?_
    refine a0s rfl (a1e (a0d (a0f (a0a ?_))))
    refine a0h fa37_0 rfl rfl rfl ?_
    refine a2m (cs' := [.int .i64 f1.P.Sign, .slice as1 ns1 cs1]) ag35 sz35 rfl rfl hx3 rfl (i := 0) rfl rfl rfl ?_
    refine a0h fa37_1 rfl rfl rfl ?_
    refine a2m (cs' := [.int .i64 f1.Q.Sign, .slice as2 ns2 cs2]) ag35 sz35 rfl rfl hx3 rfl (i := 0) rfl rfl rfl ?_
    obtain ⟨v4, hv2, hm⟩ := bind_some hm
    refine a0i ent45 rfl rfl rfl rfl hx3 (b1k _ _ _ _ hv2 hx3.sat ((hs1.mono hF1).mono hF2) ((hs2.mono hF1).mono hF2)) ?_
    rintro _ Fx3 _ wx5 hF3 hx4 ⟨as3, ns3, cs3, rfl, rfl, hs3⟩
    refine a0e rfl rfl rfl (a0j rfl rfl rfl rfl (a0j rfl rfl rfl rfl ?_))
    refine a1b ze35 rfl rfl rfl hx4 ?_
    intro b2 wx6 hx5
    refine a0p sz35 rfl hx5 rfl rfl rfl rfl (i := 0) rfl rfl rfl rfl ?_
    intro wx7 hx6
    refine a0b rfl rfl rfl (a0c (a0d (a0f (a0a (a0e rfl rfl rfl ?_)))))
    refine a0u rfl rfl rfl rfl rfl ?_
    refine a0e rfl rfl rfl ?_
    obtain ⟨v5, hb4, hm⟩ := bind_some hm
    refine a2r 3 (fun a w' => ∃ (Fx4 : Frz), Frz.le Fx3 Fx4 ∧ HS F w [] Fx4 [.box b2 35 [.int .i64 v4.1.Sign, .slice as3 ns3 cs3], .box b1 37 [.int .i64 f1.P.Sign, .slice as1 ns1 cs1, .int .i64 f1.Q.Sign, .slice as2 ns2 cs2]] w' ∧ Has 35 a [(34, .bool v5)]) ?_ ?_
    ·rintro a wx8 ⟨Fx4, hF4, hx7, hax3⟩
     refine a1f hax3 ?_
     refine a0b rfl rfl rfl (a0c (a0d (a1d ?_)))
     refine a1l rfl rfl ?_
     obtain rfl := Option.some.inj hm
     exact ⟨_, _, _, rfl, hx7.pick [] (by decide) rfl, rfl, rfl⟩
    ·clear hm
     rcases a0g hb4 with ⟨hb5, hb4⟩ | ⟨hb5, hb4⟩
     ·refine a1j 31 rfl hb5 ?_
      refine a0l ag35 sz35 rfl rfl hx6 rfl (i := 0) rfl rfl ?_
      obtain ⟨v6, hv3, hb4⟩ := bind_some hb4
      refine a0i ent46 rfl rfl rfl rfl hx6 (c2r _ _ _ hv3 hx6.sat hs3) ?_
      rintro _ Fx5 _ wx9 hF5 hx8 ⟨rfl, rfl⟩
      refine a0q rfl rfl rfl rfl (a0c ?_)
      refine a0n (fun a ha => ?_)
      cases hb4
      exact ⟨_, hF5, hx8.pick [0, 1] (by decide) rfl, ha.cut (l := [34]) rfl⟩
     ·refine a1j 31 rfl hb5 ?_
      refine a0z rfl (by decide) rfl (a0z rfl (by decide) rfl (a0m rfl rfl rfl rfl (a0c ?_)))
      refine a0n (fun a ha => ?_)
      cases hb4
      exact ⟨_, Frz.refl _, hx6.pick [0, 1] (by decide) rfl, ha.cut (l := [34]) rfl⟩
  ·clear hm
   rcases a0g hb2 with ⟨hb6, hb2⟩ | ⟨hb6, hb2⟩
   ·refine a1j 15 rfl hb6 ?_
    refine a0z rfl (by decide) rfl (a0z rfl (by decide) rfl (a0z rfl (by decide) rfl (a0z rfl (by decide) rfl (a0q rfl rfl rfl rfl (a0c ?_)))))
    refine a0n (fun a ha => ?_)
    cases hb2
    exact ⟨rfl, ha.cut (l := [1, 20]) rfl⟩
   ·refine a1j 15 rfl hb6 ?_
    refine a0h fa37_1 rfl rfl rfl ?_
    refine a0h fa35_0 rfl rfl rfl ?_
    refine a0r ag3 rfl rfl hx3 rfl (i := 0) rfl rfl ?_
    refine a0u rfl rfl rfl rfl rfl ?_
    refine a0m rfl rfl rfl rfl (a0c ?_)
    refine a0n (fun a ha => ?_)
    cases hb2
    exact ⟨rfl, ha.cut (l := [1, 20]) rfl⟩
 ·clear hm
  rcases a0g hb1 with ⟨hb7, hb1⟩ | ⟨hb7, hb1⟩
  ·refine a1j 9 rfl hb7 ?_
   refine a0z rfl (by decide) rfl (a0z rfl (by decide) rfl (a0z rfl (by decide) rfl (a0z rfl (by decide) rfl (a0q rfl rfl rfl rfl (a0c ?_)))))
   refine a0n (fun a ha => ?_)
   cases hb1
   exact ⟨_, Frz.refl _, hx2.pick [0] (by decide) rfl, ha.cut (l := [1, 14]) rfl⟩
  ·refine a1j 9 rfl hb7 ?_
   refine a0h fa37_1 rfl rfl rfl ?_
   refine a2m (cs' := [.int .i64 f1.Q.Sign, .slice as2 ns2 cs2]) ag35 sz35 rfl rfl hx2 rfl (i := 0) rfl rfl rfl ?_
   obtain ⟨v7, hv4, hb1⟩ := bind_some hb1
   refine a0i ent44 rfl rfl rfl rfl hx2 (a3f _ _ _ hv4 hx2.sat (hs2.mono hF1)) ?_
   rintro _ Fx6 _ wx10 hF6 hx9 ⟨rfl, rfl⟩
   refine a4g rfl rfl rfl (a0m rfl rfl rfl rfl (a0c ?_))
   refine a0n (fun a ha => ?_)
   cases hb1
   exact ⟨_, hF6, hx9.pick [0] (by decide) rfl, ha.cut (l := [1, 14]) rfl⟩
theorem ze37 : c1c Tryz.prog 37 (.agg #[.int .i64 0, .slice none 0 0, .int .i64 0, .slice none 0 0]) := fun _ => by kernel_rfl
theorem sz37 : a5f Tryz.prog 37 4 := fun _ => by kernel_rfl
theorem ag37 : a9y Tryz.prog 37 true := fun _ => by kernel_rfl
theorem ent52 : Ent Tryz.prog 52 := fun _ _ => by kernel_rfl
theorem ent93 : Ent Tryz.prog 93 := fun _ _ => by kernel_rfl
def b1x (n : Nat) (p1 : Big) (q1 : Big) : Option (Frac × Int) :=
 (a3p n p1).bind fun v1 =>
 (bif !v1 then
  some true
 else
  (a3p n q1).bind fun v11 =>
  some (!v11)).bind fun v2 =>
 bif v2 then
  some ((⟨(⟨0, []⟩ : Big), (⟨0, []⟩ : Big)⟩ : Frac), 1)
 else
  bif q1.Sign == 0 then
   some ((⟨(⟨0, []⟩ : Big), (⟨0, []⟩ : Big)⟩ : Frac), 14)
  else
   bif decide (q1.Sign < 0) then
    (b1a n p1).bind fun v3 =>
    (b1a n q1).bind fun v4 =>
    (b3h n v3 v4).bind fun v5 =>
    (b1c n v3 v5.1).bind fun v6 =>
    (b1c n v4 v5.1).bind fun v7 =>
    some ((⟨v6.1, v7.1⟩ : Frac), 0)
   else
    (b3h n p1 q1).bind fun v8 =>
    (b1c n p1 v8.1).bind fun v9 =>
    (b1c n q1 v8.1).bind fun v10 =>
    some ((⟨v9.1, v10.1⟩ : Frac), 0)
set_option maxHeartbeats 1000000 in
set_option maxRecDepth 1000000 in
theorem b4h (n : Nat) (p1 : Big) (q1 : Big) (r : (Frac × Int)) (hm : b1x n p1 q1 = some r) {w : World} {F : Frz} (hs : Sat F w) {as1 : Option Addr} {ns1 : Nat} {cs1 : Nat} {as2 : Option Addr} {ns2 : Nat} {cs2 : Nat} (hs1 : SlR (Rp.int .i64) F as1 ns1 cs1 p1.Digits) (hs2 : SlR (Rp.int .i64) F as2 ns2 cs2 q1.Digits) :
  Calls Tryz.prog 53 #[.agg #[.int .i64 p1.Sign, .slice as1 ns1 cs1], .agg #[.int .i64 q1.Sign, .slice as2 ns2 cs2]] w fun e w' => ∃ v F' O', e = .returned v ∧ HS F w [] F' O' w' ∧ (∃ (a0_1 : Option Addr) (n0_1 : Nat) (c0_1 : Nat) (a0_3 : Option Addr) (n0_3 : Nat) (c0_3 : Nat), v = .tuple #[.agg #[.int .i64 r.1.P.Sign, .slice a0_1 n0_1 c0_1, .int .i64 r.1.Q.Sign, .slice a0_3 n0_3 c0_3], .int .i64 r.2] ∧ O' = [] ∧ SlR (Rp.int .i64) F' a0_1 n0_1 c0_1 r.1.P.Digits ∧ SlR (Rp.int .i64) F' a0_3 n0_3 c0_3 r.1.Q.Digits) := by
 unfold b1x at hm
 have h := HS.init hs
 refine a1a 60 Tryz.func53 rfl rfl rfl ?_
 refine a0f (a0a ?_)
 refine a2t rfl rfl rfl rfl h ?_
 intro b1 wx1 hx1
 refine a2t rfl rfl rfl rfl hx1 ?_
 intro b2 wx2 hx2
 refine a1b ze37 rfl rfl rfl hx2 ?_
 intro b3 wx3 hx3
 refine a0b rfl rfl rfl (a0c (a0d (a0f (a1g (a0f (a0a ?_))))))
 refine a0l ag35 sz35 rfl rfl hx3 rfl (i := 2) rfl rfl ?_
 obtain ⟨v1, hv1, hm⟩ := bind_some hm
 refine a0i ent44 rfl rfl rfl rfl hx3 (a3f _ _ _ hv1 hx3.sat hs1) ?_
 rintro _ Fx1 _ wx4 hF1 hx4 ⟨rfl, rfl⟩
 refine a4g rfl rfl rfl (a0e rfl rfl rfl ?_)
 obtain ⟨v2, hb1, hm⟩ := bind_some hm
 refine a2r 4 (fun a w' => ∃ (Fx2 : Frz), Frz.le Fx1 Fx2 ∧ HS F w [] Fx2 [.box b3 37 [.int .i64 0, .slice none 0 0, .int .i64 0, .slice none 0 0], .box b2 35 [.int .i64 q1.Sign, .slice as2 ns2 cs2], .box b1 35 [.int .i64 p1.Sign, .slice as1 ns1 cs1]] w' ∧ Has 60 a [(2, .pointer (some ⟨b1, 0, none⟩)), (3, .pointer (some ⟨b2, 0, none⟩)), (4, .pointer (some ⟨b3, 0, none⟩)), (22, .bool v2)]) ?_ ?_
 ·rintro a wx5 ⟨Fx2, hF2, hx5, hax1⟩
  refine a1f hax1 ?_
  refine a0b rfl rfl rfl (a0c (a0d ?_))
  rcases a0g hm with ⟨hb2, hm⟩ | ⟨hb2, hm⟩
  ·refine a0t 14 rfl hb2 ?_
   refine a0y rfl (a0f (a0a ?_))
   refine a2b (v := .agg #[.int .i64 0, .slice none 0 0, .int .i64 0, .slice none 0 0]) rfl rfl rfl (fun _ => by kernel_rfl) ?_
   refine a0p sz37 rfl hx5 rfl rfl rfl rfl (i := 0) rfl rfl rfl rfl ?_
   intro wx6 hx6
   refine a0b rfl rfl rfl (a0c (a0d (a1d (a0x (a0k ?_)))))
   refine a1v (vl := [.agg #[.int .i64 0, .slice none 0 0, .int .i64 0, .slice none 0 0], .int .i64 1]) rfl ⟨a2p ag37 sz37 rfl hx6 rfl (i := 0) rfl, a1z rfl, trivial⟩ (by simp) ?_
   obtain rfl := Option.some.inj hm
   exact ⟨_, _, _, rfl, hx6.pick [] (by decide) rfl, none, 0, 0, none, 0, 0, rfl, rfl, SlR.nil _ _, SlR.nil _ _⟩
  ·refine a0t 14 rfl hb2 ?_
   refine a0s rfl (a0f (a0a ?_))
   refine a0h fa35_0 rfl rfl rfl ?_
   refine a0r ag3 rfl rfl hx5 rfl (i := 1) rfl rfl ?_
   refine a0u rfl rfl rfl rfl rfl ?_
   refine a0b rfl rfl rfl (a0c (a0d ?_))
   rcases a0g hm with ⟨hb3, hm⟩ | ⟨hb3, hm⟩
   ·refine a0t 24 rfl hb3 ?_
    refine a0y rfl (a0f (a0a ?_))
    refine a2b (v := .agg #[.int .i64 0, .slice none 0 0, .int .i64 0, .slice none 0 0]) rfl rfl rfl (fun _ => by kernel_rfl) ?_
    refine a0p sz37 rfl hx5 rfl rfl rfl rfl (i := 0) rfl rfl rfl rfl ?_
    intro wx7 hx7
    refine a0b rfl rfl rfl (a0c (a0d (a1d (a0x (a0k ?_)))))
    refine a1v (vl := [.agg #[.int .i64 0, .slice none 0 0, .int .i64 0, .slice none 0 0], .int .i64 14]) rfl ⟨a2p ag37 sz37 rfl hx7 rfl (i := 0) rfl, a1z rfl, trivial⟩ (by simp) ?_
    obtain rfl := Option.some.inj hm
    exact ⟨_, _, _, rfl, hx7.pick [] (by decide) rfl, none, 0, 0, none, 0, 0, rfl, rfl, SlR.nil _ _, SlR.nil _ _⟩
   ·refine a0t 24 rfl hb3 ?_
    refine a0s rfl (a0f (a0a ?_))
    refine a0h fa35_0 rfl rfl rfl ?_
    refine a0r ag3 rfl rfl hx5 rfl (i := 1) rfl rfl ?_
    refine a0u rfl rfl rfl rfl rfl ?_
    refine a0b rfl rfl rfl (a0c (a0d ?_))
    rcases a0g hm with ⟨hb4, hm⟩ | ⟨hb4, hm⟩
    ·refine a0t 29 rfl hb4 ?_
     refine a0y rfl ?_
     refine a1w (SH Fx2 [.box b3 37 [.int .i64 0, .slice none 0 0, .int .i64 0, .slice none 0 0]]) 6 rfl (by kernel_rfl) hx5 ?_
     intro wx8 hx8
     refine a9g 0 2 rfl rfl (by kernel_rfl) ?_ ?_
     ·refine a0l ag35 sz35 rfl rfl hx8 rfl (i := 2) rfl rfl ?_
      refine a0o (hx8.sh (Frz.refl _) [0] (by decide) rfl) ?_
      refine a9g 1 2 rfl rfl (by kernel_rfl) ?_ ?_
      ·obtain ⟨v3, hv2, hm⟩ := bind_some hm
       refine a0i ent52 rfl rfl rfl rfl hx8 (a6k _ _ _ hv2 hx8.sat ((hs1.mono hF1).mono hF2)) ?_
       rintro _ Fx3 _ wx9 hF3 hx9 ⟨as3, ns3, cs3, rfl, rfl, hs3⟩
       refine a0o (hx9.sh hF3 [0] (by decide) rfl) ?_
       refine a0v 2 rfl (by kernel_rfl) ?_
       refine a0l ag35 sz35 rfl rfl hx9 rfl (i := 1) rfl rfl ?_
       refine a0o (hx9.sh hF3 [0] (by decide) rfl) ?_
       refine a0v 3 rfl (by kernel_rfl) ?_
       obtain ⟨v4, hv3, hm⟩ := bind_some hm
       refine a0i ent52 rfl rfl rfl rfl hx9 (a6k _ _ _ hv3 hx9.sat (((hs2.mono hF1).mono hF2).mono hF3)) ?_
       rintro _ Fx4 _ wx10 hF4 hx10 ⟨as4, ns4, cs4, rfl, rfl, hs4⟩
       refine a0o (hx10.sh (hF3.trans hF4) [0] (by decide) rfl) ?_
       refine a0v 4 rfl (by kernel_rfl) ?_
       refine a0p sz35 rfl hx10 rfl rfl rfl rfl (i := 2) rfl rfl rfl rfl ?_
       intro wx11 hx11
       refine a0o (hx11.sh (hF3.trans hF4) [0] (by decide) rfl) ?_
       refine a0v 5 rfl (by kernel_rfl) ?_
       refine a0p sz35 rfl hx11 rfl rfl rfl rfl (i := 1) rfl rfl rfl rfl ?_
       intro wx12 hx12
       refine a0o (hx12.sh (hF3.trans hF4) [0] (by decide) rfl) ?_
       refine a2g (by kernel_rfl) ?_
       refine a1m (a0d (a0f (a0a ?_)))
       refine a0l ag35 sz35 rfl rfl hx12 rfl (i := 2) rfl rfl ?_
       refine a0l ag35 sz35 rfl rfl hx12 rfl (i := 1) rfl rfl ?_
       obtain ⟨v5, hv4, hm⟩ := bind_some hm
       refine a0i ent45 rfl rfl rfl rfl hx12 (b1k _ _ _ _ hv4 hx12.sat (hs3.mono hF4) hs4) ?_
       rintro _ Fx5 _ wx13 hF5 hx13 ⟨as5, ns5, cs5, rfl, rfl, hs5⟩
       refine a0e rfl rfl rfl (a0j rfl rfl rfl rfl (a0j rfl rfl rfl rfl ?_))
       refine a1b ze35 rfl rfl rfl hx13 ?_
       intro b4 wx14 hx14
       refine a0p sz35 rfl hx14 rfl rfl rfl rfl (i := 0) rfl rfl rfl rfl ?_
       intro wx15 hx15
       refine a0b rfl rfl rfl (a0c (a0d (a0f (a0a ?_))))
       refine a0l ag35 sz35 rfl rfl hx15 rfl (i := 3) rfl rfl ?_
       refine a0l ag35 sz35 rfl rfl hx15 rfl (i := 0) rfl rfl ?_
       obtain ⟨v6, hv5, hm⟩ := bind_some hm
       refine a0i ent93 rfl rfl rfl rfl hx15 (a8k _ _ _ _ hv5 hx15.sat ((hs3.mono hF4).mono hF5) hs5) ?_
       rintro _ Fx6 _ wx16 hF6 hx16 ⟨as6, ns6, cs6, as7, ns7, cs7, rfl, rfl, hs6, hs7⟩
       refine a0e rfl rfl rfl (a0j rfl rfl rfl rfl (a0j rfl rfl rfl rfl (a0j rfl rfl rfl rfl ?_)))
       refine a1b ze35 rfl rfl rfl hx16 ?_
       intro b5 wx17 hx17
       refine a1b ze35 rfl rfl rfl hx17 ?_
       intro b6 wx18 hx18
       refine a0p sz35 rfl hx18 rfl rfl rfl rfl (i := 1) rfl rfl rfl rfl ?_
       intro wx19 hx19
       refine a0p sz35 rfl hx19 rfl rfl rfl rfl (i := 0) rfl rfl rfl rfl ?_
       intro wx20 hx20
       refine a0b rfl rfl rfl (a0c (a0d (a0f (a0a ?_))))
       refine a0l ag35 sz35 rfl rfl hx20 rfl (i := 4) rfl rfl ?_
       refine a0l ag35 sz35 rfl rfl hx20 rfl (i := 2) rfl rfl ?_
       obtain ⟨v7, hv6, hm⟩ := bind_some hm
       refine a0i ent93 rfl rfl rfl rfl hx20 (a8k _ _ _ _ hv6 hx20.sat ((hs4.mono hF5).mono hF6) (hs5.mono hF6)) ?_
       rintro _ Fx7 _ wx21 hF7 hx21 ⟨as8, ns8, cs8, as9, ns9, cs9, rfl, rfl, hs8, hs9⟩
       refine a0e rfl rfl rfl (a0j rfl rfl rfl rfl (a0j rfl rfl rfl rfl (a0j rfl rfl rfl rfl ?_)))
       refine a1b ze35 rfl rfl rfl hx21 ?_
       intro b7 wx22 hx22
       refine a1b ze35 rfl rfl rfl hx22 ?_
       intro b8 wx23 hx23
       refine a0p sz35 rfl hx23 rfl rfl rfl rfl (i := 1) rfl rfl rfl rfl ?_
       intro wx24 hx24
       refine a0p sz35 rfl hx24 rfl rfl rfl rfl (i := 0) rfl rfl rfl rfl ?_
       intro wx25 hx25
       refine a0b rfl rfl rfl (a0c (a0d (a0f (a0a ?_))))
       refine a0l ag35 sz35 rfl rfl hx25 rfl (i := 3) rfl rfl ?_
       refine a0l ag35 sz35 rfl rfl hx25 rfl (i := 1) rfl rfl ?_
       refine a2b (v := .agg #[.int .i64 v6.1.Sign, .slice as6 ns6 cs6, .int .i64 v7.1.Sign, .slice as8 ns8 cs8]) rfl rfl rfl (fun _ => by kernel_rfl) ?_
       refine a0p sz37 rfl hx25 rfl rfl rfl rfl (i := 5) rfl rfl rfl rfl ?_
       intro wx26 hx26
       refine a0b rfl rfl rfl (a0c (a0d (a1d ?_)))
       refine a1v (vl := [.agg #[.int .i64 v6.1.Sign, .slice as6 ns6 cs6, .int .i64 v7.1.Sign, .slice as8 ns8 cs8], .int .i64 0]) rfl ⟨a2p ag37 sz37 rfl hx26 rfl (i := 5) rfl, a1z rfl, trivial⟩ (by simp) ?_
       obtain rfl := Option.some.inj hm
       exact ⟨_, _, _, rfl, hx26.pick [] (by decide) rfl, as6, ns6, cs6, as8, ns8, cs8, rfl, rfl, (hs6.mono hF7), hs8⟩
      ·refine a0l ag35 sz35 rfl rfl hx8 rfl (i := 1) rfl rfl ?_
       refine a0o (hx8.sh (Frz.refl _) [0] (by decide) rfl) ?_
       refine a0v 1 rfl (by kernel_rfl) ?_
       obtain ⟨v3, hv2, hm⟩ := bind_some hm
       refine a0i ent52 rfl rfl rfl rfl hx8 (a6k _ _ _ hv2 hx8.sat ((hs1.mono hF1).mono hF2)) ?_
       rintro _ Fx3 _ wx9 hF3 hx9 ⟨as3, ns3, cs3, rfl, rfl, hs3⟩
       refine a0o (hx9.sh hF3 [0] (by decide) rfl) ?_
       refine a0v 3 rfl (by kernel_rfl) ?_
       obtain ⟨v4, hv3, hm⟩ := bind_some hm
       refine a0i ent52 rfl rfl rfl rfl hx9 (a6k _ _ _ hv3 hx9.sat (((hs2.mono hF1).mono hF2).mono hF3)) ?_
       rintro _ Fx4 _ wx10 hF4 hx10 ⟨as4, ns4, cs4, rfl, rfl, hs4⟩
       refine a0o (hx10.sh (hF3.trans hF4) [0] (by decide) rfl) ?_
       refine a0v 4 rfl (by kernel_rfl) ?_
       refine a0p sz35 rfl hx10 rfl rfl rfl rfl (i := 2) rfl rfl rfl rfl ?_
       intro wx11 hx11
       refine a0o (hx11.sh (hF3.trans hF4) [0] (by decide) rfl) ?_
       refine a0v 5 rfl (by kernel_rfl) ?_
       refine a0p sz35 rfl hx11 rfl rfl rfl rfl (i := 1) rfl rfl rfl rfl ?_
       intro wx12 hx12
       refine a0o (hx12.sh (hF3.trans hF4) [0] (by decide) rfl) ?_
       refine a2g (by kernel_rfl) ?_
       refine a1m (a0d (a0f (a0a ?_)))
       refine a0l ag35 sz35 rfl rfl hx12 rfl (i := 2) rfl rfl ?_
       refine a0l ag35 sz35 rfl rfl hx12 rfl (i := 1) rfl rfl ?_
       obtain ⟨v5, hv4, hm⟩ := bind_some hm
       refine a0i ent45 rfl rfl rfl rfl hx12 (b1k _ _ _ _ hv4 hx12.sat (hs3.mono hF4) hs4) ?_
       rintro _ Fx5 _ wx13 hF5 hx13 ⟨as5, ns5, cs5, rfl, rfl, hs5⟩
       refine a0e rfl rfl rfl (a0j rfl rfl rfl rfl (a0j rfl rfl rfl rfl ?_))
       refine a1b ze35 rfl rfl rfl hx13 ?_
       intro b4 wx14 hx14
       refine a0p sz35 rfl hx14 rfl rfl rfl rfl (i := 0) rfl rfl rfl rfl ?_
       intro wx15 hx15
       refine a0b rfl rfl rfl (a0c (a0d (a0f (a0a ?_))))
       refine a0l ag35 sz35 rfl rfl hx15 rfl (i := 3) rfl rfl ?_
       refine a0l ag35 sz35 rfl rfl hx15 rfl (i := 0) rfl rfl ?_
       obtain ⟨v6, hv5, hm⟩ := bind_some hm
       refine a0i ent93 rfl rfl rfl rfl hx15 (a8k _ _ _ _ hv5 hx15.sat ((hs3.mono hF4).mono hF5) hs5) ?_
       rintro _ Fx6 _ wx16 hF6 hx16 ⟨as6, ns6, cs6, as7, ns7, cs7, rfl, rfl, hs6, hs7⟩
       refine a0e rfl rfl rfl (a0j rfl rfl rfl rfl (a0j rfl rfl rfl rfl (a0j rfl rfl rfl rfl ?_)))
       refine a1b ze35 rfl rfl rfl hx16 ?_
       intro b5 wx17 hx17
       refine a1b ze35 rfl rfl rfl hx17 ?_
       intro b6 wx18 hx18
       refine a0p sz35 rfl hx18 rfl rfl rfl rfl (i := 1) rfl rfl rfl rfl ?_
       intro wx19 hx19
       refine a0p sz35 rfl hx19 rfl rfl rfl rfl (i := 0) rfl rfl rfl rfl ?_
       intro wx20 hx20
       refine a0b rfl rfl rfl (a0c (a0d (a0f (a0a ?_))))
       refine a0l ag35 sz35 rfl rfl hx20 rfl (i := 4) rfl rfl ?_
       refine a0l ag35 sz35 rfl rfl hx20 rfl (i := 2) rfl rfl ?_
       obtain ⟨v7, hv6, hm⟩ := bind_some hm
       refine a0i ent93 rfl rfl rfl rfl hx20 (a8k _ _ _ _ hv6 hx20.sat ((hs4.mono hF5).mono hF6) (hs5.mono hF6)) ?_
       rintro _ Fx7 _ wx21 hF7 hx21 ⟨as8, ns8, cs8, as9, ns9, cs9, rfl, rfl, hs8, hs9⟩
       refine a0e rfl rfl rfl (a0j rfl rfl rfl rfl (a0j rfl rfl rfl rfl (a0j rfl rfl rfl rfl ?_)))
       refine a1b ze35 rfl rfl rfl hx21 ?_
       intro b7 wx22 hx22
       refine a1b ze35 rfl rfl rfl hx22 ?_
       intro b8 wx23 hx23
       refine a0p sz35 rfl hx23 rfl rfl rfl rfl (i := 1) rfl rfl rfl rfl ?_
       intro wx24 hx24
       refine a0p sz35 rfl hx24 rfl rfl rfl rfl (i := 0) rfl rfl rfl rfl ?_
       intro wx25 hx25
       refine a0b rfl rfl rfl (a0c (a0d (a0f (a0a ?_))))
       refine a0l ag35 sz35 rfl rfl hx25 rfl (i := 3) rfl rfl ?_
       refine a0l ag35 sz35 rfl rfl hx25 rfl (i := 1) rfl rfl ?_
       refine a2b (v := .agg #[.int .i64 v6.1.Sign, .slice as6 ns6 cs6, .int .i64 v7.1.Sign, .slice as8 ns8 cs8]) rfl rfl rfl (fun _ => by kernel_rfl) ?_
       refine a0p sz37 rfl hx25 rfl rfl rfl rfl (i := 5) rfl rfl rfl rfl ?_
       intro wx26 hx26
       refine a0b rfl rfl rfl (a0c (a0d (a1d ?_)))
       refine a1v (vl := [.agg #[.int .i64 v6.1.Sign, .slice as6 ns6 cs6, .int .i64 v7.1.Sign, .slice as8 ns8 cs8], .int .i64 0]) rfl ⟨a2p ag37 sz37 rfl hx26 rfl (i := 5) rfl, a1z rfl, trivial⟩ (by simp) ?_
       obtain rfl := Option.some.inj hm
       exact ⟨_, _, _, rfl, hx26.pick [] (by decide) rfl, as6, ns6, cs6, as8, ns8, cs8, rfl, rfl, (hs6.mono hF7), hs8⟩
     ·refine a0l ag35 sz35 rfl rfl hx8 rfl (i := 1) rfl rfl ?_
      refine a0o (hx8.sh (Frz.refl _) [0] (by decide) rfl) ?_
      refine a0v 0 rfl (by kernel_rfl) ?_
      refine a0l ag35 sz35 rfl rfl hx8 rfl (i := 2) rfl rfl ?_
      refine a0o (hx8.sh (Frz.refl _) [0] (by decide) rfl) ?_
      refine a0v 1 rfl (by kernel_rfl) ?_
      obtain ⟨v3, hv2, hm⟩ := bind_some hm
      refine a0i ent52 rfl rfl rfl rfl hx8 (a6k _ _ _ hv2 hx8.sat ((hs1.mono hF1).mono hF2)) ?_
      rintro _ Fx3 _ wx9 hF3 hx9 ⟨as3, ns3, cs3, rfl, rfl, hs3⟩
      refine a0o (hx9.sh hF3 [0] (by decide) rfl) ?_
      refine a0v 3 rfl (by kernel_rfl) ?_
      obtain ⟨v4, hv3, hm⟩ := bind_some hm
      refine a0i ent52 rfl rfl rfl rfl hx9 (a6k _ _ _ hv3 hx9.sat (((hs2.mono hF1).mono hF2).mono hF3)) ?_
      rintro _ Fx4 _ wx10 hF4 hx10 ⟨as4, ns4, cs4, rfl, rfl, hs4⟩
      refine a0o (hx10.sh (hF3.trans hF4) [0] (by decide) rfl) ?_
      refine a0v 4 rfl (by kernel_rfl) ?_
      refine a0p sz35 rfl hx10 rfl rfl rfl rfl (i := 2) rfl rfl rfl rfl ?_
      intro wx11 hx11
      refine a0o (hx11.sh (hF3.trans hF4) [0] (by decide) rfl) ?_
      refine a0v 5 rfl (by kernel_rfl) ?_
      refine a0p sz35 rfl hx11 rfl rfl rfl rfl (i := 1) rfl rfl rfl rfl ?_
      intro wx12 hx12
      refine a0o (hx12.sh (hF3.trans hF4) [0] (by decide) rfl) ?_
      refine a2g (by kernel_rfl) ?_
      refine a1m (a0d (a0f (a0a ?_)))
      refine a0l ag35 sz35 rfl rfl hx12 rfl (i := 2) rfl rfl ?_
      refine a0l ag35 sz35 rfl rfl hx12 rfl (i := 1) rfl rfl ?_
      obtain ⟨v5, hv4, hm⟩ := bind_some hm
      refine a0i ent45 rfl rfl rfl rfl hx12 (b1k _ _ _ _ hv4 hx12.sat (hs3.mono hF4) hs4) ?_
      rintro _ Fx5 _ wx13 hF5 hx13 ⟨as5, ns5, cs5, rfl, rfl, hs5⟩
      refine a0e rfl rfl rfl (a0j rfl rfl rfl rfl (a0j rfl rfl rfl rfl ?_))
      refine a1b ze35 rfl rfl rfl hx13 ?_
      intro b4 wx14 hx14
      refine a0p sz35 rfl hx14 rfl rfl rfl rfl (i := 0) rfl rfl rfl rfl ?_
      intro wx15 hx15
      refine a0b rfl rfl rfl (a0c (a0d (a0f (a0a ?_))))
      refine a0l ag35 sz35 rfl rfl hx15 rfl (i := 3) rfl rfl ?_
      refine a0l ag35 sz35 rfl rfl hx15 rfl (i := 0) rfl rfl ?_
      obtain ⟨v6, hv5, hm⟩ := bind_some hm
      refine a0i ent93 rfl rfl rfl rfl hx15 (a8k _ _ _ _ hv5 hx15.sat ((hs3.mono hF4).mono hF5) hs5) ?_
      rintro _ Fx6 _ wx16 hF6 hx16 ⟨as6, ns6, cs6, as7, ns7, cs7, rfl, rfl, hs6, hs7⟩
      refine a0e rfl rfl rfl (a0j rfl rfl rfl rfl (a0j rfl rfl rfl rfl (a0j rfl rfl rfl rfl ?_)))
      refine a1b ze35 rfl rfl rfl hx16 ?_
      intro b5 wx17 hx17
      refine a1b ze35 rfl rfl rfl hx17 ?_
      intro b6 wx18 hx18
      refine a0p sz35 rfl hx18 rfl rfl rfl rfl (i := 1) rfl rfl rfl rfl ?_
      intro wx19 hx19
      refine a0p sz35 rfl hx19 rfl rfl rfl rfl (i := 0) rfl rfl rfl rfl ?_
      intro wx20 hx20
      refine a0b rfl rfl rfl (a0c (a0d (a0f (a0a ?_))))
      refine a0l ag35 sz35 rfl rfl hx20 rfl (i := 4) rfl rfl ?_
      refine a0l ag35 sz35 rfl rfl hx20 rfl (i := 2) rfl rfl ?_
      obtain ⟨v7, hv6, hm⟩ := bind_some hm
      refine a0i ent93 rfl rfl rfl rfl hx20 (a8k _ _ _ _ hv6 hx20.sat ((hs4.mono hF5).mono hF6) (hs5.mono hF6)) ?_
      rintro _ Fx7 _ wx21 hF7 hx21 ⟨as8, ns8, cs8, as9, ns9, cs9, rfl, rfl, hs8, hs9⟩
      refine a0e rfl rfl rfl (a0j rfl rfl rfl rfl (a0j rfl rfl rfl rfl (a0j rfl rfl rfl rfl ?_)))
      refine a1b ze35 rfl rfl rfl hx21 ?_
      intro b7 wx22 hx22
      refine a1b ze35 rfl rfl rfl hx22 ?_
      intro b8 wx23 hx23
      refine a0p sz35 rfl hx23 rfl rfl rfl rfl (i := 1) rfl rfl rfl rfl ?_
      intro wx24 hx24
      refine a0p sz35 rfl hx24 rfl rfl rfl rfl (i := 0) rfl rfl rfl rfl ?_
      intro wx25 hx25
      refine a0b rfl rfl rfl (a0c (a0d (a0f (a0a ?_))))
      refine a0l ag35 sz35 rfl rfl hx25 rfl (i := 3) rfl rfl ?_
      refine a0l ag35 sz35 rfl rfl hx25 rfl (i := 1) rfl rfl ?_
      refine a2b (v := .agg #[.int .i64 v6.1.Sign, .slice as6 ns6 cs6, .int .i64 v7.1.Sign, .slice as8 ns8 cs8]) rfl rfl rfl (fun _ => by kernel_rfl) ?_
      refine a0p sz37 rfl hx25 rfl rfl rfl rfl (i := 5) rfl rfl rfl rfl ?_
      intro wx26 hx26
      refine a0b rfl rfl rfl (a0c (a0d (a1d ?_)))
      refine a1v (vl := [.agg #[.int .i64 v6.1.Sign, .slice as6 ns6 cs6, .int .i64 v7.1.Sign, .slice as8 ns8 cs8], .int .i64 0]) rfl ⟨a2p ag37 sz37 rfl hx26 rfl (i := 5) rfl, a1z rfl, trivial⟩ (by simp) ?_
      obtain rfl := Option.some.inj hm
      exact ⟨_, _, _, rfl, hx26.pick [] (by decide) rfl, as6, ns6, cs6, as8, ns8, cs8, rfl, rfl, (hs6.mono hF7), hs8⟩
    ·refine a0t 29 rfl hb4 ?_
     refine a0s rfl (a1e (a1m (a0d (a0f (a0a ?_)))))
     refine a0l ag35 sz35 rfl rfl hx5 rfl (i := 2) rfl rfl ?_
     refine a0l ag35 sz35 rfl rfl hx5 rfl (i := 1) rfl rfl ?_
     obtain ⟨v8, hv7, hm⟩ := bind_some hm
     refine a0i ent45 rfl rfl rfl rfl hx5 (b1k _ _ _ _ hv7 hx5.sat ((hs1.mono hF1).mono hF2) ((hs2.mono hF1).mono hF2)) ?_
     rintro _ Fx8 _ wx27 hF8 hx27 ⟨as10, ns10, cs10, rfl, rfl, hs10⟩
     refine a0e rfl rfl rfl (a0j rfl rfl rfl rfl (a0j rfl rfl rfl rfl ?_))
     refine a1b ze35 rfl rfl rfl hx27 ?_
     intro b9 wx28 hx28
     refine a0p sz35 rfl hx28 rfl rfl rfl rfl (i := 0) rfl rfl rfl rfl ?_
     intro wx29 hx29
     refine a0b rfl rfl rfl (a0c (a0d (a0f (a0a ?_))))
     refine a0l ag35 sz35 rfl rfl hx29 rfl (i := 3) rfl rfl ?_
     refine a0l ag35 sz35 rfl rfl hx29 rfl (i := 0) rfl rfl ?_
     obtain ⟨v9, hv8, hm⟩ := bind_some hm
     refine a0i ent93 rfl rfl rfl rfl hx29 (a8k _ _ _ _ hv8 hx29.sat (((hs1.mono hF1).mono hF2).mono hF8) hs10) ?_
     rintro _ Fx9 _ wx30 hF9 hx30 ⟨as11, ns11, cs11, as12, ns12, cs12, rfl, rfl, hs11, hs12⟩
     refine a0e rfl rfl rfl (a0j rfl rfl rfl rfl (a0j rfl rfl rfl rfl (a0j rfl rfl rfl rfl ?_)))
     refine a1b ze35 rfl rfl rfl hx30 ?_
     intro b10 wx31 hx31
     refine a1b ze35 rfl rfl rfl hx31 ?_
     intro b11 wx32 hx32
     refine a0p sz35 rfl hx32 rfl rfl rfl rfl (i := 1) rfl rfl rfl rfl ?_
     intro wx33 hx33
     refine a0p sz35 rfl hx33 rfl rfl rfl rfl (i := 0) rfl rfl rfl rfl ?_
     intro wx34 hx34
     refine a0b rfl rfl rfl (a0c (a0d (a0f (a0a ?_))))
     refine a0l ag35 sz35 rfl rfl hx34 rfl (i := 4) rfl rfl ?_
     refine a0l ag35 sz35 rfl rfl hx34 rfl (i := 2) rfl rfl ?_
     have hG1 := ((hF1.trans hF2).trans hF8).trans hF9
     obtain ⟨v10, hv9, hm⟩ := bind_some hm
     refine a0i ent93 rfl rfl rfl rfl hx34 (a8k _ _ _ _ hv9 hx34.sat (hs2.mono hG1) (hs10.mono hF9)) ?_
     rintro _ Fx10 _ wx35 hF10 hx35 ⟨as13, ns13, cs13, as14, ns14, cs14, rfl, rfl, hs13, hs14⟩
     refine a0e rfl rfl rfl (a0j rfl rfl rfl rfl (a0j rfl rfl rfl rfl (a0j rfl rfl rfl rfl ?_)))
     refine a1b ze35 rfl rfl rfl hx35 ?_
     intro b12 wx36 hx36
     refine a1b ze35 rfl rfl rfl hx36 ?_
     intro b13 wx37 hx37
     refine a0p sz35 rfl hx37 rfl rfl rfl rfl (i := 1) rfl rfl rfl rfl ?_
     intro wx38 hx38
     refine a0p sz35 rfl hx38 rfl rfl rfl rfl (i := 0) rfl rfl rfl rfl ?_
     intro wx39 hx39
     refine a0b rfl rfl rfl (a0c (a0d (a0f (a0a ?_))))
     refine a0l ag35 sz35 rfl rfl hx39 rfl (i := 3) rfl rfl ?_
     refine a0l ag35 sz35 rfl rfl hx39 rfl (i := 1) rfl rfl ?_
     refine a2b (v := .agg #[.int .i64 v9.1.Sign, .slice as11 ns11 cs11, .int .i64 v10.1.Sign, .slice as13 ns13 cs13]) rfl rfl rfl (fun _ => by kernel_rfl) ?_
     refine a0p sz37 rfl hx39 rfl rfl rfl rfl (i := 5) rfl rfl rfl rfl ?_
     intro wx40 hx40
     refine a0b rfl rfl rfl (a0c (a0d (a1d ?_)))
     refine a1v (vl := [.agg #[.int .i64 v9.1.Sign, .slice as11 ns11 cs11, .int .i64 v10.1.Sign, .slice as13 ns13 cs13], .int .i64 0]) rfl ⟨a2p ag37 sz37 rfl hx40 rfl (i := 5) rfl, a1z rfl, trivial⟩ (by simp) ?_
     obtain rfl := Option.some.inj hm
     exact ⟨_, _, _, rfl, hx40.pick [] (by decide) rfl, as11, ns11, cs11, as13, ns13, cs13, rfl, rfl, (hs11.mono hF10), hs13⟩
 ·clear hm
  rcases a0g hb1 with ⟨hb5, hb1⟩ | ⟨hb5, hb1⟩
  ·refine a1j 18 rfl hb5 ?_
   refine a0z rfl (by decide) rfl (a0z rfl (by decide) rfl (a0z rfl (by decide) rfl (a0q rfl rfl rfl rfl (a0c ?_))))
   refine a0n (fun a ha => ?_)
   cases hb1
   exact ⟨_, Frz.refl _, hx4.pick [0, 1, 2] (by decide) rfl, ha.cut (l := [2, 3, 4, 22]) rfl⟩
  ·refine a1j 18 rfl hb5 ?_
   refine a0l ag35 sz35 rfl rfl hx4 rfl (i := 1) rfl rfl ?_
   obtain ⟨v11, hv10, hb1⟩ := bind_some hb1
   refine a0i ent44 rfl rfl rfl rfl hx4 (a3f _ _ _ hv10 hx4.sat (hs2.mono hF1)) ?_
   rintro _ Fx11 _ wx41 hF11 hx41 ⟨rfl, rfl⟩
   refine a4g rfl rfl rfl (a0m rfl rfl rfl rfl (a0c ?_))
   refine a0n (fun a ha => ?_)
   cases hb1
   exact ⟨_, hF11, hx41.pick [0, 1, 2] (by decide) rfl, ha.cut (l := [2, 3, 4, 22]) rfl⟩
theorem ent77 : Ent Tryz.prog 77 := fun _ _ => by kernel_rfl
def a6h (n : Nat) (nx1 : Int) : Option Frac :=
 (b4t n nx1).bind fun v1 =>
 (b4t n 1).bind fun v2 =>
 some (⟨v1, v2⟩ : Frac)
set_option maxHeartbeats 1000000 in
set_option maxRecDepth 1000000 in
theorem a7z (n : Nat) (nx1 : Int) (r : Frac) (hm : a6h n nx1 = some r) {w : World} {F : Frz} (hs : Sat F w)  :
  Calls Tryz.prog 40 #[.int .i64 nx1] w fun e w' => ∃ v F' O', e = .returned v ∧ HS F w [] F' O' w' ∧ (∃ (a0_1 : Option Addr) (n0_1 : Nat) (c0_1 : Nat) (a0_3 : Option Addr) (n0_3 : Nat) (c0_3 : Nat), v = .agg #[.int .i64 r.P.Sign, .slice a0_1 n0_1 c0_1, .int .i64 r.Q.Sign, .slice a0_3 n0_3 c0_3] ∧ O' = [] ∧ SlR (Rp.int .i64) F' a0_1 n0_1 c0_1 r.P.Digits ∧ SlR (Rp.int .i64) F' a0_3 n0_3 c0_3 r.Q.Digits) := by
 unfold a6h at hm
 have h := HS.init hs
 refine a1a 7 Tryz.func40 rfl rfl rfl ?_
 refine a0f (a0a ?_)
 refine a1b ze37 rfl rfl rfl h ?_
 intro b1 wx1 hx1
 refine a0c (a0d (a0f (a0a (a0e rfl rfl rfl ?_))))
 obtain ⟨v1, hv1, hm⟩ := bind_some hm
 refine a0i ent77 rfl rfl rfl rfl hx1 (c1j _ _ _ hv1 hx1.sat) ?_
 rintro _ Fx1 _ wx2 hF1 hx2 ⟨as1, ns1, cs1, rfl, rfl, hs1⟩
 obtain ⟨v2, hv2, hm⟩ := bind_some hm
 refine a0i ent77 rfl rfl rfl rfl hx2 (c1j _ _ _ hv2 hx2.sat) ?_
 rintro _ Fx2 _ wx3 hF2 hx3 ⟨as2, ns2, cs2, rfl, rfl, hs2⟩
 refine a2b (v := .agg #[.int .i64 v1.Sign, .slice as1 ns1 cs1, .int .i64 v2.Sign, .slice as2 ns2 cs2]) rfl rfl rfl (fun _ => by kernel_rfl) ?_
 refine a0p sz37 rfl hx3 rfl rfl rfl rfl (i := 0) rfl rfl rfl rfl ?_
 intro wx4 hx4
 refine a0c (a0d (a1d ?_))
 refine a3r rfl ag37 sz37 rfl hx4 rfl (i := 0) rfl ?_
 obtain rfl := Option.some.inj hm
 exact ⟨_, _, _, rfl, hx4.pick [] (by decide) rfl, as1, ns1, cs1, as2, ns2, cs2, rfl, rfl, (hs1.mono hF2), hs2⟩
theorem ent86 : Ent Tryz.prog 86 := fun _ _ => by kernel_rfl
def a3w (n : Nat) (ax1 : Big) (b1 : Big) : Option Big :=
 (b7n n ax1 b1).bind fun v1 =>
 some v1.1
set_option maxHeartbeats 1000000 in
set_option maxRecDepth 1000000 in
theorem a3t (n : Nat) (ax1 : Big) (b1 : Big) (r : Big) (hm : a3w n ax1 b1 = some r) {w : World} {F : Frz} (hs : Sat F w) {as1 : Option Addr} {ns1 : Nat} {cs1 : Nat} {as2 : Option Addr} {ns2 : Nat} {cs2 : Nat} (hs1 : SlR (Rp.int .i64) F as1 ns1 cs1 ax1.Digits) (hs2 : SlR (Rp.int .i64) F as2 ns2 cs2 b1.Digits) :
  Calls Tryz.prog 48 #[.agg #[.int .i64 ax1.Sign, .slice as1 ns1 cs1], .agg #[.int .i64 b1.Sign, .slice as2 ns2 cs2]] w fun e w' => ∃ v F' O', e = .returned v ∧ HS F w [] F' O' w' ∧ (∃ (a0_1 : Option Addr) (n0_1 : Nat) (c0_1 : Nat), v = .agg #[.int .i64 r.Sign, .slice a0_1 n0_1 c0_1] ∧ O' = [] ∧ SlR (Rp.int .i64) F' a0_1 n0_1 c0_1 r.Digits) := by
 unfold a3w at hm
 have h := HS.init hs
 refine a1a 14 Tryz.func48 rfl rfl rfl ?_
 refine a0f (a0a ?_)
 refine a2t rfl rfl rfl rfl h ?_
 intro b2 wx1 hx1
 refine a2t rfl rfl rfl rfl hx1 ?_
 intro b3 wx2 hx2
 refine a1b ze35 rfl rfl rfl hx2 ?_
 intro b4 wx3 hx3
 refine a0c (a0d (a0f (a0a ?_)))
 refine a0l ag35 sz35 rfl rfl hx3 rfl (i := 2) rfl rfl ?_
 refine a0l ag35 sz35 rfl rfl hx3 rfl (i := 1) rfl rfl ?_
 obtain ⟨v1, hv1, hm⟩ := bind_some hm
 refine a0i ent86 rfl rfl rfl rfl hx3 (c4b _ _ _ _ hv1 hx3.sat hs1 hs2) ?_
 rintro _ Fx1 _ wx4 hF1 hx4 ⟨as3, ns3, cs3, rfl, rfl, hs3⟩
 refine a0e rfl rfl rfl (a0j rfl rfl rfl rfl (a0j rfl rfl rfl rfl ?_))
 refine a1b ze35 rfl rfl rfl hx4 ?_
 intro b5 wx5 hx5
 refine a0p sz35 rfl hx5 rfl rfl rfl rfl (i := 0) rfl rfl rfl rfl ?_
 intro wx6 hx6
 refine a0b rfl rfl rfl (a0c (a0d (a0f (a0a ?_))))
 refine a0l ag35 sz35 rfl rfl hx6 rfl (i := 0) rfl rfl ?_
 refine a0p sz35 rfl hx6 rfl rfl rfl rfl (i := 1) rfl rfl rfl rfl ?_
 intro wx7 hx7
 refine a0c (a0d (a1d ?_))
 refine a3r rfl ag35 sz35 rfl hx7 rfl (i := 1) rfl ?_
 obtain rfl := Option.some.inj hm
 exact ⟨_, _, _, rfl, hx7.pick [] (by decide) rfl, as3, ns3, cs3, rfl, rfl, hs3⟩
theorem ent14 : Ent Tryz.prog 14 := fun _ _ => by kernel_rfl
theorem ent48 : Ent Tryz.prog 48 := fun _ _ => by kernel_rfl
theorem ent53 : Ent Tryz.prog 53 := fun _ _ => by kernel_rfl
theorem ent54 : Ent Tryz.prog 54 := fun _ _ => by kernel_rfl
def b0c (n : Nat) (ax1 : Frac) (b1 : Frac) : Option (Frac × Int) :=
 (a2z n ax1).bind fun v1 =>
 (bif !v1 then
  some true
 else
  (a2z n b1).bind fun v8 =>
  some (!v8)).bind fun v2 =>
 bif v2 then
  some ((⟨(⟨0, []⟩ : Big), (⟨0, []⟩ : Big)⟩ : Frac), 1)
 else
  ((a3w n ax1.P b1.Q).bind fun v5 =>
  (a3w n b1.P ax1.Q).bind fun v6 =>
  (b7r n v5 v6).bind fun v7 =>
  some (v7.1.Sign, v7.1.Digits)).bind fun (f1, f2) =>
  (a3w n ax1.Q b1.Q).bind fun v3 =>
  (b1x n (⟨f1, f2⟩ : Big) v3).bind fun v4 =>
  some (v4.1, v4.2)
set_option maxHeartbeats 1000000 in
set_option maxRecDepth 1000000 in
theorem b4d (n : Nat) (ax1 : Frac) (b1 : Frac) (r : (Frac × Int)) (hm : b0c n ax1 b1 = some r) {w : World} {F : Frz} (hs : Sat F w) {as1 : Option Addr} {ns1 : Nat} {cs1 : Nat} {as2 : Option Addr} {ns2 : Nat} {cs2 : Nat} {as3 : Option Addr} {ns3 : Nat} {cs3 : Nat} {as4 : Option Addr} {ns4 : Nat} {cs4 : Nat} (hs1 : SlR (Rp.int .i64) F as1 ns1 cs1 ax1.P.Digits) (hs2 : SlR (Rp.int .i64) F as2 ns2 cs2 ax1.Q.Digits) (hs3 : SlR (Rp.int .i64) F as3 ns3 cs3 b1.P.Digits) (hs4 : SlR (Rp.int .i64) F as4 ns4 cs4 b1.Q.Digits) :
  Calls Tryz.prog 21 #[.agg #[.int .i64 ax1.P.Sign, .slice as1 ns1 cs1, .int .i64 ax1.Q.Sign, .slice as2 ns2 cs2], .agg #[.int .i64 b1.P.Sign, .slice as3 ns3 cs3, .int .i64 b1.Q.Sign, .slice as4 ns4 cs4]] w fun e w' => ∃ v F' O', e = .returned v ∧ HS F w [] F' O' w' ∧ (∃ (a0_1 : Option Addr) (n0_1 : Nat) (c0_1 : Nat) (a0_3 : Option Addr) (n0_3 : Nat) (c0_3 : Nat), v = .tuple #[.agg #[.int .i64 r.1.P.Sign, .slice a0_1 n0_1 c0_1, .int .i64 r.1.Q.Sign, .slice a0_3 n0_3 c0_3], .int .i64 r.2] ∧ O' = [] ∧ SlR (Rp.int .i64) F' a0_1 n0_1 c0_1 r.1.P.Digits ∧ SlR (Rp.int .i64) F' a0_3 n0_3 c0_3 r.1.Q.Digits) := by
 unfold b0c at hm
 have h := HS.init hs
 refine a1a 40 Tryz.func21 rfl rfl rfl ?_
 refine a0f (a0a ?_)
 refine a2t rfl rfl rfl rfl h ?_
 intro b2 wx1 hx1
 refine a2t rfl rfl rfl rfl hx1 ?_
 intro b3 wx2 hx2
 refine a1b ze37 rfl rfl rfl hx2 ?_
 intro b4 wx3 hx3
 refine a0b rfl rfl rfl (a0c (a0d (a0f (a0f (a0a ?_)))))
 refine a0l ag37 sz37 rfl rfl hx3 rfl (i := 2) rfl rfl ?_
 obtain ⟨v1, hv1, hm⟩ := bind_some hm
 refine a0i ent14 rfl rfl rfl rfl hx3 (a2u _ _ _ hv1 hx3.sat hs1 hs2) ?_
 rintro _ Fx1 _ wx4 hF1 hx4 ⟨rfl, rfl⟩
 refine a4g rfl rfl rfl (a0e rfl rfl rfl ?_)
 obtain ⟨v2, hb1, hm⟩ := bind_some hm
 refine a2r 4 (fun a w' => ∃ (Fx2 : Frz), Frz.le Fx1 Fx2 ∧ HS F w [] Fx2 [.box b4 37 [.int .i64 0, .slice none 0 0, .int .i64 0, .slice none 0 0], .box b3 37 [.int .i64 b1.P.Sign, .slice as3 ns3 cs3, .int .i64 b1.Q.Sign, .slice as4 ns4 cs4], .box b2 37 [.int .i64 ax1.P.Sign, .slice as1 ns1 cs1, .int .i64 ax1.Q.Sign, .slice as2 ns2 cs2]] w' ∧ Has 40 a [(2, .pointer (some ⟨b2, 0, none⟩)), (3, .pointer (some ⟨b3, 0, none⟩)), (4, .pointer (some ⟨b4, 0, none⟩)), (15, .bool v2)]) ?_ ?_
 ·rintro a wx5 ⟨Fx2, hF2, hx5, hax1⟩
  refine a1f hax1 ?_
  refine a0c (a0d ?_)
  rcases a0g hm with ⟨hb2, hm⟩ | ⟨hb2, hm⟩
  ·refine a0t 15 rfl hb2 ?_
   refine a0y rfl (a0f (a0a ?_))
   refine a2b (v := .agg #[.int .i64 0, .slice none 0 0, .int .i64 0, .slice none 0 0]) rfl rfl rfl (fun _ => by kernel_rfl) ?_
   refine a0p sz37 rfl hx5 rfl rfl rfl rfl (i := 0) rfl rfl rfl rfl ?_
   intro wx6 hx6
   refine a0b rfl rfl rfl (a0c (a0d (a1d (a0k ?_))))
   refine a1v (vl := [.agg #[.int .i64 0, .slice none 0 0, .int .i64 0, .slice none 0 0], .int .i64 1]) rfl ⟨a2p ag37 sz37 rfl hx6 rfl (i := 0) rfl, a1z rfl, trivial⟩ (by simp) ?_
   obtain rfl := Option.some.inj hm
   exact ⟨_, _, _, rfl, hx6.pick [] (by decide) rfl, none, 0, 0, none, 0, 0, rfl, rfl, SlR.nil _ _, SlR.nil _ _⟩
  ·refine a0t 15 rfl hb2 ?_
   refine a0s rfl (a1e (a0d ?_))
   obtain ⟨⟨f1, f2⟩, hb3, hm⟩ := bind_some hm
   refine c1n (fun a w' => ∃ (Fx3 : Frz) (b5 : Nat) (as5 : Option Addr) (ns5 : Nat) (cs5 : Nat), Frz.le Fx2 Fx3 ∧ HS F w [] Fx3 [.box b5 35 [.int .i64 f1, .slice as5 ns5 cs5], .box b4 37 [.int .i64 0, .slice none 0 0, .int .i64 0, .slice none 0 0], .box b3 37 [.int .i64 b1.P.Sign, .slice as3 ns3 cs3, .int .i64 b1.Q.Sign, .slice as4 ns4 cs4], .box b2 37 [.int .i64 ax1.P.Sign, .slice as1 ns1 cs1, .int .i64 ax1.Q.Sign, .slice as2 ns2 cs2]] w' ∧ (SlR (Rp.int .i64) Fx3 as5 ns5 cs5 f2) ∧ Has 40 a [(2, .pointer (some ⟨b2, 0, none⟩)), (3, .pointer (some ⟨b3, 0, none⟩)), (4, .pointer (some ⟨b4, 0, none⟩)), (6, .pointer (some ⟨b5, 0, none⟩))]) ?_ ?_
   ·rintro a wx7 ⟨Fx3, b5, as5, ns5, cs5, hF3, hx7, hs5, hax2⟩
    refine a1i hax2 ?_
    refine a0f ?_
    refine a1w (SH Fx3 [.box b5 35 [.int .i64 f1, .slice as5 ns5 cs5], .box b3 37 [.int .i64 b1.P.Sign, .slice as3 ns3 cs3, .int .i64 b1.Q.Sign, .slice as4 ns4 cs4], .box b2 37 [.int .i64 ax1.P.Sign, .slice as1 ns1 cs1, .int .i64 ax1.Q.Sign, .slice as2 ns2 cs2]]) 11 rfl (by kernel_rfl) hx7 ?_
    intro wx8 hx8
    refine d_tk 0 rfl (by kernel_rfl) rfl rfl rfl rfl (hx8.sh (Frz.refl _) [0, 2, 3] (by decide) rfl) (fun _ _ _ _ hq => a0l ag35 sz35 rfl rfl hq rfl (i := 0) rfl rfl (a0c (qq rfl))) ?_
    refine d_tk 1 rfl (by kernel_rfl) rfl rfl rfl rfl (hx8.sh (Frz.refl _) [0, 2, 3] (by decide) rfl) (fun _ _ _ _ _ => a0h fa37_1 rfl rfl rfl (a0c (qq rfl))) ?_
    refine d_tk 2 rfl (by kernel_rfl) rfl rfl rfl rfl (hx8.sh (Frz.refl _) [0, 2, 3] (by decide) rfl) (fun _ _ _ _ hq => a2m (cs' := [.int .i64 ax1.Q.Sign, .slice as2 ns2 cs2]) ag35 sz35 rfl rfl hq rfl (i := 2) rfl rfl rfl (a0c (qq rfl))) ?_
    refine d_tk 3 rfl (by kernel_rfl) rfl rfl rfl rfl (hx8.sh (Frz.refl _) [0, 2, 3] (by decide) rfl) (fun _ _ _ _ _ => a0h fa37_1 rfl rfl rfl (a0c (qq rfl))) ?_
    refine d_tk 4 rfl (by kernel_rfl) rfl rfl rfl rfl (hx8.sh (Frz.refl _) [0, 2, 3] (by decide) rfl) (fun _ _ _ _ hq => a2m (cs' := [.int .i64 b1.Q.Sign, .slice as4 ns4 cs4]) ag35 sz35 rfl rfl hq rfl (i := 1) rfl rfl rfl (a0c (qq rfl))) ?_
    refine a0v 5 rfl (by kernel_rfl) ?_
    obtain ⟨v3, hv2, hm⟩ := bind_some hm
    refine a0i ent48 rfl rfl rfl rfl hx8 (a3t _ _ _ _ hv2 hx8.sat (((hs2.mono hF1).mono hF2).mono hF3) (((hs4.mono hF1).mono hF2).mono hF3)) ?_
    rintro _ Fx4 _ wx9 hF4 hx9 ⟨as6, ns6, cs6, rfl, rfl, hs6⟩
    refine a0o (hx9.sh hF4 [0, 2, 3] (by decide) rfl) ?_
    refine a0v 6 rfl (by kernel_rfl) ?_
    obtain ⟨v4, hv3, hm⟩ := bind_some hm
    refine a0i ent53 rfl rfl rfl rfl hx9 (b4h _ _ _ _ hv3 hx9.sat (hs5.mono hF4) hs6) ?_
    rintro _ Fx5 _ wx10 hF5 hx10 ⟨as7, ns7, cs7, as8, ns8, cs8, rfl, rfl, hs7, hs8⟩
    refine a0o (hx10.sh (hF4.trans hF5) [0, 2, 3] (by decide) rfl) ?_
    refine d_tk 7 rfl (by kernel_rfl) rfl rfl rfl rfl (hx10.sh (hF4.trans hF5) [0, 2, 3] (by decide) rfl) (fun _ _ _ _ _ => a0j rfl rfl rfl rfl (a0c (qq rfl))) ?_
    refine d_tk 8 rfl (by kernel_rfl) rfl rfl rfl rfl (hx10.sh (hF4.trans hF5) [0, 2, 3] (by decide) rfl) (fun _ _ _ _ _ => a0j rfl rfl rfl rfl (a0c (qq rfl))) ?_
    refine a0v 9 rfl (by kernel_rfl) ?_
    refine a0p sz37 rfl hx10 rfl rfl rfl rfl (i := 1) rfl rfl rfl rfl ?_
    intro wx11 hx11
    refine a0o (hx11.sh (hF4.trans hF5) [0, 2, 3] (by decide) rfl) ?_
    refine d_tk 10 rfl (by kernel_rfl) rfl rfl rfl rfl (hx11.sh (hF4.trans hF5) [0, 2, 3] (by decide) rfl) (fun _ _ _ _ _ => a0b rfl rfl rfl (a0c (qq rfl))) ?_
    refine a2g (by kernel_rfl) ?_
    refine a0d (a1d ?_)
    refine a1v (vl := [.agg #[.int .i64 v4.1.P.Sign, .slice as7 ns7 cs7, .int .i64 v4.1.Q.Sign, .slice as8 ns8 cs8], .int .i64 v4.2]) rfl ⟨a2p ag37 sz37 rfl hx11 rfl (i := 1) rfl, a1z rfl, trivial⟩ (by simp) ?_
    obtain rfl := Option.some.inj hm
    exact ⟨_, _, _, rfl, hx11.pick [] (by decide) rfl, as7, ns7, cs7, as8, ns8, cs8, rfl, rfl, hs7, hs8⟩
   ·clear hm
    refine a1w (SH Fx2 [.box b4 37 [.int .i64 0, .slice none 0 0, .int .i64 0, .slice none 0 0], .box b3 37 [.int .i64 b1.P.Sign, .slice as3 ns3 cs3, .int .i64 b1.Q.Sign, .slice as4 ns4 cs4], .box b2 37 [.int .i64 ax1.P.Sign, .slice as1 ns1 cs1, .int .i64 ax1.Q.Sign, .slice as2 ns2 cs2]]) 17 rfl (by kernel_rfl) hx5 ?_
    intro wx12 hx12
    refine d_tk 0 rfl (by kernel_rfl) rfl rfl rfl rfl (hx12.sh (Frz.refl _) [0, 1, 2] (by decide) rfl) (fun _ _ _ _ _ => a0h fa37_0 rfl rfl rfl (a0c (qq rfl))) ?_
    refine d_tk 1 rfl (by kernel_rfl) rfl rfl rfl rfl (hx12.sh (Frz.refl _) [0, 1, 2] (by decide) rfl) (fun _ _ _ _ hq => a2m (cs' := [.int .i64 ax1.P.Sign, .slice as1 ns1 cs1]) ag35 sz35 rfl rfl hq rfl (i := 2) rfl rfl rfl (a0c (qq rfl))) ?_
    refine d_tk 2 rfl (by kernel_rfl) rfl rfl rfl rfl (hx12.sh (Frz.refl _) [0, 1, 2] (by decide) rfl) (fun _ _ _ _ _ => a0h fa37_1 rfl rfl rfl (a0c (qq rfl))) ?_
    refine d_tk 3 rfl (by kernel_rfl) rfl rfl rfl rfl (hx12.sh (Frz.refl _) [0, 1, 2] (by decide) rfl) (fun _ _ _ _ hq => a2m (cs' := [.int .i64 b1.Q.Sign, .slice as4 ns4 cs4]) ag35 sz35 rfl rfl hq rfl (i := 1) rfl rfl rfl (a0c (qq rfl))) ?_
    refine d_tk 5 rfl (by kernel_rfl) rfl rfl rfl rfl (hx12.sh (Frz.refl _) [0, 1, 2] (by decide) rfl) (fun _ _ _ _ _ => a0h fa37_0 rfl rfl rfl (a0c (qq rfl))) ?_
    refine d_tk 6 rfl (by kernel_rfl) rfl rfl rfl rfl (hx12.sh (Frz.refl _) [0, 1, 2] (by decide) rfl) (fun _ _ _ _ hq => a2m (cs' := [.int .i64 b1.P.Sign, .slice as3 ns3 cs3]) ag35 sz35 rfl rfl hq rfl (i := 1) rfl rfl rfl (a0c (qq rfl))) ?_
    refine d_tk 7 rfl (by kernel_rfl) rfl rfl rfl rfl (hx12.sh (Frz.refl _) [0, 1, 2] (by decide) rfl) (fun _ _ _ _ _ => a0h fa37_1 rfl rfl rfl (a0c (qq rfl))) ?_
    refine d_tk 8 rfl (by kernel_rfl) rfl rfl rfl rfl (hx12.sh (Frz.refl _) [0, 1, 2] (by decide) rfl) (fun _ _ _ _ hq => a2m (cs' := [.int .i64 ax1.Q.Sign, .slice as2 ns2 cs2]) ag35 sz35 rfl rfl hq rfl (i := 2) rfl rfl rfl (a0c (qq rfl))) ?_
    refine a9g 4 14 rfl rfl (by kernel_rfl) ?_ ?_
    ·obtain ⟨v5, hv4, hb3⟩ := bind_some hb3
     refine a0i ent48 rfl rfl rfl rfl hx12 (a3t _ _ _ _ hv4 hx12.sat ((hs1.mono hF1).mono hF2) ((hs4.mono hF1).mono hF2)) ?_
     rintro _ Fx6 _ wx13 hF6 hx13 ⟨as9, ns9, cs9, rfl, rfl, hs9⟩
     refine a0o (hx13.sh hF6 [0, 1, 2] (by decide) rfl) ?_
     refine a9g 9 14 rfl rfl (by kernel_rfl) ?_ ?_
     ·obtain ⟨v6, hv5, hb3⟩ := bind_some hb3
      refine a0i ent48 rfl rfl rfl rfl hx13 (a3t _ _ _ _ hv5 hx13.sat (((hs3.mono hF1).mono hF2).mono hF6) (((hs2.mono hF1).mono hF2).mono hF6)) ?_
      rintro _ Fx7 _ wx14 hF7 hx14 ⟨as10, ns10, cs10, rfl, rfl, hs10⟩
      refine a0o (hx14.sh (hF6.trans hF7) [0, 1, 2] (by decide) rfl) ?_
      refine a9g 10 14 rfl rfl (by kernel_rfl) ?_ ?_
      ·obtain ⟨v7, hv6, hb3⟩ := bind_some hb3
       refine a0i ent54 rfl rfl rfl rfl hx14 (b3k _ _ _ _ hv6 hx14.sat (hs9.mono hF7) hs10) ?_
       rintro _ Fx8 _ wx15 hF8 hx15 ⟨as11, ns11, cs11, rfl, rfl, hs11⟩
       refine a0o (hx15.sh ((hF6.trans hF7).trans hF8) [0, 1, 2] (by decide) rfl) ?_
       refine d_tk 11 rfl (by kernel_rfl) rfl rfl rfl rfl (hx15.sh ((hF6.trans hF7).trans hF8) [0, 1, 2] (by decide) rfl) (fun _ _ _ _ _ => a0e rfl rfl rfl (a0c (qq rfl))) ?_
       refine d_tk 12 rfl (by kernel_rfl) rfl rfl rfl rfl (hx15.sh ((hF6.trans hF7).trans hF8) [0, 1, 2] (by decide) rfl) (fun _ _ _ _ _ => a0j rfl rfl rfl rfl (a0c (qq rfl))) ?_
       refine d_tk 13 rfl (by kernel_rfl) rfl rfl rfl rfl (hx15.sh ((hF6.trans hF7).trans hF8) [0, 1, 2] (by decide) rfl) (fun _ _ _ _ _ => a0j rfl rfl rfl rfl (a0c (qq rfl))) ?_
       refine a0v 14 rfl (by kernel_rfl) ?_
       refine a1b ze35 rfl rfl rfl hx15 ?_
       intro b6 wx16 hx16
       refine a0o (hx16.sh ((hF6.trans hF7).trans hF8) [1, 2, 3] (by decide) rfl) ?_
       refine a0v 15 rfl (by kernel_rfl) ?_
       refine a0p sz35 rfl hx16 rfl rfl rfl rfl (i := 0) rfl rfl rfl rfl ?_
       intro wx17 hx17
       refine a0o (hx17.sh ((hF6.trans hF7).trans hF8) [1, 2, 3] (by decide) rfl) ?_
       refine d_tk 16 rfl (by kernel_rfl) rfl rfl rfl rfl (hx17.sh ((hF6.trans hF7).trans hF8) [1, 2, 3] (by decide) rfl) (fun _ _ _ _ _ => a0b rfl rfl rfl (a0c (qq rfl))) ?_
       refine a2g (by kernel_rfl) ?_
       refine a0n (fun a ha => ?_)
       cases hb3
       exact ⟨_, b6, as11, ns11, cs11, ((hF6.trans hF7).trans hF8), hx17.pick [0, 1, 2, 3] (by decide) rfl, hs11, ha.cut (l := [2, 3, 4, 6]) rfl⟩
      ·refine a1b ze35 rfl rfl rfl hx14 ?_
       intro b6 wx15 hx15
       refine a0o (hx15.sh (hF6.trans hF7) [1, 2, 3] (by decide) rfl) ?_
       refine a0v 10 rfl (by kernel_rfl) ?_
       obtain ⟨v7, hv6, hb3⟩ := bind_some hb3
       refine a0i ent54 rfl rfl rfl rfl hx15 (b3k _ _ _ _ hv6 hx15.sat (hs9.mono hF7) hs10) ?_
       rintro _ Fx8 _ wx16 hF8 hx16 ⟨as11, ns11, cs11, rfl, rfl, hs11⟩
       refine a0o (hx16.sh ((hF6.trans hF7).trans hF8) [1, 2, 3] (by decide) rfl) ?_
       refine d_tk 11 rfl (by kernel_rfl) rfl rfl rfl rfl (hx16.sh ((hF6.trans hF7).trans hF8) [1, 2, 3] (by decide) rfl) (fun _ _ _ _ _ => a0e rfl rfl rfl (a0c (qq rfl))) ?_
       refine d_tk 12 rfl (by kernel_rfl) rfl rfl rfl rfl (hx16.sh ((hF6.trans hF7).trans hF8) [1, 2, 3] (by decide) rfl) (fun _ _ _ _ _ => a0j rfl rfl rfl rfl (a0c (qq rfl))) ?_
       refine d_tk 13 rfl (by kernel_rfl) rfl rfl rfl rfl (hx16.sh ((hF6.trans hF7).trans hF8) [1, 2, 3] (by decide) rfl) (fun _ _ _ _ _ => a0j rfl rfl rfl rfl (a0c (qq rfl))) ?_
       refine a0v 15 rfl (by kernel_rfl) ?_
       refine a0p sz35 rfl hx16 rfl rfl rfl rfl (i := 0) rfl rfl rfl rfl ?_
       intro wx17 hx17
       refine a0o (hx17.sh ((hF6.trans hF7).trans hF8) [1, 2, 3] (by decide) rfl) ?_
       refine d_tk 16 rfl (by kernel_rfl) rfl rfl rfl rfl (hx17.sh ((hF6.trans hF7).trans hF8) [1, 2, 3] (by decide) rfl) (fun _ _ _ _ _ => a0b rfl rfl rfl (a0c (qq rfl))) ?_
       refine a2g (by kernel_rfl) ?_
       refine a0n (fun a ha => ?_)
       cases hb3
       exact ⟨_, b6, as11, ns11, cs11, ((hF6.trans hF7).trans hF8), hx17.pick [0, 1, 2, 3] (by decide) rfl, hs11, ha.cut (l := [2, 3, 4, 6]) rfl⟩
     ·refine a1b ze35 rfl rfl rfl hx13 ?_
      intro b6 wx14 hx14
      refine a0o (hx14.sh hF6 [1, 2, 3] (by decide) rfl) ?_
      refine a0v 9 rfl (by kernel_rfl) ?_
      obtain ⟨v6, hv5, hb3⟩ := bind_some hb3
      refine a0i ent48 rfl rfl rfl rfl hx14 (a3t _ _ _ _ hv5 hx14.sat (((hs3.mono hF1).mono hF2).mono hF6) (((hs2.mono hF1).mono hF2).mono hF6)) ?_
      rintro _ Fx7 _ wx15 hF7 hx15 ⟨as10, ns10, cs10, rfl, rfl, hs10⟩
      refine a0o (hx15.sh (hF6.trans hF7) [1, 2, 3] (by decide) rfl) ?_
      refine a0v 10 rfl (by kernel_rfl) ?_
      obtain ⟨v7, hv6, hb3⟩ := bind_some hb3
      refine a0i ent54 rfl rfl rfl rfl hx15 (b3k _ _ _ _ hv6 hx15.sat (hs9.mono hF7) hs10) ?_
      rintro _ Fx8 _ wx16 hF8 hx16 ⟨as11, ns11, cs11, rfl, rfl, hs11⟩
      refine a0o (hx16.sh ((hF6.trans hF7).trans hF8) [1, 2, 3] (by decide) rfl) ?_
      refine d_tk 11 rfl (by kernel_rfl) rfl rfl rfl rfl (hx16.sh ((hF6.trans hF7).trans hF8) [1, 2, 3] (by decide) rfl) (fun _ _ _ _ _ => a0e rfl rfl rfl (a0c (qq rfl))) ?_
      refine d_tk 12 rfl (by kernel_rfl) rfl rfl rfl rfl (hx16.sh ((hF6.trans hF7).trans hF8) [1, 2, 3] (by decide) rfl) (fun _ _ _ _ _ => a0j rfl rfl rfl rfl (a0c (qq rfl))) ?_
      refine d_tk 13 rfl (by kernel_rfl) rfl rfl rfl rfl (hx16.sh ((hF6.trans hF7).trans hF8) [1, 2, 3] (by decide) rfl) (fun _ _ _ _ _ => a0j rfl rfl rfl rfl (a0c (qq rfl))) ?_
      refine a0v 15 rfl (by kernel_rfl) ?_
      refine a0p sz35 rfl hx16 rfl rfl rfl rfl (i := 0) rfl rfl rfl rfl ?_
      intro wx17 hx17
      refine a0o (hx17.sh ((hF6.trans hF7).trans hF8) [1, 2, 3] (by decide) rfl) ?_
      refine d_tk 16 rfl (by kernel_rfl) rfl rfl rfl rfl (hx17.sh ((hF6.trans hF7).trans hF8) [1, 2, 3] (by decide) rfl) (fun _ _ _ _ _ => a0b rfl rfl rfl (a0c (qq rfl))) ?_
      refine a2g (by kernel_rfl) ?_
      refine a0n (fun a ha => ?_)
      cases hb3
      exact ⟨_, b6, as11, ns11, cs11, ((hF6.trans hF7).trans hF8), hx17.pick [0, 1, 2, 3] (by decide) rfl, hs11, ha.cut (l := [2, 3, 4, 6]) rfl⟩
    ·refine a1b ze35 rfl rfl rfl hx12 ?_
     intro b6 wx13 hx13
     refine a0o (hx13.sh (Frz.refl _) [1, 2, 3] (by decide) rfl) ?_
     refine a0v 4 rfl (by kernel_rfl) ?_
     obtain ⟨v5, hv4, hb3⟩ := bind_some hb3
     refine a0i ent48 rfl rfl rfl rfl hx13 (a3t _ _ _ _ hv4 hx13.sat ((hs1.mono hF1).mono hF2) ((hs4.mono hF1).mono hF2)) ?_
     rintro _ Fx6 _ wx14 hF6 hx14 ⟨as9, ns9, cs9, rfl, rfl, hs9⟩
     refine a0o (hx14.sh hF6 [1, 2, 3] (by decide) rfl) ?_
     refine a0v 9 rfl (by kernel_rfl) ?_
     obtain ⟨v6, hv5, hb3⟩ := bind_some hb3
     refine a0i ent48 rfl rfl rfl rfl hx14 (a3t _ _ _ _ hv5 hx14.sat (((hs3.mono hF1).mono hF2).mono hF6) (((hs2.mono hF1).mono hF2).mono hF6)) ?_
     rintro _ Fx7 _ wx15 hF7 hx15 ⟨as10, ns10, cs10, rfl, rfl, hs10⟩
     refine a0o (hx15.sh (hF6.trans hF7) [1, 2, 3] (by decide) rfl) ?_
     refine a0v 10 rfl (by kernel_rfl) ?_
     obtain ⟨v7, hv6, hb3⟩ := bind_some hb3
     refine a0i ent54 rfl rfl rfl rfl hx15 (b3k _ _ _ _ hv6 hx15.sat (hs9.mono hF7) hs10) ?_
     rintro _ Fx8 _ wx16 hF8 hx16 ⟨as11, ns11, cs11, rfl, rfl, hs11⟩
     refine a0o (hx16.sh ((hF6.trans hF7).trans hF8) [1, 2, 3] (by decide) rfl) ?_
     refine d_tk 11 rfl (by kernel_rfl) rfl rfl rfl rfl (hx16.sh ((hF6.trans hF7).trans hF8) [1, 2, 3] (by decide) rfl) (fun _ _ _ _ _ => a0e rfl rfl rfl (a0c (qq rfl))) ?_
     refine d_tk 12 rfl (by kernel_rfl) rfl rfl rfl rfl (hx16.sh ((hF6.trans hF7).trans hF8) [1, 2, 3] (by decide) rfl) (fun _ _ _ _ _ => a0j rfl rfl rfl rfl (a0c (qq rfl))) ?_
     refine d_tk 13 rfl (by kernel_rfl) rfl rfl rfl rfl (hx16.sh ((hF6.trans hF7).trans hF8) [1, 2, 3] (by decide) rfl) (fun _ _ _ _ _ => a0j rfl rfl rfl rfl (a0c (qq rfl))) ?_
     refine a0v 15 rfl (by kernel_rfl) ?_
     refine a0p sz35 rfl hx16 rfl rfl rfl rfl (i := 0) rfl rfl rfl rfl ?_
     intro wx17 hx17
     refine a0o (hx17.sh ((hF6.trans hF7).trans hF8) [1, 2, 3] (by decide) rfl) ?_
     refine d_tk 16 rfl (by kernel_rfl) rfl rfl rfl rfl (hx17.sh ((hF6.trans hF7).trans hF8) [1, 2, 3] (by decide) rfl) (fun _ _ _ _ _ => a0b rfl rfl rfl (a0c (qq rfl))) ?_
     refine a2g (by kernel_rfl) ?_
     refine a0n (fun a ha => ?_)
     cases hb3
     exact ⟨_, b6, as11, ns11, cs11, ((hF6.trans hF7).trans hF8), hx17.pick [0, 1, 2, 3] (by decide) rfl, hs11, ha.cut (l := [2, 3, 4, 6]) rfl⟩
 ·clear hm
  rcases a0g hb1 with ⟨hb4, hb1⟩ | ⟨hb4, hb1⟩
  ·refine a1j 11 rfl hb4 ?_
   refine a0z rfl (by decide) rfl (a0z rfl (by decide) rfl (a0z rfl (by decide) rfl (a0q rfl rfl rfl rfl (a0c ?_))))
   refine a0n (fun a ha => ?_)
   cases hb1
   exact ⟨_, Frz.refl _, hx4.pick [0, 1, 2] (by decide) rfl, ha.cut (l := [2, 3, 4, 15]) rfl⟩
  ·refine a1j 11 rfl hb4 ?_
   refine a0l ag37 sz37 rfl rfl hx4 rfl (i := 1) rfl rfl ?_
   obtain ⟨v8, hv7, hb1⟩ := bind_some hb1
   refine a0i ent14 rfl rfl rfl rfl hx4 (a2u _ _ _ hv7 hx4.sat (hs3.mono hF1) (hs4.mono hF1)) ?_
   rintro _ Fx9 _ wx18 hF9 hx18 ⟨rfl, rfl⟩
   refine a4g rfl rfl rfl (a0m rfl rfl rfl rfl (a0c ?_))
   refine a0n (fun a ha => ?_)
   cases hb1
   exact ⟨_, hF9, hx18.pick [0, 1, 2] (by decide) rfl, ha.cut (l := [2, 3, 4, 15]) rfl⟩
theorem ent21 : Ent Tryz.prog 21 := fun _ _ => by kernel_rfl
def a7w (n : Nat) (ax1 : Frac) (b1 : Frac) : Option (Frac × Int) :=
 (a2z n ax1).bind fun v1 =>
 (bif !v1 then
  some true
 else
  (a2z n b1).bind fun v5 =>
  some (!v5)).bind fun v2 =>
 bif v2 then
  some ((⟨(⟨0, []⟩ : Big), (⟨0, []⟩ : Big)⟩ : Frac), 1)
 else
  (b1a n b1.P).bind fun v3 =>
  (b0c n ax1 (⟨v3, b1.Q⟩ : Frac)).bind fun v4 =>
  some (v4.1, v4.2)
set_option maxHeartbeats 1000000 in
set_option maxRecDepth 1000000 in
theorem b0p (n : Nat) (ax1 : Frac) (b1 : Frac) (r : (Frac × Int)) (hm : a7w n ax1 b1 = some r) {w : World} {F : Frz} (hs : Sat F w) {as1 : Option Addr} {ns1 : Nat} {cs1 : Nat} {as2 : Option Addr} {ns2 : Nat} {cs2 : Nat} {as3 : Option Addr} {ns3 : Nat} {cs3 : Nat} {as4 : Option Addr} {ns4 : Nat} {cs4 : Nat} (hs1 : SlR (Rp.int .i64) F as1 ns1 cs1 ax1.P.Digits) (hs2 : SlR (Rp.int .i64) F as2 ns2 cs2 ax1.Q.Digits) (hs3 : SlR (Rp.int .i64) F as3 ns3 cs3 b1.P.Digits) (hs4 : SlR (Rp.int .i64) F as4 ns4 cs4 b1.Q.Digits) :
  Calls Tryz.prog 19 #[.agg #[.int .i64 ax1.P.Sign, .slice as1 ns1 cs1, .int .i64 ax1.Q.Sign, .slice as2 ns2 cs2], .agg #[.int .i64 b1.P.Sign, .slice as3 ns3 cs3, .int .i64 b1.Q.Sign, .slice as4 ns4 cs4]] w fun e w' => ∃ v F' O', e = .returned v ∧ HS F w [] F' O' w' ∧ (∃ (a0_1 : Option Addr) (n0_1 : Nat) (c0_1 : Nat) (a0_3 : Option Addr) (n0_3 : Nat) (c0_3 : Nat), v = .tuple #[.agg #[.int .i64 r.1.P.Sign, .slice a0_1 n0_1 c0_1, .int .i64 r.1.Q.Sign, .slice a0_3 n0_3 c0_3], .int .i64 r.2] ∧ O' = [] ∧ SlR (Rp.int .i64) F' a0_1 n0_1 c0_1 r.1.P.Digits ∧ SlR (Rp.int .i64) F' a0_3 n0_3 c0_3 r.1.Q.Digits) := by
 unfold a7w at hm
 have h := HS.init hs
 refine a1a 25 Tryz.func19 rfl rfl rfl ?_
 refine a0f (a0a ?_)
 refine a2t rfl rfl rfl rfl h ?_
 intro b2 wx1 hx1
 refine a2t rfl rfl rfl rfl hx1 ?_
 intro b3 wx2 hx2
 refine a1b ze37 rfl rfl rfl hx2 ?_
 intro b4 wx3 hx3
 refine a0b rfl rfl rfl (a0c (a0d (a0f (a0f (a0a ?_)))))
 refine a0l ag37 sz37 rfl rfl hx3 rfl (i := 2) rfl rfl ?_
 obtain ⟨v1, hv1, hm⟩ := bind_some hm
 refine a0i ent14 rfl rfl rfl rfl hx3 (a2u _ _ _ hv1 hx3.sat hs1 hs2) ?_
 rintro _ Fx1 _ wx4 hF1 hx4 ⟨rfl, rfl⟩
 refine a4g rfl rfl rfl (a0e rfl rfl rfl ?_)
 obtain ⟨v2, hb1, hm⟩ := bind_some hm
 refine a2r 4 (fun a w' => ∃ (Fx2 : Frz), Frz.le Fx1 Fx2 ∧ HS F w [] Fx2 [.box b4 37 [.int .i64 0, .slice none 0 0, .int .i64 0, .slice none 0 0], .box b3 37 [.int .i64 b1.P.Sign, .slice as3 ns3 cs3, .int .i64 b1.Q.Sign, .slice as4 ns4 cs4], .box b2 37 [.int .i64 ax1.P.Sign, .slice as1 ns1 cs1, .int .i64 ax1.Q.Sign, .slice as2 ns2 cs2]] w' ∧ Has 25 a [(2, .pointer (some ⟨b2, 0, none⟩)), (3, .pointer (some ⟨b3, 0, none⟩)), (4, .pointer (some ⟨b4, 0, none⟩)), (13, .bool v2)]) ?_ ?_
 ·rintro a wx5 ⟨Fx2, hF2, hx5, hax1⟩
  refine a1f hax1 ?_
  refine a0c (a0d ?_)
  rcases a0g hm with ⟨hb2, hm⟩ | ⟨hb2, hm⟩
  ·refine a0t 13 rfl hb2 ?_
   refine a0y rfl (a0f (a0a ?_))
   refine a2b (v := .agg #[.int .i64 0, .slice none 0 0, .int .i64 0, .slice none 0 0]) rfl rfl rfl (fun _ => by kernel_rfl) ?_
   refine a0p sz37 rfl hx5 rfl rfl rfl rfl (i := 0) rfl rfl rfl rfl ?_
   intro wx6 hx6
   refine a0b rfl rfl rfl (a0c (a0d (a1d (a0k ?_))))
   refine a1v (vl := [.agg #[.int .i64 0, .slice none 0 0, .int .i64 0, .slice none 0 0], .int .i64 1]) rfl ⟨a2p ag37 sz37 rfl hx6 rfl (i := 0) rfl, a1z rfl, trivial⟩ (by simp) ?_
   obtain rfl := Option.some.inj hm
   exact ⟨_, _, _, rfl, hx6.pick [] (by decide) rfl, none, 0, 0, none, 0, 0, rfl, rfl, SlR.nil _ _, SlR.nil _ _⟩
  ·refine a0t 13 rfl hb2 ?_
   refine a0s rfl (a1e (a0d (a0f ?_)))
   refine a1w (SH Fx2 [.box b3 37 [.int .i64 b1.P.Sign, .slice as3 ns3 cs3, .int .i64 b1.Q.Sign, .slice as4 ns4 cs4], .box b2 37 [.int .i64 ax1.P.Sign, .slice as1 ns1 cs1, .int .i64 ax1.Q.Sign, .slice as2 ns2 cs2]]) 12 rfl (by kernel_rfl) hx5 ?_
   intro wx7 hx7
   refine d_tk 0 rfl (by kernel_rfl) rfl rfl rfl rfl (hx7.sh (Frz.refl _) [1, 2] (by decide) rfl) (fun _ _ _ _ hq => a0l ag37 sz37 rfl rfl hq rfl (i := 1) rfl rfl (a0c (qq rfl))) ?_
   refine d_tk 1 rfl (by kernel_rfl) rfl rfl rfl rfl (hx7.sh (Frz.refl _) [1, 2] (by decide) rfl) (fun _ _ _ _ _ => a0h fa37_0 rfl rfl rfl (a0c (qq rfl))) ?_
   refine d_tk 2 rfl (by kernel_rfl) rfl rfl rfl rfl (hx7.sh (Frz.refl _) [1, 2] (by decide) rfl) (fun _ _ _ _ hq => a2m (cs' := [.int .i64 b1.P.Sign, .slice as3 ns3 cs3]) ag35 sz35 rfl rfl hq rfl (i := 0) rfl rfl rfl (a0c (qq rfl))) ?_
   refine d_tk 4 rfl (by kernel_rfl) rfl rfl rfl rfl (hx7.sh (Frz.refl _) [1, 2] (by decide) rfl) (fun _ _ _ _ _ => a0h fa37_1 rfl rfl rfl (a0c (qq rfl))) ?_
   refine d_tk 5 rfl (by kernel_rfl) rfl rfl rfl rfl (hx7.sh (Frz.refl _) [1, 2] (by decide) rfl) (fun _ _ _ _ hq => a2m (cs' := [.int .i64 b1.Q.Sign, .slice as4 ns4 cs4]) ag35 sz35 rfl rfl hq rfl (i := 0) rfl rfl rfl (a0c (qq rfl))) ?_
   refine a0v 3 rfl (by kernel_rfl) ?_
   obtain ⟨v3, hv2, hm⟩ := bind_some hm
   refine a0i ent52 rfl rfl rfl rfl hx7 (a6k _ _ _ hv2 hx7.sat ((hs3.mono hF1).mono hF2)) ?_
   rintro _ Fx3 _ wx8 hF3 hx8 ⟨as5, ns5, cs5, rfl, rfl, hs5⟩
   refine a0o (hx8.sh hF3 [1, 2] (by decide) rfl) ?_
   refine d_tk 6 rfl (by kernel_rfl) rfl rfl rfl rfl (hx8.sh hF3 [1, 2] (by decide) rfl) (fun _ _ _ _ _ => a2b (v := .agg #[.int .i64 v3.Sign, .slice as5 ns5 cs5, .int .i64 b1.Q.Sign, .slice as4 ns4 cs4]) rfl rfl rfl (fun _ => by kernel_rfl) (a0c (qq rfl))) ?_
   refine a0v 7 rfl (by kernel_rfl) ?_
   obtain ⟨v4, hv3, hm⟩ := bind_some hm
   refine a0i ent21 rfl rfl rfl rfl hx8 (b4d _ _ _ _ hv3 hx8.sat (((hs1.mono hF1).mono hF2).mono hF3) (((hs2.mono hF1).mono hF2).mono hF3) hs5 (((hs4.mono hF1).mono hF2).mono hF3)) ?_
   rintro _ Fx4 _ wx9 hF4 hx9 ⟨as6, ns6, cs6, as7, ns7, cs7, rfl, rfl, hs6, hs7⟩
   refine a0o (hx9.sh (hF3.trans hF4) [1, 2] (by decide) rfl) ?_
   refine d_tk 8 rfl (by kernel_rfl) rfl rfl rfl rfl (hx9.sh (hF3.trans hF4) [1, 2] (by decide) rfl) (fun _ _ _ _ _ => a0j rfl rfl rfl rfl (a0c (qq rfl))) ?_
   refine d_tk 9 rfl (by kernel_rfl) rfl rfl rfl rfl (hx9.sh (hF3.trans hF4) [1, 2] (by decide) rfl) (fun _ _ _ _ _ => a0j rfl rfl rfl rfl (a0c (qq rfl))) ?_
   refine a0v 10 rfl (by kernel_rfl) ?_
   refine a0p sz37 rfl hx9 rfl rfl rfl rfl (i := 0) rfl rfl rfl rfl ?_
   intro wx10 hx10
   refine a0o (hx10.sh (hF3.trans hF4) [1, 2] (by decide) rfl) ?_
   refine d_tk 11 rfl (by kernel_rfl) rfl rfl rfl rfl (hx10.sh (hF3.trans hF4) [1, 2] (by decide) rfl) (fun _ _ _ _ _ => a0b rfl rfl rfl (a0c (qq rfl))) ?_
   refine a2g (by kernel_rfl) ?_
   refine a0d (a1d ?_)
   refine a1v (vl := [.agg #[.int .i64 v4.1.P.Sign, .slice as6 ns6 cs6, .int .i64 v4.1.Q.Sign, .slice as7 ns7 cs7], .int .i64 v4.2]) rfl ⟨a2p ag37 sz37 rfl hx10 rfl (i := 0) rfl, a1z rfl, trivial⟩ (by simp) ?_
   obtain rfl := Option.some.inj hm
   exact ⟨_, _, _, rfl, hx10.pick [] (by decide) rfl, as6, ns6, cs6, as7, ns7, cs7, rfl, rfl, hs6, hs7⟩
 ·clear hm
  rcases a0g hb1 with ⟨hb3, hb1⟩ | ⟨hb3, hb1⟩
  ·refine a1j 9 rfl hb3 ?_
   refine a0z rfl (by decide) rfl (a0z rfl (by decide) rfl (a0z rfl (by decide) rfl (a0q rfl rfl rfl rfl (a0c ?_))))
   refine a0n (fun a ha => ?_)
   cases hb1
   exact ⟨_, Frz.refl _, hx4.pick [0, 1, 2] (by decide) rfl, ha.cut (l := [2, 3, 4, 13]) rfl⟩
  ·refine a1j 9 rfl hb3 ?_
   refine a0l ag37 sz37 rfl rfl hx4 rfl (i := 1) rfl rfl ?_
   obtain ⟨v5, hv4, hb1⟩ := bind_some hb1
   refine a0i ent14 rfl rfl rfl rfl hx4 (a2u _ _ _ hv4 hx4.sat (hs3.mono hF1) (hs4.mono hF1)) ?_
   rintro _ Fx5 _ wx11 hF5 hx11 ⟨rfl, rfl⟩
   refine a4g rfl rfl rfl (a0m rfl rfl rfl rfl (a0c ?_))
   refine a0n (fun a ha => ?_)
   cases hb1
   exact ⟨_, hF5, hx11.pick [0, 1, 2] (by decide) rfl, ha.cut (l := [2, 3, 4, 13]) rfl⟩
def a9j (n : Nat) (ax1 : Frac) (b1 : Frac) : Option (Frac × Int) :=
 (a2z n ax1).bind fun v1 =>
 (bif !v1 then
  some true
 else
  (a2z n b1).bind fun v6 =>
  some (!v6)).bind fun v2 =>
 bif v2 then
  some ((⟨(⟨0, []⟩ : Big), (⟨0, []⟩ : Big)⟩ : Frac), 1)
 else
  (a3w n ax1.P b1.P).bind fun v3 =>
  (a3w n ax1.Q b1.Q).bind fun v4 =>
  (b1x n v3 v4).bind fun v5 =>
  some (v5.1, v5.2)
set_option maxHeartbeats 1000000 in
set_option maxRecDepth 1000000 in
theorem b4n (n : Nat) (ax1 : Frac) (b1 : Frac) (r : (Frac × Int)) (hm : a9j n ax1 b1 = some r) {w : World} {F : Frz} (hs : Sat F w) {as1 : Option Addr} {ns1 : Nat} {cs1 : Nat} {as2 : Option Addr} {ns2 : Nat} {cs2 : Nat} {as3 : Option Addr} {ns3 : Nat} {cs3 : Nat} {as4 : Option Addr} {ns4 : Nat} {cs4 : Nat} (hs1 : SlR (Rp.int .i64) F as1 ns1 cs1 ax1.P.Digits) (hs2 : SlR (Rp.int .i64) F as2 ns2 cs2 ax1.Q.Digits) (hs3 : SlR (Rp.int .i64) F as3 ns3 cs3 b1.P.Digits) (hs4 : SlR (Rp.int .i64) F as4 ns4 cs4 b1.Q.Digits) :
  Calls Tryz.prog 20 #[.agg #[.int .i64 ax1.P.Sign, .slice as1 ns1 cs1, .int .i64 ax1.Q.Sign, .slice as2 ns2 cs2], .agg #[.int .i64 b1.P.Sign, .slice as3 ns3 cs3, .int .i64 b1.Q.Sign, .slice as4 ns4 cs4]] w fun e w' => ∃ v F' O', e = .returned v ∧ HS F w [] F' O' w' ∧ (∃ (a0_1 : Option Addr) (n0_1 : Nat) (c0_1 : Nat) (a0_3 : Option Addr) (n0_3 : Nat) (c0_3 : Nat), v = .tuple #[.agg #[.int .i64 r.1.P.Sign, .slice a0_1 n0_1 c0_1, .int .i64 r.1.Q.Sign, .slice a0_3 n0_3 c0_3], .int .i64 r.2] ∧ O' = [] ∧ SlR (Rp.int .i64) F' a0_1 n0_1 c0_1 r.1.P.Digits ∧ SlR (Rp.int .i64) F' a0_3 n0_3 c0_3 r.1.Q.Digits) := by
 unfold a9j at hm
 have h := HS.init hs
 refine a1a 28 Tryz.func20 rfl rfl rfl ?_
 refine a0f (a0a ?_)
 refine a2t rfl rfl rfl rfl h ?_
 intro b2 wx1 hx1
 refine a2t rfl rfl rfl rfl hx1 ?_
 intro b3 wx2 hx2
 refine a1b ze37 rfl rfl rfl hx2 ?_
 intro b4 wx3 hx3
 refine a0b rfl rfl rfl (a0c (a0d (a0f (a0f (a0a ?_)))))
 refine a0l ag37 sz37 rfl rfl hx3 rfl (i := 2) rfl rfl ?_
 obtain ⟨v1, hv1, hm⟩ := bind_some hm
 refine a0i ent14 rfl rfl rfl rfl hx3 (a2u _ _ _ hv1 hx3.sat hs1 hs2) ?_
 rintro _ Fx1 _ wx4 hF1 hx4 ⟨rfl, rfl⟩
 refine a4g rfl rfl rfl (a0e rfl rfl rfl ?_)
 obtain ⟨v2, hb1, hm⟩ := bind_some hm
 refine a2r 4 (fun a w' => ∃ (Fx2 : Frz), Frz.le Fx1 Fx2 ∧ HS F w [] Fx2 [.box b4 37 [.int .i64 0, .slice none 0 0, .int .i64 0, .slice none 0 0], .box b3 37 [.int .i64 b1.P.Sign, .slice as3 ns3 cs3, .int .i64 b1.Q.Sign, .slice as4 ns4 cs4], .box b2 37 [.int .i64 ax1.P.Sign, .slice as1 ns1 cs1, .int .i64 ax1.Q.Sign, .slice as2 ns2 cs2]] w' ∧ Has 28 a [(2, .pointer (some ⟨b2, 0, none⟩)), (3, .pointer (some ⟨b3, 0, none⟩)), (4, .pointer (some ⟨b4, 0, none⟩)), (13, .bool v2)]) ?_ ?_
 ·rintro a wx5 ⟨Fx2, hF2, hx5, hax1⟩
  refine a1f hax1 ?_
  refine a0c (a0d ?_)
  rcases a0g hm with ⟨hb2, hm⟩ | ⟨hb2, hm⟩
  ·refine a0t 13 rfl hb2 ?_
   refine a0y rfl (a0f (a0a ?_))
   refine a2b (v := .agg #[.int .i64 0, .slice none 0 0, .int .i64 0, .slice none 0 0]) rfl rfl rfl (fun _ => by kernel_rfl) ?_
   refine a0p sz37 rfl hx5 rfl rfl rfl rfl (i := 0) rfl rfl rfl rfl ?_
   intro wx6 hx6
   refine a0b rfl rfl rfl (a0c (a0d (a1d (a0k ?_))))
   refine a1v (vl := [.agg #[.int .i64 0, .slice none 0 0, .int .i64 0, .slice none 0 0], .int .i64 1]) rfl ⟨a2p ag37 sz37 rfl hx6 rfl (i := 0) rfl, a1z rfl, trivial⟩ (by simp) ?_
   obtain rfl := Option.some.inj hm
   exact ⟨_, _, _, rfl, hx6.pick [] (by decide) rfl, none, 0, 0, none, 0, 0, rfl, rfl, SlR.nil _ _, SlR.nil _ _⟩
  ·refine a0t 13 rfl hb2 ?_
   refine a0s rfl (a1e (a0d (a0f ?_)))
   refine a1w (SH Fx2 [.box b3 37 [.int .i64 b1.P.Sign, .slice as3 ns3 cs3, .int .i64 b1.Q.Sign, .slice as4 ns4 cs4], .box b2 37 [.int .i64 ax1.P.Sign, .slice as1 ns1 cs1, .int .i64 ax1.Q.Sign, .slice as2 ns2 cs2]]) 15 rfl (by kernel_rfl) hx5 ?_
   intro wx7 hx7
   refine d_tk 0 rfl (by kernel_rfl) rfl rfl rfl rfl (hx7.sh (Frz.refl _) [1, 2] (by decide) rfl) (fun _ _ _ _ _ => a0h fa37_0 rfl rfl rfl (a0c (qq rfl))) ?_
   refine d_tk 1 rfl (by kernel_rfl) rfl rfl rfl rfl (hx7.sh (Frz.refl _) [1, 2] (by decide) rfl) (fun _ _ _ _ hq => a2m (cs' := [.int .i64 ax1.P.Sign, .slice as1 ns1 cs1]) ag35 sz35 rfl rfl hq rfl (i := 1) rfl rfl rfl (a0c (qq rfl))) ?_
   refine d_tk 2 rfl (by kernel_rfl) rfl rfl rfl rfl (hx7.sh (Frz.refl _) [1, 2] (by decide) rfl) (fun _ _ _ _ _ => a0h fa37_0 rfl rfl rfl (a0c (qq rfl))) ?_
   refine d_tk 3 rfl (by kernel_rfl) rfl rfl rfl rfl (hx7.sh (Frz.refl _) [1, 2] (by decide) rfl) (fun _ _ _ _ hq => a2m (cs' := [.int .i64 b1.P.Sign, .slice as3 ns3 cs3]) ag35 sz35 rfl rfl hq rfl (i := 0) rfl rfl rfl (a0c (qq rfl))) ?_
   refine d_tk 5 rfl (by kernel_rfl) rfl rfl rfl rfl (hx7.sh (Frz.refl _) [1, 2] (by decide) rfl) (fun _ _ _ _ _ => a0h fa37_1 rfl rfl rfl (a0c (qq rfl))) ?_
   refine d_tk 6 rfl (by kernel_rfl) rfl rfl rfl rfl (hx7.sh (Frz.refl _) [1, 2] (by decide) rfl) (fun _ _ _ _ hq => a2m (cs' := [.int .i64 ax1.Q.Sign, .slice as2 ns2 cs2]) ag35 sz35 rfl rfl hq rfl (i := 1) rfl rfl rfl (a0c (qq rfl))) ?_
   refine d_tk 7 rfl (by kernel_rfl) rfl rfl rfl rfl (hx7.sh (Frz.refl _) [1, 2] (by decide) rfl) (fun _ _ _ _ _ => a0h fa37_1 rfl rfl rfl (a0c (qq rfl))) ?_
   refine d_tk 8 rfl (by kernel_rfl) rfl rfl rfl rfl (hx7.sh (Frz.refl _) [1, 2] (by decide) rfl) (fun _ _ _ _ hq => a2m (cs' := [.int .i64 b1.Q.Sign, .slice as4 ns4 cs4]) ag35 sz35 rfl rfl hq rfl (i := 0) rfl rfl rfl (a0c (qq rfl))) ?_
   refine a0v 4 rfl (by kernel_rfl) ?_
   obtain ⟨v3, hv2, hm⟩ := bind_some hm
   refine a0i ent48 rfl rfl rfl rfl hx7 (a3t _ _ _ _ hv2 hx7.sat ((hs1.mono hF1).mono hF2) ((hs3.mono hF1).mono hF2)) ?_
   rintro _ Fx3 _ wx8 hF3 hx8 ⟨as5, ns5, cs5, rfl, rfl, hs5⟩
   refine a0o (hx8.sh hF3 [1, 2] (by decide) rfl) ?_
   refine a0v 9 rfl (by kernel_rfl) ?_
   obtain ⟨v4, hv3, hm⟩ := bind_some hm
   refine a0i ent48 rfl rfl rfl rfl hx8 (a3t _ _ _ _ hv3 hx8.sat (((hs2.mono hF1).mono hF2).mono hF3) (((hs4.mono hF1).mono hF2).mono hF3)) ?_
   rintro _ Fx4 _ wx9 hF4 hx9 ⟨as6, ns6, cs6, rfl, rfl, hs6⟩
   refine a0o (hx9.sh (hF3.trans hF4) [1, 2] (by decide) rfl) ?_
   refine a0v 10 rfl (by kernel_rfl) ?_
   obtain ⟨v5, hv4, hm⟩ := bind_some hm
   refine a0i ent53 rfl rfl rfl rfl hx9 (b4h _ _ _ _ hv4 hx9.sat (hs5.mono hF4) hs6) ?_
   rintro _ Fx5 _ wx10 hF5 hx10 ⟨as7, ns7, cs7, as8, ns8, cs8, rfl, rfl, hs7, hs8⟩
   refine a0o (hx10.sh ((hF3.trans hF4).trans hF5) [1, 2] (by decide) rfl) ?_
   refine d_tk 11 rfl (by kernel_rfl) rfl rfl rfl rfl (hx10.sh ((hF3.trans hF4).trans hF5) [1, 2] (by decide) rfl) (fun _ _ _ _ _ => a0j rfl rfl rfl rfl (a0c (qq rfl))) ?_
   refine d_tk 12 rfl (by kernel_rfl) rfl rfl rfl rfl (hx10.sh ((hF3.trans hF4).trans hF5) [1, 2] (by decide) rfl) (fun _ _ _ _ _ => a0j rfl rfl rfl rfl (a0c (qq rfl))) ?_
   refine a0v 13 rfl (by kernel_rfl) ?_
   refine a0p sz37 rfl hx10 rfl rfl rfl rfl (i := 0) rfl rfl rfl rfl ?_
   intro wx11 hx11
   refine a0o (hx11.sh ((hF3.trans hF4).trans hF5) [1, 2] (by decide) rfl) ?_
   refine d_tk 14 rfl (by kernel_rfl) rfl rfl rfl rfl (hx11.sh ((hF3.trans hF4).trans hF5) [1, 2] (by decide) rfl) (fun _ _ _ _ _ => a0b rfl rfl rfl (a0c (qq rfl))) ?_
   refine a2g (by kernel_rfl) ?_
   refine a0d (a1d ?_)
   refine a1v (vl := [.agg #[.int .i64 v5.1.P.Sign, .slice as7 ns7 cs7, .int .i64 v5.1.Q.Sign, .slice as8 ns8 cs8], .int .i64 v5.2]) rfl ⟨a2p ag37 sz37 rfl hx11 rfl (i := 0) rfl, a1z rfl, trivial⟩ (by simp) ?_
   obtain rfl := Option.some.inj hm
   exact ⟨_, _, _, rfl, hx11.pick [] (by decide) rfl, as7, ns7, cs7, as8, ns8, cs8, rfl, rfl, hs7, hs8⟩
 ·clear hm
  rcases a0g hb1 with ⟨hb3, hb1⟩ | ⟨hb3, hb1⟩
  ·refine a1j 9 rfl hb3 ?_
   refine a0z rfl (by decide) rfl (a0z rfl (by decide) rfl (a0z rfl (by decide) rfl (a0q rfl rfl rfl rfl (a0c ?_))))
   refine a0n (fun a ha => ?_)
   cases hb1
   exact ⟨_, Frz.refl _, hx4.pick [0, 1, 2] (by decide) rfl, ha.cut (l := [2, 3, 4, 13]) rfl⟩
  ·refine a1j 9 rfl hb3 ?_
   refine a0l ag37 sz37 rfl rfl hx4 rfl (i := 1) rfl rfl ?_
   obtain ⟨v6, hv5, hb1⟩ := bind_some hb1
   refine a0i ent14 rfl rfl rfl rfl hx4 (a2u _ _ _ hv5 hx4.sat (hs3.mono hF1) (hs4.mono hF1)) ?_
   rintro _ Fx6 _ wx12 hF6 hx12 ⟨rfl, rfl⟩
   refine a4g rfl rfl rfl (a0m rfl rfl rfl rfl (a0c ?_))
   refine a0n (fun a ha => ?_)
   cases hb1
   exact ⟨_, hF6, hx12.pick [0, 1, 2] (by decide) rfl, ha.cut (l := [2, 3, 4, 13]) rfl⟩
def b0s (n : Nat) (ax1 : Frac) (b1 : Frac) : Option (Frac × Int) :=
 (a2z n ax1).bind fun v1 =>
 (bif !v1 then
  some true
 else
  (a2z n b1).bind fun v6 =>
  some (!v6)).bind fun v2 =>
 bif v2 then
  some ((⟨(⟨0, []⟩ : Big), (⟨0, []⟩ : Big)⟩ : Frac), 1)
 else
  bif b1.P.Sign == 0 then
   some ((⟨(⟨0, []⟩ : Big), (⟨0, []⟩ : Big)⟩ : Frac), 14)
  else
   (a3w n ax1.P b1.Q).bind fun v3 =>
   (a3w n ax1.Q b1.P).bind fun v4 =>
   (b1x n v3 v4).bind fun v5 =>
   some (v5.1, v5.2)
set_option maxHeartbeats 1000000 in
set_option maxRecDepth 1000000 in
theorem b7t (n : Nat) (ax1 : Frac) (b1 : Frac) (r : (Frac × Int)) (hm : b0s n ax1 b1 = some r) {w : World} {F : Frz} (hs : Sat F w) {as1 : Option Addr} {ns1 : Nat} {cs1 : Nat} {as2 : Option Addr} {ns2 : Nat} {cs2 : Nat} {as3 : Option Addr} {ns3 : Nat} {cs3 : Nat} {as4 : Option Addr} {ns4 : Nat} {cs4 : Nat} (hs1 : SlR (Rp.int .i64) F as1 ns1 cs1 ax1.P.Digits) (hs2 : SlR (Rp.int .i64) F as2 ns2 cs2 ax1.Q.Digits) (hs3 : SlR (Rp.int .i64) F as3 ns3 cs3 b1.P.Digits) (hs4 : SlR (Rp.int .i64) F as4 ns4 cs4 b1.Q.Digits) :
  Calls Tryz.prog 57 #[.agg #[.int .i64 ax1.P.Sign, .slice as1 ns1 cs1, .int .i64 ax1.Q.Sign, .slice as2 ns2 cs2], .agg #[.int .i64 b1.P.Sign, .slice as3 ns3 cs3, .int .i64 b1.Q.Sign, .slice as4 ns4 cs4]] w fun e w' => ∃ v F' O', e = .returned v ∧ HS F w [] F' O' w' ∧ (∃ (a0_1 : Option Addr) (n0_1 : Nat) (c0_1 : Nat) (a0_3 : Option Addr) (n0_3 : Nat) (c0_3 : Nat), v = .tuple #[.agg #[.int .i64 r.1.P.Sign, .slice a0_1 n0_1 c0_1, .int .i64 r.1.Q.Sign, .slice a0_3 n0_3 c0_3], .int .i64 r.2] ∧ O' = [] ∧ SlR (Rp.int .i64) F' a0_1 n0_1 c0_1 r.1.P.Digits ∧ SlR (Rp.int .i64) F' a0_3 n0_3 c0_3 r.1.Q.Digits) := by
 unfold b0s at hm
 have h := HS.init hs
 refine a1a 35 Tryz.func57 rfl rfl rfl ?_
 refine a0f (a0a ?_)
 refine a2t rfl rfl rfl rfl h ?_
 intro b2 wx1 hx1
 refine a2t rfl rfl rfl rfl hx1 ?_
 intro b3 wx2 hx2
 refine a1b ze37 rfl rfl rfl hx2 ?_
 intro b4 wx3 hx3
 refine a0b rfl rfl rfl (a0c (a0d (a0f (a1g (a0f (a0a ?_))))))
 refine a0l ag37 sz37 rfl rfl hx3 rfl (i := 2) rfl rfl ?_
 obtain ⟨v1, hv1, hm⟩ := bind_some hm
 refine a0i ent14 rfl rfl rfl rfl hx3 (a2u _ _ _ hv1 hx3.sat hs1 hs2) ?_
 rintro _ Fx1 _ wx4 hF1 hx4 ⟨rfl, rfl⟩
 refine a4g rfl rfl rfl (a0e rfl rfl rfl ?_)
 obtain ⟨v2, hb1, hm⟩ := bind_some hm
 refine a2r 4 (fun a w' => ∃ (Fx2 : Frz), Frz.le Fx1 Fx2 ∧ HS F w [] Fx2 [.box b4 37 [.int .i64 0, .slice none 0 0, .int .i64 0, .slice none 0 0], .box b3 37 [.int .i64 b1.P.Sign, .slice as3 ns3 cs3, .int .i64 b1.Q.Sign, .slice as4 ns4 cs4], .box b2 37 [.int .i64 ax1.P.Sign, .slice as1 ns1 cs1, .int .i64 ax1.Q.Sign, .slice as2 ns2 cs2]] w' ∧ Has 35 a [(2, .pointer (some ⟨b2, 0, none⟩)), (3, .pointer (some ⟨b3, 0, none⟩)), (4, .pointer (some ⟨b4, 0, none⟩)), (14, .bool v2)]) ?_ ?_
 ·rintro a wx5 ⟨Fx2, hF2, hx5, hax1⟩
  refine a1f hax1 ?_
  refine a0b rfl rfl rfl (a0c (a0d ?_))
  rcases a0g hm with ⟨hb2, hm⟩ | ⟨hb2, hm⟩
  ·refine a0t 6 rfl hb2 ?_
   refine a0y rfl (a0f (a0a ?_))
   refine a2b (v := .agg #[.int .i64 0, .slice none 0 0, .int .i64 0, .slice none 0 0]) rfl rfl rfl (fun _ => by kernel_rfl) ?_
   refine a0p sz37 rfl hx5 rfl rfl rfl rfl (i := 0) rfl rfl rfl rfl ?_
   intro wx6 hx6
   refine a0b rfl rfl rfl (a0c (a0d (a1d (a0x (a0k ?_)))))
   refine a1v (vl := [.agg #[.int .i64 0, .slice none 0 0, .int .i64 0, .slice none 0 0], .int .i64 1]) rfl ⟨a2p ag37 sz37 rfl hx6 rfl (i := 0) rfl, a1z rfl, trivial⟩ (by simp) ?_
   obtain rfl := Option.some.inj hm
   exact ⟨_, _, _, rfl, hx6.pick [] (by decide) rfl, none, 0, 0, none, 0, 0, rfl, rfl, SlR.nil _ _, SlR.nil _ _⟩
  ·refine a0t 6 rfl hb2 ?_
   refine a0s rfl (a0f (a0a ?_))
   refine a0h fa37_0 rfl rfl rfl ?_
   refine a0h fa35_0 rfl rfl rfl ?_
   refine a0r ag3 rfl rfl hx5 rfl (i := 1) rfl rfl ?_
   refine a0u rfl rfl rfl rfl rfl ?_
   refine a0b rfl rfl rfl (a0c (a0d ?_))
   rcases a0g hm with ⟨hb3, hm⟩ | ⟨hb3, hm⟩
   ·refine a0t 16 rfl hb3 ?_
    refine a0y rfl (a0f (a0a ?_))
    refine a2b (v := .agg #[.int .i64 0, .slice none 0 0, .int .i64 0, .slice none 0 0]) rfl rfl rfl (fun _ => by kernel_rfl) ?_
    refine a0p sz37 rfl hx5 rfl rfl rfl rfl (i := 0) rfl rfl rfl rfl ?_
    intro wx7 hx7
    refine a0b rfl rfl rfl (a0c (a0d (a1d (a0x (a0k ?_)))))
    refine a1v (vl := [.agg #[.int .i64 0, .slice none 0 0, .int .i64 0, .slice none 0 0], .int .i64 14]) rfl ⟨a2p ag37 sz37 rfl hx7 rfl (i := 0) rfl, a1z rfl, trivial⟩ (by simp) ?_
    obtain rfl := Option.some.inj hm
    exact ⟨_, _, _, rfl, hx7.pick [] (by decide) rfl, none, 0, 0, none, 0, 0, rfl, rfl, SlR.nil _ _, SlR.nil _ _⟩
   ·refine a0t 16 rfl hb3 ?_
    refine a0s rfl (a1e (a1m (a0d (a0f ?_))))
    refine a1w (SH Fx2 [.box b3 37 [.int .i64 b1.P.Sign, .slice as3 ns3 cs3, .int .i64 b1.Q.Sign, .slice as4 ns4 cs4], .box b2 37 [.int .i64 ax1.P.Sign, .slice as1 ns1 cs1, .int .i64 ax1.Q.Sign, .slice as2 ns2 cs2]]) 15 rfl (by kernel_rfl) hx5 ?_
    intro wx8 hx8
    refine d_tk 0 rfl (by kernel_rfl) rfl rfl rfl rfl (hx8.sh (Frz.refl _) [1, 2] (by decide) rfl) (fun _ _ _ _ _ => a0h fa37_0 rfl rfl rfl (a0c (qq rfl))) ?_
    refine d_tk 1 rfl (by kernel_rfl) rfl rfl rfl rfl (hx8.sh (Frz.refl _) [1, 2] (by decide) rfl) (fun _ _ _ _ hq => a2m (cs' := [.int .i64 ax1.P.Sign, .slice as1 ns1 cs1]) ag35 sz35 rfl rfl hq rfl (i := 1) rfl rfl rfl (a0c (qq rfl))) ?_
    refine d_tk 2 rfl (by kernel_rfl) rfl rfl rfl rfl (hx8.sh (Frz.refl _) [1, 2] (by decide) rfl) (fun _ _ _ _ _ => a0h fa37_1 rfl rfl rfl (a0c (qq rfl))) ?_
    refine d_tk 3 rfl (by kernel_rfl) rfl rfl rfl rfl (hx8.sh (Frz.refl _) [1, 2] (by decide) rfl) (fun _ _ _ _ hq => a2m (cs' := [.int .i64 b1.Q.Sign, .slice as4 ns4 cs4]) ag35 sz35 rfl rfl hq rfl (i := 0) rfl rfl rfl (a0c (qq rfl))) ?_
    refine d_tk 5 rfl (by kernel_rfl) rfl rfl rfl rfl (hx8.sh (Frz.refl _) [1, 2] (by decide) rfl) (fun _ _ _ _ _ => a0h fa37_1 rfl rfl rfl (a0c (qq rfl))) ?_
    refine d_tk 6 rfl (by kernel_rfl) rfl rfl rfl rfl (hx8.sh (Frz.refl _) [1, 2] (by decide) rfl) (fun _ _ _ _ hq => a2m (cs' := [.int .i64 ax1.Q.Sign, .slice as2 ns2 cs2]) ag35 sz35 rfl rfl hq rfl (i := 1) rfl rfl rfl (a0c (qq rfl))) ?_
    refine d_tk 7 rfl (by kernel_rfl) rfl rfl rfl rfl (hx8.sh (Frz.refl _) [1, 2] (by decide) rfl) (fun _ _ _ _ _ => a0h fa37_0 rfl rfl rfl (a0c (qq rfl))) ?_
    refine d_tk 8 rfl (by kernel_rfl) rfl rfl rfl rfl (hx8.sh (Frz.refl _) [1, 2] (by decide) rfl) (fun _ _ _ _ hq => a2m (cs' := [.int .i64 b1.P.Sign, .slice as3 ns3 cs3]) ag35 sz35 rfl rfl hq rfl (i := 0) rfl rfl rfl (a0c (qq rfl))) ?_
    refine a0v 4 rfl (by kernel_rfl) ?_
    obtain ⟨v3, hv2, hm⟩ := bind_some hm
    refine a0i ent48 rfl rfl rfl rfl hx8 (a3t _ _ _ _ hv2 hx8.sat ((hs1.mono hF1).mono hF2) ((hs4.mono hF1).mono hF2)) ?_
    rintro _ Fx3 _ wx9 hF3 hx9 ⟨as5, ns5, cs5, rfl, rfl, hs5⟩
    refine a0o (hx9.sh hF3 [1, 2] (by decide) rfl) ?_
    refine a0v 9 rfl (by kernel_rfl) ?_
    obtain ⟨v4, hv3, hm⟩ := bind_some hm
    refine a0i ent48 rfl rfl rfl rfl hx9 (a3t _ _ _ _ hv3 hx9.sat (((hs2.mono hF1).mono hF2).mono hF3) (((hs3.mono hF1).mono hF2).mono hF3)) ?_
    rintro _ Fx4 _ wx10 hF4 hx10 ⟨as6, ns6, cs6, rfl, rfl, hs6⟩
    refine a0o (hx10.sh (hF3.trans hF4) [1, 2] (by decide) rfl) ?_
    refine a0v 10 rfl (by kernel_rfl) ?_
    obtain ⟨v5, hv4, hm⟩ := bind_some hm
    refine a0i ent53 rfl rfl rfl rfl hx10 (b4h _ _ _ _ hv4 hx10.sat (hs5.mono hF4) hs6) ?_
    rintro _ Fx5 _ wx11 hF5 hx11 ⟨as7, ns7, cs7, as8, ns8, cs8, rfl, rfl, hs7, hs8⟩
    refine a0o (hx11.sh ((hF3.trans hF4).trans hF5) [1, 2] (by decide) rfl) ?_
    refine d_tk 11 rfl (by kernel_rfl) rfl rfl rfl rfl (hx11.sh ((hF3.trans hF4).trans hF5) [1, 2] (by decide) rfl) (fun _ _ _ _ _ => a0j rfl rfl rfl rfl (a0c (qq rfl))) ?_
    refine d_tk 12 rfl (by kernel_rfl) rfl rfl rfl rfl (hx11.sh ((hF3.trans hF4).trans hF5) [1, 2] (by decide) rfl) (fun _ _ _ _ _ => a0j rfl rfl rfl rfl (a0c (qq rfl))) ?_
    refine a0v 13 rfl (by kernel_rfl) ?_
    refine a0p sz37 rfl hx11 rfl rfl rfl rfl (i := 0) rfl rfl rfl rfl ?_
    intro wx12 hx12
    refine a0o (hx12.sh ((hF3.trans hF4).trans hF5) [1, 2] (by decide) rfl) ?_
    refine d_tk 14 rfl (by kernel_rfl) rfl rfl rfl rfl (hx12.sh ((hF3.trans hF4).trans hF5) [1, 2] (by decide) rfl) (fun _ _ _ _ _ => a0b rfl rfl rfl (a0c (qq rfl))) ?_
    refine a2g (by kernel_rfl) ?_
    refine a0d (a1d ?_)
    refine a1v (vl := [.agg #[.int .i64 v5.1.P.Sign, .slice as7 ns7 cs7, .int .i64 v5.1.Q.Sign, .slice as8 ns8 cs8], .int .i64 v5.2]) rfl ⟨a2p ag37 sz37 rfl hx12 rfl (i := 0) rfl, a1z rfl, trivial⟩ (by simp) ?_
    obtain rfl := Option.some.inj hm
    exact ⟨_, _, _, rfl, hx12.pick [] (by decide) rfl, as7, ns7, cs7, as8, ns8, cs8, rfl, rfl, hs7, hs8⟩
 ·clear hm
  rcases a0g hb1 with ⟨hb4, hb1⟩ | ⟨hb4, hb1⟩
  ·refine a1j 10 rfl hb4 ?_
   refine a0z rfl (by decide) rfl (a0z rfl (by decide) rfl (a0z rfl (by decide) rfl (a0q rfl rfl rfl rfl (a0c ?_))))
   refine a0n (fun a ha => ?_)
   cases hb1
   exact ⟨_, Frz.refl _, hx4.pick [0, 1, 2] (by decide) rfl, ha.cut (l := [2, 3, 4, 14]) rfl⟩
  ·refine a1j 10 rfl hb4 ?_
   refine a0l ag37 sz37 rfl rfl hx4 rfl (i := 1) rfl rfl ?_
   obtain ⟨v6, hv5, hb1⟩ := bind_some hb1
   refine a0i ent14 rfl rfl rfl rfl hx4 (a2u _ _ _ hv5 hx4.sat (hs3.mono hF1) (hs4.mono hF1)) ?_
   rintro _ Fx6 _ wx13 hF6 hx13 ⟨rfl, rfl⟩
   refine a4g rfl rfl rfl (a0m rfl rfl rfl rfl (a0c ?_))
   refine a0n (fun a ha => ?_)
   cases hb1
   exact ⟨_, hF6, hx13.pick [0, 1, 2] (by decide) rfl, ha.cut (l := [2, 3, 4, 14]) rfl⟩
def b0o (n : Nat) (ax1 : Big) : Option Big :=
 (b1a n ax1).bind fun v1 =>
 (b1a n v1).bind fun v2 =>
 some v2
set_option maxHeartbeats 1000000 in
set_option maxRecDepth 1000000 in
theorem b2y (n : Nat) (ax1 : Big) (r : Big) (hm : b0o n ax1 = some r) {w : World} {F : Frz} (hs : Sat F w) {as1 : Option Addr} {ns1 : Nat} {cs1 : Nat} (hs1 : SlR (Rp.int .i64) F as1 ns1 cs1 ax1.Digits) :
  Calls Tryz.prog 97 #[.agg #[.int .i64 ax1.Sign, .slice as1 ns1 cs1]] w fun e w' => ∃ v F' O', e = .returned v ∧ HS F w [] F' O' w' ∧ (∃ (a0_1 : Option Addr) (n0_1 : Nat) (c0_1 : Nat), v = .agg #[.int .i64 r.Sign, .slice a0_1 n0_1 c0_1] ∧ O' = [] ∧ SlR (Rp.int .i64) F' a0_1 n0_1 c0_1 r.Digits) := by
 unfold b0o at hm
 have h := HS.init hs
 refine a1a 6 Tryz.func97 rfl rfl rfl ?_
 refine a0f (a0a ?_)
 refine a2t rfl rfl rfl rfl h ?_
 intro b1 wx1 hx1
 refine a1b ze35 rfl rfl rfl hx1 ?_
 intro b2 wx2 hx2
 refine a0c (a0d (a0f (a0a ?_)))
 refine a0l ag35 sz35 rfl rfl hx2 rfl (i := 1) rfl rfl ?_
 obtain ⟨v1, hv1, hm⟩ := bind_some hm
 refine a0i ent52 rfl rfl rfl rfl hx2 (a6k _ _ _ hv1 hx2.sat hs1) ?_
 rintro _ Fx1 _ wx3 hF1 hx3 ⟨as2, ns2, cs2, rfl, rfl, hs2⟩
 obtain ⟨v2, hv2, hm⟩ := bind_some hm
 refine a0i ent52 rfl rfl rfl rfl hx3 (a6k _ _ _ hv2 hx3.sat hs2) ?_
 rintro _ Fx2 _ wx4 hF2 hx4 ⟨as3, ns3, cs3, rfl, rfl, hs3⟩
 refine a0p sz35 rfl hx4 rfl rfl rfl rfl (i := 0) rfl rfl rfl rfl ?_
 intro wx5 hx5
 refine a0c (a0d (a1d ?_))
 refine a3r rfl ag35 sz35 rfl hx5 rfl (i := 0) rfl ?_
 obtain rfl := Option.some.inj hm
 exact ⟨_, _, _, rfl, hx5.pick [] (by decide) rfl, as3, ns3, cs3, rfl, rfl, hs3⟩
theorem ent97 : Ent Tryz.prog 97 := fun _ _ => by kernel_rfl
def b4s (n : Nat) (f1 : Frac) : Option Frac :=
 (a2z n f1).bind fun v1 =>
 bif !v1 then
  some (⟨(⟨0, []⟩ : Big), (⟨0, []⟩ : Big)⟩ : Frac)
 else
  (b1a n f1.P).bind fun v2 =>
  (b0o n f1.Q).bind fun v3 =>
  some (⟨v2, v3⟩ : Frac)
set_option maxHeartbeats 1000000 in
set_option maxRecDepth 1000000 in
theorem b7m (n : Nat) (f1 : Frac) (r : Frac) (hm : b4s n f1 = some r) {w : World} {F : Frz} (hs : Sat F w) {as1 : Option Addr} {ns1 : Nat} {cs1 : Nat} {as2 : Option Addr} {ns2 : Nat} {cs2 : Nat} (hs1 : SlR (Rp.int .i64) F as1 ns1 cs1 f1.P.Digits) (hs2 : SlR (Rp.int .i64) F as2 ns2 cs2 f1.Q.Digits) :
  Calls Tryz.prog 56 #[.agg #[.int .i64 f1.P.Sign, .slice as1 ns1 cs1, .int .i64 f1.Q.Sign, .slice as2 ns2 cs2]] w fun e w' => ∃ v F' O', e = .returned v ∧ HS F w [] F' O' w' ∧ (∃ (a0_1 : Option Addr) (n0_1 : Nat) (c0_1 : Nat) (a0_3 : Option Addr) (n0_3 : Nat) (c0_3 : Nat), v = .agg #[.int .i64 r.P.Sign, .slice a0_1 n0_1 c0_1, .int .i64 r.Q.Sign, .slice a0_3 n0_3 c0_3] ∧ O' = [] ∧ SlR (Rp.int .i64) F' a0_1 n0_1 c0_1 r.P.Digits ∧ SlR (Rp.int .i64) F' a0_3 n0_3 c0_3 r.Q.Digits) := by
 unfold b4s at hm
 have h := HS.init hs
 refine a1a 14 Tryz.func56 rfl rfl rfl ?_
 refine a0f (a0a ?_)
 refine a2t rfl rfl rfl rfl h ?_
 intro b1 wx1 hx1
 refine a1b ze37 rfl rfl rfl hx1 ?_
 intro b2 wx2 hx2
 refine a0c (a0d (a0f (a0f (a0a ?_))))
 refine a0l ag37 sz37 rfl rfl hx2 rfl (i := 1) rfl rfl ?_
 obtain ⟨v1, hv1, hm⟩ := bind_some hm
 refine a0i ent14 rfl rfl rfl rfl hx2 (a2u _ _ _ hv1 hx2.sat hs1 hs2) ?_
 rintro _ Fx1 _ wx3 hF1 hx3 ⟨rfl, rfl⟩
 refine a4g rfl rfl rfl (a0c (a0d ?_))
 rcases a0g hm with ⟨hb1, hm⟩ | ⟨hb1, hm⟩
 ·refine a0t 5 rfl hb1 ?_
  refine a0y rfl (a0f (a0a ?_))
  refine a2b (v := .agg #[.int .i64 0, .slice none 0 0, .int .i64 0, .slice none 0 0]) rfl rfl rfl (fun _ => by kernel_rfl) ?_
  refine a0p sz37 rfl hx3 rfl rfl rfl rfl (i := 0) rfl rfl rfl rfl ?_
  intro wx4 hx4
  refine a0c (a0d (a1d (a0k ?_)))
  refine a3r rfl ag37 sz37 rfl hx4 rfl (i := 0) rfl ?_
  obtain rfl := Option.some.inj hm
  exact ⟨_, _, _, rfl, hx4.pick [] (by decide) rfl, none, 0, 0, none, 0, 0, rfl, rfl, SlR.nil _ _, SlR.nil _ _⟩
 ·refine a0t 5 rfl hb1 ?_
  refine a0s rfl (a1e (a0d (a0f ?_)))
  refine a1w (SH Fx1 [.box b1 37 [.int .i64 f1.P.Sign, .slice as1 ns1 cs1, .int .i64 f1.Q.Sign, .slice as2 ns2 cs2]]) 8 rfl (by kernel_rfl) hx3 ?_
  intro wx5 hx5
  refine d_tk 0 rfl (by kernel_rfl) rfl rfl rfl rfl (hx5.sh (Frz.refl _) [1] (by decide) rfl) (fun _ _ _ _ _ => a0h fa37_0 rfl rfl rfl (a0c (qq rfl))) ?_
  refine d_tk 1 rfl (by kernel_rfl) rfl rfl rfl rfl (hx5.sh (Frz.refl _) [1] (by decide) rfl) (fun _ _ _ _ hq => a2m (cs' := [.int .i64 f1.P.Sign, .slice as1 ns1 cs1]) ag35 sz35 rfl rfl hq rfl (i := 0) rfl rfl rfl (a0c (qq rfl))) ?_
  refine d_tk 3 rfl (by kernel_rfl) rfl rfl rfl rfl (hx5.sh (Frz.refl _) [1] (by decide) rfl) (fun _ _ _ _ _ => a0h fa37_1 rfl rfl rfl (a0c (qq rfl))) ?_
  refine d_tk 4 rfl (by kernel_rfl) rfl rfl rfl rfl (hx5.sh (Frz.refl _) [1] (by decide) rfl) (fun _ _ _ _ hq => a2m (cs' := [.int .i64 f1.Q.Sign, .slice as2 ns2 cs2]) ag35 sz35 rfl rfl hq rfl (i := 0) rfl rfl rfl (a0c (qq rfl))) ?_
  refine a0v 2 rfl (by kernel_rfl) ?_
  obtain ⟨v2, hv2, hm⟩ := bind_some hm
  refine a0i ent52 rfl rfl rfl rfl hx5 (a6k _ _ _ hv2 hx5.sat (hs1.mono hF1)) ?_
  rintro _ Fx2 _ wx6 hF2 hx6 ⟨as3, ns3, cs3, rfl, rfl, hs3⟩
  refine a0o (hx6.sh hF2 [1] (by decide) rfl) ?_
  refine a0v 5 rfl (by kernel_rfl) ?_
  obtain ⟨v3, hv3, hm⟩ := bind_some hm
  refine a0i ent97 rfl rfl rfl rfl hx6 (b2y _ _ _ hv3 hx6.sat ((hs2.mono hF1).mono hF2)) ?_
  rintro _ Fx3 _ wx7 hF3 hx7 ⟨as4, ns4, cs4, rfl, rfl, hs4⟩
  refine a0o (hx7.sh (hF2.trans hF3) [1] (by decide) rfl) ?_
  refine d_tk 6 rfl (by kernel_rfl) rfl rfl rfl rfl (hx7.sh (hF2.trans hF3) [1] (by decide) rfl) (fun _ _ _ _ _ => a2b (v := .agg #[.int .i64 v2.Sign, .slice as3 ns3 cs3, .int .i64 v3.Sign, .slice as4 ns4 cs4]) rfl rfl rfl (fun _ => by kernel_rfl) (a0c (qq rfl))) ?_
  refine a0v 7 rfl (by kernel_rfl) ?_
  refine a0p sz37 rfl hx7 rfl rfl rfl rfl (i := 0) rfl rfl rfl rfl ?_
  intro wx8 hx8
  refine a0o (hx8.sh (hF2.trans hF3) [1] (by decide) rfl) ?_
  refine a2g (by kernel_rfl) ?_
  refine a0d (a1d ?_)
  refine a3r rfl ag37 sz37 rfl hx8 rfl (i := 0) rfl ?_
  obtain rfl := Option.some.inj hm
  exact ⟨_, _, _, rfl, hx8.pick [] (by decide) rfl, as3, ns3, cs3, as4, ns4, cs4, rfl, rfl, (hs3.mono hF3), hs4⟩
def b1l (n : Nat) (f1 : Frac) : Option Int :=
 (a2z n f1).bind fun v1 =>
 bif !v1 then
  some 0
 else
  some f1.P.Sign
set_option maxHeartbeats 1000000 in
set_option maxRecDepth 1000000 in
theorem b5u (n : Nat) (f1 : Frac) (r : Int) (hm : b1l n f1 = some r) {w : World} {F : Frz} (hs : Sat F w) {as1 : Option Addr} {ns1 : Nat} {cs1 : Nat} {as2 : Option Addr} {ns2 : Nat} {cs2 : Nat} (hs1 : SlR (Rp.int .i64) F as1 ns1 cs1 f1.P.Digits) (hs2 : SlR (Rp.int .i64) F as2 ns2 cs2 f1.Q.Digits) :
  Calls Tryz.prog 15 #[.agg #[.int .i64 f1.P.Sign, .slice as1 ns1 cs1, .int .i64 f1.Q.Sign, .slice as2 ns2 cs2]] w fun e w' => ∃ v F' O', e = .returned v ∧ HS F w [] F' O' w' ∧ (v = .int .i64 r ∧ O' = []) := by
 unfold b1l at hm
 have h := HS.init hs
 refine a1a 9 Tryz.func15 rfl rfl rfl ?_
 refine a0f (a0a ?_)
 refine a2t rfl rfl rfl rfl h ?_
 intro b1 wx1 hx1
 refine a0b rfl rfl rfl (a0c (a0d (a0f (a0f (a0a ?_)))))
 refine a0l ag37 sz37 rfl rfl hx1 rfl (i := 0) rfl rfl ?_
 obtain ⟨v1, hv1, hm⟩ := bind_some hm
 refine a0i ent14 rfl rfl rfl rfl hx1 (a2u _ _ _ hv1 hx1.sat hs1 hs2) ?_
 rintro _ Fx1 _ wx2 hF1 hx2 ⟨rfl, rfl⟩
 refine a4g rfl rfl rfl (a0c (a0d ?_))
 rcases a0g hm with ⟨hb1, hm⟩ | ⟨hb1, hm⟩
 ·refine a0t 5 rfl hb1 ?_
  refine a0y rfl (a0f (a0a (a0b rfl rfl rfl (a0c (a0d (a1d (a0k ?_)))))))
  refine a1l rfl rfl ?_
  obtain rfl := Option.some.inj hm
  exact ⟨_, _, _, rfl, hx2.pick [] (by decide) rfl, rfl, rfl⟩
 ·refine a0t 5 rfl hb1 ?_
  refine a0s rfl (a1e (a0d (a0f (a0a ?_))))
  refine a0h fa37_0 rfl rfl rfl ?_
  refine a0h fa35_0 rfl rfl rfl ?_
  refine a0r ag3 rfl rfl hx2 rfl (i := 0) rfl rfl ?_
  refine a0b rfl rfl rfl (a0c (a0d (a1d ?_)))
  refine a1l rfl rfl ?_
  obtain rfl := Option.some.inj hm
  exact ⟨_, _, _, rfl, hx2.pick [] (by decide) rfl, rfl, rfl⟩
theorem ent47 : Ent Tryz.prog 47 := fun _ _ => by kernel_rfl
def a4e (n : Nat) (ax1 : Frac) (b1 : Frac) : Option Int :=
 (a2z n ax1).bind fun v1 =>
 (bif !v1 then
  some true
 else
  (a2z n b1).bind fun v6 =>
  some (!v6)).bind fun v2 =>
 bif v2 then
  some 0
 else
  (a3w n ax1.P b1.Q).bind fun v3 =>
  (a3w n b1.P ax1.Q).bind fun v4 =>
  (b0k n v3 v4).bind fun v5 =>
  some v5
set_option maxHeartbeats 1000000 in
set_option maxRecDepth 1000000 in
theorem a6z (n : Nat) (ax1 : Frac) (b1 : Frac) (r : Int) (hm : a4e n ax1 b1 = some r) {w : World} {F : Frz} (hs : Sat F w) {as1 : Option Addr} {ns1 : Nat} {cs1 : Nat} {as2 : Option Addr} {ns2 : Nat} {cs2 : Nat} {as3 : Option Addr} {ns3 : Nat} {cs3 : Nat} {as4 : Option Addr} {ns4 : Nat} {cs4 : Nat} (hs1 : SlR (Rp.int .i64) F as1 ns1 cs1 ax1.P.Digits) (hs2 : SlR (Rp.int .i64) F as2 ns2 cs2 ax1.Q.Digits) (hs3 : SlR (Rp.int .i64) F as3 ns3 cs3 b1.P.Digits) (hs4 : SlR (Rp.int .i64) F as4 ns4 cs4 b1.Q.Digits) :
  Calls Tryz.prog 16 #[.agg #[.int .i64 ax1.P.Sign, .slice as1 ns1 cs1, .int .i64 ax1.Q.Sign, .slice as2 ns2 cs2], .agg #[.int .i64 b1.P.Sign, .slice as3 ns3 cs3, .int .i64 b1.Q.Sign, .slice as4 ns4 cs4]] w fun e w' => ∃ v F' O', e = .returned v ∧ HS F w [] F' O' w' ∧ (v = .int .i64 r ∧ O' = []) := by
 unfold a4e at hm
 have h := HS.init hs
 refine a1a 24 Tryz.func16 rfl rfl rfl ?_
 refine a0f (a0a ?_)
 refine a2t rfl rfl rfl rfl h ?_
 intro b2 wx1 hx1
 refine a2t rfl rfl rfl rfl hx1 ?_
 intro b3 wx2 hx2
 refine a0b rfl rfl rfl (a0c (a0d (a0f (a0f (a0a ?_)))))
 refine a0l ag37 sz37 rfl rfl hx2 rfl (i := 1) rfl rfl ?_
 obtain ⟨v1, hv1, hm⟩ := bind_some hm
 refine a0i ent14 rfl rfl rfl rfl hx2 (a2u _ _ _ hv1 hx2.sat hs1 hs2) ?_
 rintro _ Fx1 _ wx3 hF1 hx3 ⟨rfl, rfl⟩
 refine a4g rfl rfl rfl (a0e rfl rfl rfl ?_)
 obtain ⟨v2, hb1, hm⟩ := bind_some hm
 refine a2r 4 (fun a w' => ∃ (Fx2 : Frz), Frz.le Fx1 Fx2 ∧ HS F w [] Fx2 [.box b3 37 [.int .i64 b1.P.Sign, .slice as3 ns3 cs3, .int .i64 b1.Q.Sign, .slice as4 ns4 cs4], .box b2 37 [.int .i64 ax1.P.Sign, .slice as1 ns1 cs1, .int .i64 ax1.Q.Sign, .slice as2 ns2 cs2]] w' ∧ Has 24 a [(2, .pointer (some ⟨b2, 0, none⟩)), (3, .pointer (some ⟨b3, 0, none⟩)), (12, .bool v2)]) ?_ ?_
 ·rintro a wx4 ⟨Fx2, hF2, hx4, hax1⟩
  refine a1f hax1 ?_
  refine a0c (a0d ?_)
  rcases a0g hm with ⟨hb2, hm⟩ | ⟨hb2, hm⟩
  ·refine a0t 12 rfl hb2 ?_
   refine a0y rfl (a0f (a0a (a0b rfl rfl rfl (a0c (a0d (a1d (a0k ?_)))))))
   refine a1l rfl rfl ?_
   obtain rfl := Option.some.inj hm
   exact ⟨_, _, _, rfl, hx4.pick [] (by decide) rfl, rfl, rfl⟩
  ·refine a0t 12 rfl hb2 ?_
   refine a0s rfl (a1e (a0d (a0f ?_)))
   refine a1w (SH Fx2 [.box b3 37 [.int .i64 b1.P.Sign, .slice as3 ns3 cs3, .int .i64 b1.Q.Sign, .slice as4 ns4 cs4], .box b2 37 [.int .i64 ax1.P.Sign, .slice as1 ns1 cs1, .int .i64 ax1.Q.Sign, .slice as2 ns2 cs2]]) 12 rfl (by kernel_rfl) hx4 ?_
   intro wx5 hx5
   refine d_tk 0 rfl (by kernel_rfl) rfl rfl rfl rfl (hx5.sh (Frz.refl _) [0, 1] (by decide) rfl) (fun _ _ _ _ _ => a0h fa37_0 rfl rfl rfl (a0c (qq rfl))) ?_
   refine d_tk 1 rfl (by kernel_rfl) rfl rfl rfl rfl (hx5.sh (Frz.refl _) [0, 1] (by decide) rfl) (fun _ _ _ _ hq => a2m (cs' := [.int .i64 ax1.P.Sign, .slice as1 ns1 cs1]) ag35 sz35 rfl rfl hq rfl (i := 1) rfl rfl rfl (a0c (qq rfl))) ?_
   refine d_tk 2 rfl (by kernel_rfl) rfl rfl rfl rfl (hx5.sh (Frz.refl _) [0, 1] (by decide) rfl) (fun _ _ _ _ _ => a0h fa37_1 rfl rfl rfl (a0c (qq rfl))) ?_
   refine d_tk 3 rfl (by kernel_rfl) rfl rfl rfl rfl (hx5.sh (Frz.refl _) [0, 1] (by decide) rfl) (fun _ _ _ _ hq => a2m (cs' := [.int .i64 b1.Q.Sign, .slice as4 ns4 cs4]) ag35 sz35 rfl rfl hq rfl (i := 0) rfl rfl rfl (a0c (qq rfl))) ?_
   refine d_tk 5 rfl (by kernel_rfl) rfl rfl rfl rfl (hx5.sh (Frz.refl _) [0, 1] (by decide) rfl) (fun _ _ _ _ _ => a0h fa37_0 rfl rfl rfl (a0c (qq rfl))) ?_
   refine d_tk 6 rfl (by kernel_rfl) rfl rfl rfl rfl (hx5.sh (Frz.refl _) [0, 1] (by decide) rfl) (fun _ _ _ _ hq => a2m (cs' := [.int .i64 b1.P.Sign, .slice as3 ns3 cs3]) ag35 sz35 rfl rfl hq rfl (i := 0) rfl rfl rfl (a0c (qq rfl))) ?_
   refine d_tk 7 rfl (by kernel_rfl) rfl rfl rfl rfl (hx5.sh (Frz.refl _) [0, 1] (by decide) rfl) (fun _ _ _ _ _ => a0h fa37_1 rfl rfl rfl (a0c (qq rfl))) ?_
   refine d_tk 8 rfl (by kernel_rfl) rfl rfl rfl rfl (hx5.sh (Frz.refl _) [0, 1] (by decide) rfl) (fun _ _ _ _ hq => a2m (cs' := [.int .i64 ax1.Q.Sign, .slice as2 ns2 cs2]) ag35 sz35 rfl rfl hq rfl (i := 1) rfl rfl rfl (a0c (qq rfl))) ?_
   refine a0v 4 rfl (by kernel_rfl) ?_
   obtain ⟨v3, hv2, hm⟩ := bind_some hm
   refine a0i ent48 rfl rfl rfl rfl hx5 (a3t _ _ _ _ hv2 hx5.sat ((hs1.mono hF1).mono hF2) ((hs4.mono hF1).mono hF2)) ?_
   rintro _ Fx3 _ wx6 hF3 hx6 ⟨as5, ns5, cs5, rfl, rfl, hs5⟩
   refine a0o (hx6.sh hF3 [0, 1] (by decide) rfl) ?_
   refine a0v 9 rfl (by kernel_rfl) ?_
   obtain ⟨v4, hv3, hm⟩ := bind_some hm
   refine a0i ent48 rfl rfl rfl rfl hx6 (a3t _ _ _ _ hv3 hx6.sat (((hs3.mono hF1).mono hF2).mono hF3) (((hs2.mono hF1).mono hF2).mono hF3)) ?_
   rintro _ Fx4 _ wx7 hF4 hx7 ⟨as6, ns6, cs6, rfl, rfl, hs6⟩
   refine a0o (hx7.sh (hF3.trans hF4) [0, 1] (by decide) rfl) ?_
   refine a0v 10 rfl (by kernel_rfl) ?_
   obtain ⟨v5, hv4, hm⟩ := bind_some hm
   refine a0i ent47 rfl rfl rfl rfl hx7 (b8o _ _ _ _ hv4 hx7.sat (hs5.mono hF4) hs6) ?_
   rintro _ Fx5 _ wx8 hF5 hx8 ⟨rfl, rfl⟩
   refine a0o (hx8.sh ((hF3.trans hF4).trans hF5) [0, 1] (by decide) rfl) ?_
   refine d_tk 11 rfl (by kernel_rfl) rfl rfl rfl rfl (hx8.sh ((hF3.trans hF4).trans hF5) [0, 1] (by decide) rfl) (fun _ _ _ _ _ => a0b rfl rfl rfl (a0c (qq rfl))) ?_
   refine a2g (by kernel_rfl) ?_
   refine a0d (a1d ?_)
   refine a1l rfl rfl ?_
   obtain rfl := Option.some.inj hm
   exact ⟨_, _, _, rfl, hx8.pick [] (by decide) rfl, rfl, rfl⟩
 ·clear hm
  rcases a0g hb1 with ⟨hb3, hb1⟩ | ⟨hb3, hb1⟩
  ·refine a1j 8 rfl hb3 ?_
   refine a0z rfl (by decide) rfl (a0z rfl (by decide) rfl (a0z rfl (by decide) rfl (a0q rfl rfl rfl rfl (a0c ?_))))
   refine a0n (fun a ha => ?_)
   cases hb1
   exact ⟨_, Frz.refl _, hx3.pick [0, 1] (by decide) rfl, ha.cut (l := [2, 3, 12]) rfl⟩
  ·refine a1j 8 rfl hb3 ?_
   refine a0l ag37 sz37 rfl rfl hx3 rfl (i := 0) rfl rfl ?_
   obtain ⟨v6, hv5, hb1⟩ := bind_some hb1
   refine a0i ent14 rfl rfl rfl rfl hx3 (a2u _ _ _ hv5 hx3.sat (hs3.mono hF1) (hs4.mono hF1)) ?_
   rintro _ Fx6 _ wx9 hF6 hx9 ⟨rfl, rfl⟩
   refine a4g rfl rfl rfl (a0m rfl rfl rfl rfl (a0c ?_))
   refine a0n (fun a ha => ?_)
   cases hb1
   exact ⟨_, hF6, hx9.pick [0, 1] (by decide) rfl, ha.cut (l := [2, 3, 12]) rfl⟩
theorem ent16 : Ent Tryz.prog 16 := fun _ _ => by kernel_rfl
def a8x (n : Nat) (ax1 : Frac) (b1 : Frac) (sign1 : Int) : Option (Frac × Int) :=
 (a2z n ax1).bind fun v1 =>
 (bif !v1 then
  some true
 else
  (a2z n b1).bind fun v6 =>
  some (!v6)).bind fun v2 =>
 bif v2 then
  some ((⟨(⟨0, []⟩ : Big), (⟨0, []⟩ : Big)⟩ : Frac), 1)
 else
  (a4e n ax1 b1).bind fun v3 =>
  (bif decide ((imul .i64 v3 sign1) < 0) then
   some (b1.P.Sign, b1.P.Digits, b1.Q.Sign, b1.Q.Digits)
  else
   some (ax1.P.Sign, ax1.P.Digits, ax1.Q.Sign, ax1.Q.Digits)).bind fun (f1, f2, f3, f4) =>
  (b0o n (⟨f1, f2⟩ : Big)).bind fun v4 =>
  (b0o n (⟨f3, f4⟩ : Big)).bind fun v5 =>
  some ((⟨v4, v5⟩ : Frac), 0)
set_option maxHeartbeats 1000000 in
set_option maxRecDepth 1000000 in
theorem b3x (n : Nat) (ax1 : Frac) (b1 : Frac) (sign1 : Int) (r : (Frac × Int)) (hm : a8x n ax1 b1 sign1 = some r) {w : World} {F : Frz} (hs : Sat F w) {as1 : Option Addr} {ns1 : Nat} {cs1 : Nat} {as2 : Option Addr} {ns2 : Nat} {cs2 : Nat} {as3 : Option Addr} {ns3 : Nat} {cs3 : Nat} {as4 : Option Addr} {ns4 : Nat} {cs4 : Nat} (hs1 : SlR (Rp.int .i64) F as1 ns1 cs1 ax1.P.Digits) (hs2 : SlR (Rp.int .i64) F as2 ns2 cs2 ax1.Q.Digits) (hs3 : SlR (Rp.int .i64) F as3 ns3 cs3 b1.P.Digits) (hs4 : SlR (Rp.int .i64) F as4 ns4 cs4 b1.Q.Digits) :
  Calls Tryz.prog 55 #[.agg #[.int .i64 ax1.P.Sign, .slice as1 ns1 cs1, .int .i64 ax1.Q.Sign, .slice as2 ns2 cs2], .agg #[.int .i64 b1.P.Sign, .slice as3 ns3 cs3, .int .i64 b1.Q.Sign, .slice as4 ns4 cs4], .int .i64 sign1] w fun e w' => ∃ v F' O', e = .returned v ∧ HS F w [] F' O' w' ∧ (∃ (a0_1 : Option Addr) (n0_1 : Nat) (c0_1 : Nat) (a0_3 : Option Addr) (n0_3 : Nat) (c0_3 : Nat), v = .tuple #[.agg #[.int .i64 r.1.P.Sign, .slice a0_1 n0_1 c0_1, .int .i64 r.1.Q.Sign, .slice a0_3 n0_3 c0_3], .int .i64 r.2] ∧ O' = [] ∧ SlR (Rp.int .i64) F' a0_1 n0_1 c0_1 r.1.P.Digits ∧ SlR (Rp.int .i64) F' a0_3 n0_3 c0_3 r.1.Q.Digits) := by
 unfold a8x at hm
 have h := HS.init hs
 refine a1a 31 Tryz.func55 rfl rfl rfl ?_
 refine a0f (a0a ?_)
 refine a2t rfl rfl rfl rfl h ?_
 intro b2 wx1 hx1
 refine a2t rfl rfl rfl rfl hx1 ?_
 intro b3 wx2 hx2
 refine a1b ze37 rfl rfl rfl hx2 ?_
 intro b4 wx3 hx3
 refine a0b rfl rfl rfl (a0c (a0d (a0f (a0f (a0a ?_)))))
 refine a0l ag37 sz37 rfl rfl hx3 rfl (i := 2) rfl rfl ?_
 obtain ⟨v1, hv1, hm⟩ := bind_some hm
 refine a0i ent14 rfl rfl rfl rfl hx3 (a2u _ _ _ hv1 hx3.sat hs1 hs2) ?_
 rintro _ Fx1 _ wx4 hF1 hx4 ⟨rfl, rfl⟩
 refine a4g rfl rfl rfl (a0e rfl rfl rfl ?_)
 obtain ⟨v2, hb1, hm⟩ := bind_some hm
 refine a2r 4 (fun a w' => ∃ (Fx2 : Frz), Frz.le Fx1 Fx2 ∧ HS F w [] Fx2 [.box b4 37 [.int .i64 0, .slice none 0 0, .int .i64 0, .slice none 0 0], .box b3 37 [.int .i64 b1.P.Sign, .slice as3 ns3 cs3, .int .i64 b1.Q.Sign, .slice as4 ns4 cs4], .box b2 37 [.int .i64 ax1.P.Sign, .slice as1 ns1 cs1, .int .i64 ax1.Q.Sign, .slice as2 ns2 cs2]] w' ∧ Has 31 a [(2, .int .i64 sign1), (3, .pointer (some ⟨b2, 0, none⟩)), (4, .pointer (some ⟨b3, 0, none⟩)), (6, .pointer (some ⟨b4, 0, none⟩)), (15, .bool v2)]) ?_ ?_
 ·rintro a wx5 ⟨Fx2, hF2, hx5, hax1⟩
  refine a1f hax1 ?_
  refine a0c (a0d ?_)
  rcases a0g hm with ⟨hb2, hm⟩ | ⟨hb2, hm⟩
  ·refine a0t 15 rfl hb2 ?_
   refine a0y rfl (a0f (a0a ?_))
   refine a2b (v := .agg #[.int .i64 0, .slice none 0 0, .int .i64 0, .slice none 0 0]) rfl rfl rfl (fun _ => by kernel_rfl) ?_
   refine a0p sz37 rfl hx5 rfl rfl rfl rfl (i := 0) rfl rfl rfl rfl ?_
   intro wx6 hx6
   refine a0b rfl rfl rfl (a0c (a0d (a1d (a0k ?_))))
   refine a1v (vl := [.agg #[.int .i64 0, .slice none 0 0, .int .i64 0, .slice none 0 0], .int .i64 1]) rfl ⟨a2p ag37 sz37 rfl hx6 rfl (i := 0) rfl, a1z rfl, trivial⟩ (by simp) ?_
   obtain rfl := Option.some.inj hm
   exact ⟨_, _, _, rfl, hx6.pick [] (by decide) rfl, none, 0, 0, none, 0, 0, rfl, rfl, SlR.nil _ _, SlR.nil _ _⟩
  ·refine a0t 15 rfl hb2 ?_
   refine a0s rfl (a1e (a0d (a0f (a0f (a0a ?_)))))
   refine a0l ag37 sz37 rfl rfl hx5 rfl (i := 2) rfl rfl ?_
   refine a0l ag37 sz37 rfl rfl hx5 rfl (i := 1) rfl rfl ?_
   obtain ⟨v3, hv2, hm⟩ := bind_some hm
   refine a0i ent16 rfl rfl rfl rfl hx5 (a6z _ _ _ _ hv2 hx5.sat ((hs1.mono hF1).mono hF2) ((hs2.mono hF1).mono hF2) ((hs3.mono hF1).mono hF2) ((hs4.mono hF1).mono hF2)) ?_
   rintro _ Fx3 _ wx7 hF3 hx7 ⟨rfl, rfl⟩
   refine a0e rfl rfl rfl ?_
   refine a0u rfl rfl rfl rfl rfl ?_
   refine a0u rfl rfl rfl rfl rfl ?_
   refine a0c (a0d ?_)
   obtain ⟨⟨f1, f2, f3, f4⟩, hb3, hm⟩ := bind_some hm
   refine a8f (fun a w' => ∃ (Fx4 : Frz) (as5 : Option Addr) (ns5 : Nat) (cs5 : Nat) (as6 : Option Addr) (ns6 : Nat) (cs6 : Nat), Frz.le Fx3 Fx4 ∧ HS F w [] Fx4 [.box b4 37 [.int .i64 0, .slice none 0 0, .int .i64 0, .slice none 0 0], .box b3 37 [.int .i64 b1.P.Sign, .slice as3 ns3 cs3, .int .i64 b1.Q.Sign, .slice as4 ns4 cs4], .box b2 37 [.int .i64 f1, .slice as5 ns5 cs5, .int .i64 f3, .slice as6 ns6 cs6]] w' ∧ (SlR (Rp.int .i64) Fx4 as5 ns5 cs5 f2) ∧ (SlR (Rp.int .i64) Fx4 as6 ns6 cs6 f4) ∧ Has 31 a [(3, .pointer (some ⟨b2, 0, none⟩)), (6, .pointer (some ⟨b4, 0, none⟩))]) ?_ ?_
   ·rintro a wx8 ⟨Fx4, as5, ns5, cs5, as6, ns6, cs6, hF4, hx8, hs5, hs6, hax2⟩
    refine a1i hax2 ?_
    refine a0f ?_
    refine a1w (SH Fx4 [.box b3 37 [.int .i64 b1.P.Sign, .slice as3 ns3 cs3, .int .i64 b1.Q.Sign, .slice as4 ns4 cs4], .box b2 37 [.int .i64 f1, .slice as5 ns5 cs5, .int .i64 f3, .slice as6 ns6 cs6]]) 9 rfl (by kernel_rfl) hx8 ?_
    intro wx9 hx9
    refine d_tk 0 rfl (by kernel_rfl) rfl rfl rfl rfl (hx9.sh (Frz.refl _) [1, 2] (by decide) rfl) (fun _ _ _ _ _ => a0h fa37_0 rfl rfl rfl (a0c (qq rfl))) ?_
    refine d_tk 1 rfl (by kernel_rfl) rfl rfl rfl rfl (hx9.sh (Frz.refl _) [1, 2] (by decide) rfl) (fun _ _ _ _ hq => a2m (cs' := [.int .i64 f1, .slice as5 ns5 cs5]) ag35 sz35 rfl rfl hq rfl (i := 1) rfl rfl rfl (a0c (qq rfl))) ?_
    refine d_tk 3 rfl (by kernel_rfl) rfl rfl rfl rfl (hx9.sh (Frz.refl _) [1, 2] (by decide) rfl) (fun _ _ _ _ _ => a0h fa37_1 rfl rfl rfl (a0c (qq rfl))) ?_
    refine d_tk 4 rfl (by kernel_rfl) rfl rfl rfl rfl (hx9.sh (Frz.refl _) [1, 2] (by decide) rfl) (fun _ _ _ _ hq => a2m (cs' := [.int .i64 f3, .slice as6 ns6 cs6]) ag35 sz35 rfl rfl hq rfl (i := 1) rfl rfl rfl (a0c (qq rfl))) ?_
    refine a0v 2 rfl (by kernel_rfl) ?_
    obtain ⟨v4, hv3, hm⟩ := bind_some hm
    refine a0i ent97 rfl rfl rfl rfl hx9 (b2y _ _ _ hv3 hx9.sat hs5) ?_
    rintro _ Fx5 _ wx10 hF5 hx10 ⟨as7, ns7, cs7, rfl, rfl, hs7⟩
    refine a0o (hx10.sh hF5 [1, 2] (by decide) rfl) ?_
    refine a0v 5 rfl (by kernel_rfl) ?_
    obtain ⟨v5, hv4, hm⟩ := bind_some hm
    refine a0i ent97 rfl rfl rfl rfl hx10 (b2y _ _ _ hv4 hx10.sat (hs6.mono hF5)) ?_
    rintro _ Fx6 _ wx11 hF6 hx11 ⟨as8, ns8, cs8, rfl, rfl, hs8⟩
    refine a0o (hx11.sh (hF5.trans hF6) [1, 2] (by decide) rfl) ?_
    refine d_tk 6 rfl (by kernel_rfl) rfl rfl rfl rfl (hx11.sh (hF5.trans hF6) [1, 2] (by decide) rfl) (fun _ _ _ _ _ => a2b (v := .agg #[.int .i64 v4.Sign, .slice as7 ns7 cs7, .int .i64 v5.Sign, .slice as8 ns8 cs8]) rfl rfl rfl (fun _ => by kernel_rfl) (a0c (qq rfl))) ?_
    refine a0v 7 rfl (by kernel_rfl) ?_
    refine a0p sz37 rfl hx11 rfl rfl rfl rfl (i := 0) rfl rfl rfl rfl ?_
    intro wx12 hx12
    refine a0o (hx12.sh (hF5.trans hF6) [1, 2] (by decide) rfl) ?_
    refine d_tk 8 rfl (by kernel_rfl) rfl rfl rfl rfl (hx12.sh (hF5.trans hF6) [1, 2] (by decide) rfl) (fun _ _ _ _ _ => a0b rfl rfl rfl (a0c (qq rfl))) ?_
    refine a2g (by kernel_rfl) ?_
    refine a0d (a1d ?_)
    refine a1v (vl := [.agg #[.int .i64 v4.Sign, .slice as7 ns7 cs7, .int .i64 v5.Sign, .slice as8 ns8 cs8], .int .i64 0]) rfl ⟨a2p ag37 sz37 rfl hx12 rfl (i := 0) rfl, a1z rfl, trivial⟩ (by simp) ?_
    obtain rfl := Option.some.inj hm
    exact ⟨_, _, _, rfl, hx12.pick [] (by decide) rfl, as7, ns7, cs7, as8, ns8, cs8, rfl, rfl, (hs7.mono hF6), hs8⟩
   ·clear hm
    rcases a0g hb3 with ⟨hb4, hb3⟩ | ⟨hb4, hb3⟩
    ·refine a0t 22 rfl hb4 ?_
     refine a0y rfl (a0a ?_)
     refine a0l ag37 sz37 rfl rfl hx7 rfl (i := 1) rfl rfl ?_
     refine a0p sz37 rfl hx7 rfl rfl rfl rfl (i := 2) rfl rfl rfl rfl ?_
     intro wx13 hx13
     refine a0c ?_
     refine a0n (fun a ha => ?_)
     cases hb3
     exact ⟨_, as3, ns3, cs3, as4, ns4, cs4, Frz.refl _, hx13.pick [0, 1, 2] (by decide) rfl, (((hs3.mono hF1).mono hF2).mono hF3), (((hs4.mono hF1).mono hF2).mono hF3), ha.cut (l := [3, 6]) rfl⟩
    ·refine a0t 22 rfl hb4 ?_
     refine a0s rfl (a1e ?_)
     refine a0n (fun a ha => ?_)
     cases hb3
     exact ⟨_, as1, ns1, cs1, as2, ns2, cs2, Frz.refl _, hx7.pick [0, 1, 2] (by decide) rfl, (((hs1.mono hF1).mono hF2).mono hF3), (((hs2.mono hF1).mono hF2).mono hF3), ha.cut (l := [3, 6]) rfl⟩
 ·clear hm
  rcases a0g hb1 with ⟨hb5, hb1⟩ | ⟨hb5, hb1⟩
  ·refine a1j 11 rfl hb5 ?_
   refine a0z rfl (by decide) rfl (a0z rfl (by decide) rfl (a0z rfl (by decide) rfl (a0q rfl rfl rfl rfl (a0c ?_))))
   refine a0n (fun a ha => ?_)
   cases hb1
   exact ⟨_, Frz.refl _, hx4.pick [0, 1, 2] (by decide) rfl, ha.cut (l := [2, 3, 4, 6, 15]) rfl⟩
  ·refine a1j 11 rfl hb5 ?_
   refine a0l ag37 sz37 rfl rfl hx4 rfl (i := 1) rfl rfl ?_
   obtain ⟨v6, hv5, hb1⟩ := bind_some hb1
   refine a0i ent14 rfl rfl rfl rfl hx4 (a2u _ _ _ hv5 hx4.sat (hs3.mono hF1) (hs4.mono hF1)) ?_
   rintro _ Fx7 _ wx14 hF7 hx14 ⟨rfl, rfl⟩
   refine a4g rfl rfl rfl (a0m rfl rfl rfl rfl (a0c ?_))
   refine a0n (fun a ha => ?_)
   cases hb1
   exact ⟨_, hF7, hx14.pick [0, 1, 2] (by decide) rfl, ha.cut (l := [2, 3, 4, 6, 15]) rfl⟩
theorem ent55 : Ent Tryz.prog 55 := fun _ _ => by kernel_rfl
def b4q (n : Nat) (ax1 : Frac) (b1 : Frac) : Option (Frac × Int) :=
 (a8x n ax1 b1 (-1)).bind fun v1 =>
 some (v1.1, v1.2)
set_option maxHeartbeats 1000000 in
set_option maxRecDepth 1000000 in
theorem c2g (n : Nat) (ax1 : Frac) (b1 : Frac) (r : (Frac × Int)) (hm : b4q n ax1 b1 = some r) {w : World} {F : Frz} (hs : Sat F w) {as1 : Option Addr} {ns1 : Nat} {cs1 : Nat} {as2 : Option Addr} {ns2 : Nat} {cs2 : Nat} {as3 : Option Addr} {ns3 : Nat} {cs3 : Nat} {as4 : Option Addr} {ns4 : Nat} {cs4 : Nat} (hs1 : SlR (Rp.int .i64) F as1 ns1 cs1 ax1.P.Digits) (hs2 : SlR (Rp.int .i64) F as2 ns2 cs2 ax1.Q.Digits) (hs3 : SlR (Rp.int .i64) F as3 ns3 cs3 b1.P.Digits) (hs4 : SlR (Rp.int .i64) F as4 ns4 cs4 b1.Q.Digits) :
  Calls Tryz.prog 105 #[.agg #[.int .i64 ax1.P.Sign, .slice as1 ns1 cs1, .int .i64 ax1.Q.Sign, .slice as2 ns2 cs2], .agg #[.int .i64 b1.P.Sign, .slice as3 ns3 cs3, .int .i64 b1.Q.Sign, .slice as4 ns4 cs4]] w fun e w' => ∃ v F' O', e = .returned v ∧ HS F w [] F' O' w' ∧ (∃ (a0_1 : Option Addr) (n0_1 : Nat) (c0_1 : Nat) (a0_3 : Option Addr) (n0_3 : Nat) (c0_3 : Nat), v = .tuple #[.agg #[.int .i64 r.1.P.Sign, .slice a0_1 n0_1 c0_1, .int .i64 r.1.Q.Sign, .slice a0_3 n0_3 c0_3], .int .i64 r.2] ∧ O' = [] ∧ SlR (Rp.int .i64) F' a0_1 n0_1 c0_1 r.1.P.Digits ∧ SlR (Rp.int .i64) F' a0_3 n0_3 c0_3 r.1.Q.Digits) := by
 unfold b4q at hm
 have h := HS.init hs
 refine a1a 11 Tryz.func105 rfl rfl rfl ?_
 refine a0f (a0a ?_)
 refine a2t rfl rfl rfl rfl h ?_
 intro b2 wx1 hx1
 refine a2t rfl rfl rfl rfl hx1 ?_
 intro b3 wx2 hx2
 refine a1b ze37 rfl rfl rfl hx2 ?_
 intro b4 wx3 hx3
 refine a0b rfl rfl rfl (a0c (a0d (a0f (a0a ?_))))
 refine a0l ag37 sz37 rfl rfl hx3 rfl (i := 2) rfl rfl ?_
 refine a0l ag37 sz37 rfl rfl hx3 rfl (i := 1) rfl rfl ?_
 obtain ⟨v1, hv1, hm⟩ := bind_some hm
 refine a0i ent55 rfl rfl rfl rfl hx3 (b3x _ _ _ _ _ hv1 hx3.sat hs1 hs2 hs3 hs4) ?_
 rintro _ Fx1 _ wx4 hF1 hx4 ⟨as5, ns5, cs5, as6, ns6, cs6, rfl, rfl, hs5, hs6⟩
 refine a0j rfl rfl rfl rfl (a0j rfl rfl rfl rfl ?_)
 refine a0p sz37 rfl hx4 rfl rfl rfl rfl (i := 0) rfl rfl rfl rfl ?_
 intro wx5 hx5
 refine a0b rfl rfl rfl (a0c (a0d (a1d ?_)))
 refine a1v (vl := [.agg #[.int .i64 v1.1.P.Sign, .slice as5 ns5 cs5, .int .i64 v1.1.Q.Sign, .slice as6 ns6 cs6], .int .i64 v1.2]) rfl ⟨a2p ag37 sz37 rfl hx5 rfl (i := 0) rfl, a1z rfl, trivial⟩ (by simp) ?_
 obtain rfl := Option.some.inj hm
 exact ⟨_, _, _, rfl, hx5.pick [] (by decide) rfl, as5, ns5, cs5, as6, ns6, cs6, rfl, rfl, hs5, hs6⟩
def a5x (n : Nat) (ax1 : Frac) (b1 : Frac) : Option (Frac × Int) :=
 (a8x n ax1 b1 1).bind fun v1 =>
 some (v1.1, v1.2)
set_option maxHeartbeats 1000000 in
set_option maxRecDepth 1000000 in
theorem a7a (n : Nat) (ax1 : Frac) (b1 : Frac) (r : (Frac × Int)) (hm : a5x n ax1 b1 = some r) {w : World} {F : Frz} (hs : Sat F w) {as1 : Option Addr} {ns1 : Nat} {cs1 : Nat} {as2 : Option Addr} {ns2 : Nat} {cs2 : Nat} {as3 : Option Addr} {ns3 : Nat} {cs3 : Nat} {as4 : Option Addr} {ns4 : Nat} {cs4 : Nat} (hs1 : SlR (Rp.int .i64) F as1 ns1 cs1 ax1.P.Digits) (hs2 : SlR (Rp.int .i64) F as2 ns2 cs2 ax1.Q.Digits) (hs3 : SlR (Rp.int .i64) F as3 ns3 cs3 b1.P.Digits) (hs4 : SlR (Rp.int .i64) F as4 ns4 cs4 b1.Q.Digits) :
  Calls Tryz.prog 23 #[.agg #[.int .i64 ax1.P.Sign, .slice as1 ns1 cs1, .int .i64 ax1.Q.Sign, .slice as2 ns2 cs2], .agg #[.int .i64 b1.P.Sign, .slice as3 ns3 cs3, .int .i64 b1.Q.Sign, .slice as4 ns4 cs4]] w fun e w' => ∃ v F' O', e = .returned v ∧ HS F w [] F' O' w' ∧ (∃ (a0_1 : Option Addr) (n0_1 : Nat) (c0_1 : Nat) (a0_3 : Option Addr) (n0_3 : Nat) (c0_3 : Nat), v = .tuple #[.agg #[.int .i64 r.1.P.Sign, .slice a0_1 n0_1 c0_1, .int .i64 r.1.Q.Sign, .slice a0_3 n0_3 c0_3], .int .i64 r.2] ∧ O' = [] ∧ SlR (Rp.int .i64) F' a0_1 n0_1 c0_1 r.1.P.Digits ∧ SlR (Rp.int .i64) F' a0_3 n0_3 c0_3 r.1.Q.Digits) := by
 unfold a5x at hm
 have h := HS.init hs
 refine a1a 11 Tryz.func23 rfl rfl rfl ?_
 refine a0f (a0a ?_)
 refine a2t rfl rfl rfl rfl h ?_
 intro b2 wx1 hx1
 refine a2t rfl rfl rfl rfl hx1 ?_
 intro b3 wx2 hx2
 refine a1b ze37 rfl rfl rfl hx2 ?_
 intro b4 wx3 hx3
 refine a0b rfl rfl rfl (a0c (a0d (a0f (a0a ?_))))
 refine a0l ag37 sz37 rfl rfl hx3 rfl (i := 2) rfl rfl ?_
 refine a0l ag37 sz37 rfl rfl hx3 rfl (i := 1) rfl rfl ?_
 obtain ⟨v1, hv1, hm⟩ := bind_some hm
 refine a0i ent55 rfl rfl rfl rfl hx3 (b3x _ _ _ _ _ hv1 hx3.sat hs1 hs2 hs3 hs4) ?_
 rintro _ Fx1 _ wx4 hF1 hx4 ⟨as5, ns5, cs5, as6, ns6, cs6, rfl, rfl, hs5, hs6⟩
 refine a0j rfl rfl rfl rfl (a0j rfl rfl rfl rfl ?_)
 refine a0p sz37 rfl hx4 rfl rfl rfl rfl (i := 0) rfl rfl rfl rfl ?_
 intro wx5 hx5
 refine a0b rfl rfl rfl (a0c (a0d (a1d ?_)))
 refine a1v (vl := [.agg #[.int .i64 v1.1.P.Sign, .slice as5 ns5 cs5, .int .i64 v1.1.Q.Sign, .slice as6 ns6 cs6], .int .i64 v1.2]) rfl ⟨a2p ag37 sz37 rfl hx5 rfl (i := 0) rfl, a1z rfl, trivial⟩ (by simp) ?_
 obtain rfl := Option.some.inj hm
 exact ⟨_, _, _, rfl, hx5.pick [] (by decide) rfl, as5, ns5, cs5, as6, ns6, cs6, rfl, rfl, hs5, hs6⟩
theorem fa24_3 : a6n Tryz.prog 24 3 3 := fun _ _ _ => by kernel_rfl
theorem ag22 : a9y Tryz.prog 22 false := fun _ => by kernel_rfl
theorem u22 : Tryz.prog.underlying 22 = some (.slice 24) := by kernel_rfl
theorem sz24 : a5f Tryz.prog 24 4 := fun _ => by kernel_rfl
theorem ag24 : a9y Tryz.prog 24 true := fun _ => by kernel_rfl
theorem ent60 : Ent Tryz.prog 60 := fun _ _ => by kernel_rfl
def a4z (n : Nat) (rec_ref35_size : Expr → Int → Int → Option Int) (x1 : Expr) (levels1 : Int) (kont1 : Int → Option Int) : Nat → Int → Int → Option Int
 | 0, _, _ => none
 | mx1 + 1, nx2, i1 =>
  (bif decide (i1 < (x1.Args.length : Int)) then
   some (decide (0 ≤ nx2))
  else
   some false).bind fun v1 =>
  bif v1 then
   (ix x1.Args i1).bind fun ex1 =>
   (rec_ref35_size ex1 nx2 (isub .i64 levels1 1)).bind fun v2 =>
   a4z n rec_ref35_size x1 levels1 kont1 mx1 v2 (iadd .i64 i1 1)
  else
   kont1 nx2
theorem a6u (n : Nat) (rec_ref35_size : Expr → Int → Int → Option Int) (x1 : Expr) (levels1 : Int) (kont1 : Int → Option Int) (mx1 : Nat) (nx2 : Int) (i1 : Int) : a4z n rec_ref35_size x1 levels1 kont1 (mx1 + 1) nx2 i1 =
  (bif decide (i1 < (x1.Args.length : Int)) then
   some (decide (0 ≤ nx2))
  else
   some false).bind fun v1 =>
  bif v1 then
   (ix x1.Args i1).bind fun ex1 =>
   (rec_ref35_size ex1 nx2 (isub .i64 levels1 1)).bind fun v2 =>
   a4z n rec_ref35_size x1 levels1 kont1 mx1 v2 (iadd .i64 i1 1)
  else
   kont1 nx2 := rfl
def ref35_size : Nat → Expr → Int → Int → Option Int
 | 0, _, _, _ => none
 | n + 1, x1, nx1, levels1 =>
  bif decide (levels1 < 1) then
   some (-1)
  else
   a4z n (ref35_size n) x1 levels1 (fun (nx3 : Int) =>
    some nx3) n (isub .i64 nx1 1) 0
theorem b5x (n : Nat) (x1 : Expr) (nx1 : Int) (levels1 : Int) : ref35_size (n + 1) x1 nx1 levels1 =
  bif decide (levels1 < 1) then
   some (-1)
  else
   a4z n (ref35_size n) x1 levels1 (fun (nx3 : Int) =>
    some nx3) n (isub .i64 nx1 1) 0 := rfl
set_option maxHeartbeats 1000000 in
set_option maxRecDepth 1000000 in
theorem b8t (n : Nat) : (∀ (x1 : Expr) (nx1 : Int) (levels1 : Int) (r : Int) (_ : ref35_size n x1 nx1 levels1 = some r) {w : World} {F : Frz} (_ : Sat F w) {as1 : Option Addr} {ns1 : Nat} {cs1 : Nat} (_ : SlR rp_Expr F as1 ns1 cs1 x1.Args), Calls Tryz.prog 60 #[.agg #[.int .i64 x1.Op, .int .i64 x1.N, vs x1.Name, .slice as1 ns1 cs1], .int .i64 nx1, .int .i64 levels1] w fun e w' => ∃ v F' O', e = .returned v ∧ HS F w [] F' O' w' ∧ (v = .int .i64 r ∧ O' = [])) := by
 induction n with
 | zero =>
  ·intro x1 nx1 levels1 r hm
   exact absurd (show (none : Option Int) = some r from hm) (by simp)
 | succ n ih =>
  ·intro x1 nx1 levels1 r hm w F hs as1 ns1 cs1 hs1
   rw [b5x] at hm
   have h := HS.init hs
   refine a1a 33 Tryz.func60 rfl rfl rfl ?_
   refine a0f (a0a ?_)
   refine a2t rfl rfl rfl rfl h ?_
   intro b1 wx1 hx1
   refine a0b rfl rfl rfl (a0c (a0d (a0f (a0a (a0e rfl rfl rfl ?_)))))
   refine a0u rfl rfl rfl rfl rfl ?_
   refine a0b rfl rfl rfl (a0c (a0d (a0f (a0f (a0a (a0e rfl rfl rfl ?_))))))
   refine a0u rfl rfl rfl rfl rfl ?_
   refine a0c (a0d ?_)
   rcases a0g hm with ⟨hb1, hm⟩ | ⟨hb1, hm⟩
   ·refine a0t 11 rfl hb1 ?_
    refine a0y rfl (a0f (a0a (a0b rfl rfl rfl (a0c (a0d (a1d (a0k ?_)))))))
    refine a1l rfl rfl ?_
    obtain rfl := Option.some.inj hm
    exact ⟨_, _, _, rfl, hx1.pick [] (by decide) rfl, rfl, rfl⟩
   ·refine a0t 11 rfl hb1 ?_
    refine a0s rfl (a1e (a0d (a0f (a0f (a0a (a0b rfl rfl rfl (a0c (a0d (a1g ?_)))))))))
    intro a hax4
    obtain ⟨kont1, hkont1⟩ : ∃ kont1 : Int → Option Int, kont1 = (fun (nx3 : Int) =>
       some nx3) := ⟨_, rfl⟩
    replace hm : (fun m (s : Int × Int) => a4z n (ref35_size n) x1 levels1 kont1 m s.1 s.2) n ((isub .i64 nx1 1), 0) = some r := by rw [hkont1]; exact hm
    refine a5w (id := 0) (fun m (s : Int × Int) => a4z n (ref35_size n) x1 levels1 kont1 m s.1 s.2) (fun (y : Int) => kont1 y) r (fun (s : Int × Int) a w' => ∃ (Fx1 : Frz), Frz.le F Fx1 ∧ HS F w [] Fx1 [.box b1 24 [.int .i64 x1.Op, .int .i64 x1.N, vs x1.Name, .slice as1 ns1 cs1]] w' ∧ Has 33 a [(1, .int .i64 s.1), (2, .int .i64 levels1), (3, .pointer (some ⟨b1, 0, none⟩)), (7, .int .i64 s.2)]) (fun (y : Int) a w' => ∃ (Fx2 : Frz), Frz.le F Fx2 ∧ HS F w [] Fx2 [] w' ∧ Has 33 a [(1, .int .i64 y)]) (fun _ => rfl) ?_ ?_ hm ⟨_, Frz.refl _, hx1.pick [0] (by decide) rfl, hax4.cut (l := [1, 2, 3, 7]) rfl⟩
    ·clear hm; rintro nx3 a wx2 hm ⟨Fx2, hF2, hx3, hax1⟩
     rw [hkont1] at hm
     replace hm := hm
     refine a2f (e := .exit 0) hax1 ?_
     refine a1k (a0d (a0f (a0a (a0e rfl rfl rfl (a0b rfl rfl rfl (a0c (a0d (a1d ?_))))))))
     refine a1l rfl rfl ?_
     obtain rfl := Option.some.inj hm
     exact ⟨_, _, _, rfl, hx3.pick [] (by decide) rfl, rfl, rfl⟩
    ·clear hm hkont1; intro hk1 mx1 K ihx1
     rintro ⟨nx2, i1⟩ a wx3 hm ⟨Fx1, hF1, hx2, hax2⟩
     simp only [a6u] at hm
     refine a1i hax2 ?_
     refine a0f (a0f (a0a (a0e rfl rfl rfl ?_)))
     refine a0h fa24_3 rfl rfl rfl ?_
     refine a0r ag22 rfl rfl hx2 rfl (i := 0) rfl rfl ?_
     refine a1u hs1.len u22 rfl rfl rfl ?_
     refine a0u rfl rfl rfl rfl rfl ?_
     refine a0e rfl rfl rfl ?_
     obtain ⟨v1, hb2, hm⟩ := bind_some hm
     refine a2r 3 (fun a w' => wx3 = w' ∧ Has 33 a [(1, .int .i64 nx2), (2, .int .i64 levels1), (3, .pointer (some ⟨b1, 0, none⟩)), (7, .int .i64 i1), (20, .bool v1)]) ?_ ?_
     ·rintro a wx4 ⟨rfl, hax3⟩
      refine a1f hax3 ?_
      refine a0c (a0d ?_)
      rcases a0g hm with ⟨hb3, hm⟩ | ⟨hb3, hm⟩
      ·refine a0t 20 rfl hb3 ?_
       refine a0y rfl (a1e (a0d (a0f (a1g (a0a ?_)))))
       refine a0h fa24_3 rfl rfl rfl ?_
       refine a0r ag22 rfl rfl hx2 rfl (i := 0) rfl rfl ?_
       refine a0e rfl rfl rfl ?_
       obtain ⟨ex1, he1, hm⟩ := bind_some hm
       refine a2n (r := rp_Expr) u22 sz24 rfl rfl rfl rfl (hs1.mono hF1) he1 ?_
       intro b2 o1 cs1 hf1 hr1
       obtain ⟨as2, ns2, cs2, hc1, hs2⟩ := expr_iff.1 hr1
       subst hc1
       refine a3s ag24 sz24 rfl rfl hx2 hf1 rfl rfl ?_
       refine a0e rfl rfl rfl (a0e rfl rfl rfl ?_)
       refine a0u rfl rfl rfl rfl rfl ?_
       obtain ⟨v2, hv1, hm⟩ := bind_some hm
       refine a0i ent60 rfl rfl rfl rfl hx2 (ih _ _ _ _ hv1 hx2.sat hs2) ?_
       rintro _ Fx3 _ wx5 hF3 hx4 ⟨rfl, rfl⟩
       refine a0b rfl rfl rfl (a0c (a1m (a0d (a0a (a0e rfl rfl rfl ?_)))))
       refine a0u rfl rfl rfl rfl rfl ?_
       refine a0b rfl rfl rfl (a0c ?_)
       refine a0n (fun a ha => ihx1 (v2, (iadd .i64 i1 1)) a _ hm ?_)
       exact ⟨_, (hF1.trans hF3), hx4.pick [0] (by decide) rfl, ha.cut (l := [1, 2, 3, 7]) rfl⟩
      ·refine a0t 20 rfl hb3 ?_
       refine a0s rfl (a3u (a0w (a0w ?_)))
       refine fun a ha => hk1 nx2 a _ hm ?_
       exact ⟨_, hF1, hx2.pick [] (by decide) rfl, ha.cut (l := [1]) rfl⟩
     ·clear hm
      rcases a0g hb2 with ⟨hb4, hb2⟩ | ⟨hb4, hb2⟩
      ·refine a1j 17 rfl hb4 ?_
       refine a0e rfl rfl rfl ?_
       refine a0u rfl rfl rfl rfl rfl ?_
       refine a0q rfl rfl rfl rfl (a0c ?_)
       refine a0n (fun a ha => ?_)
       cases hb2
       exact ⟨rfl, ha.cut (l := [1, 2, 3, 7, 20]) rfl⟩
      ·refine a1j 17 rfl hb4 ?_
       refine a0z rfl (by decide) rfl (a0z rfl (by decide) rfl (a0m rfl rfl rfl rfl (a0c ?_)))
       refine a0n (fun a ha => ?_)
       cases hb2
       exact ⟨rfl, ha.cut (l := [1, 2, 3, 7, 20]) rfl⟩
theorem b9t (n : Nat) (x1 : Expr) (nx1 : Int) (levels1 : Int) (r : Int) (hm : ref35_size n x1 nx1 levels1 = some r) {w : World} {F : Frz} (hs : Sat F w) {as1 : Option Addr} {ns1 : Nat} {cs1 : Nat} (hs1 : SlR rp_Expr F as1 ns1 cs1 x1.Args) :
  Calls Tryz.prog 60 #[.agg #[.int .i64 x1.Op, .int .i64 x1.N, vs x1.Name, .slice as1 ns1 cs1], .int .i64 nx1, .int .i64 levels1] w fun e w' => ∃ v F' O', e = .returned v ∧ HS F w [] F' O' w' ∧ (v = .int .i64 r ∧ O' = []) :=
 (b8t n) x1 nx1 levels1 r hm hs hs1
def a8p (n : Nat) (x1 : Expr) (nodes1 : Int) (levels1 : Int) : Option Bool :=
 (ref35_size n x1 nodes1 levels1).bind fun v1 =>
 some (decide (0 ≤ v1))
set_option maxHeartbeats 1000000 in
set_option maxRecDepth 1000000 in
theorem c1g (n : Nat) (x1 : Expr) (nodes1 : Int) (levels1 : Int) (r : Bool) (hm : a8p n x1 nodes1 levels1 = some r) {w : World} {F : Frz} (hs : Sat F w) {as1 : Option Addr} {ns1 : Nat} {cs1 : Nat} (hs1 : SlR rp_Expr F as1 ns1 cs1 x1.Args) :
  Calls Tryz.prog 31 #[.agg #[.int .i64 x1.Op, .int .i64 x1.N, vs x1.Name, .slice as1 ns1 cs1], .int .i64 nodes1, .int .i64 levels1] w fun e w' => ∃ v F' O', e = .returned v ∧ HS F w [] F' O' w' ∧ (v = .bool r ∧ O' = []) := by
 unfold a8p at hm
 have h := HS.init hs
 refine a1a 12 Tryz.func31 rfl rfl rfl ?_
 refine a0f (a0a ?_)
 refine a2t rfl rfl rfl rfl h ?_
 intro b1 wx1 hx1
 refine a0b rfl rfl rfl (a0c (a0d (a0f (a0a ?_))))
 refine a0l ag24 sz24 rfl rfl hx1 rfl (i := 0) rfl rfl ?_
 refine a0e rfl rfl rfl (a0e rfl rfl rfl ?_)
 obtain ⟨v1, hv1, hm⟩ := bind_some hm
 refine a0i ent60 rfl rfl rfl rfl hx1 (b9t _ _ _ _ _ hv1 hx1.sat hs1) ?_
 rintro _ Fx1 _ wx2 hF1 hx2 ⟨rfl, rfl⟩
 refine a0u rfl rfl rfl rfl rfl ?_
 refine a0b rfl rfl rfl (a0c (a0d (a1d ?_)))
 refine a1l rfl rfl ?_
 obtain rfl := Option.some.inj hm
 exact ⟨_, _, _, rfl, hx2.pick [] (by decide) rfl, rfl, rfl⟩
theorem ze24 : c1c Tryz.prog 24 (.agg #[.int .i64 0, .int .i64 0, vs [], .slice none 0 0]) := fun _ => by kernel_rfl
theorem ent89 : Ent Tryz.prog 89 := fun _ _ => by kernel_rfl
def a4p (n : Nat) (rec_tariff_sized : Expr → Int → Int → Option (Int × Bool)) (x1 : Expr) (levels1 : Int) (kont1 : Int → Option (Int × Bool)) : Nat → Int → Int → Option (Int × Bool)
 | 0, _, _ => none
 | mx1 + 1, i1, f1 =>
  bif decide (i1 < (x1.Args.length : Int)) then
   (ix x1.Args i1).bind fun ex1 =>
   (rec_tariff_sized ex1 (isub .i64 levels1 1) f1).bind fun v2 =>
   bif !v2.2 then
    some (v2.1, false)
   else
    a4p n rec_tariff_sized x1 levels1 kont1 mx1 (iadd .i64 i1 1) v2.1
  else
   kont1 f1
theorem a7h (n : Nat) (rec_tariff_sized : Expr → Int → Int → Option (Int × Bool)) (x1 : Expr) (levels1 : Int) (kont1 : Int → Option (Int × Bool)) (mx1 : Nat) (i1 : Int) (f1 : Int) : a4p n rec_tariff_sized x1 levels1 kont1 (mx1 + 1) i1 f1 =
  bif decide (i1 < (x1.Args.length : Int)) then
   (ix x1.Args i1).bind fun ex1 =>
   (rec_tariff_sized ex1 (isub .i64 levels1 1) f1).bind fun v2 =>
   bif !v2.2 then
    some (v2.1, false)
   else
    a4p n rec_tariff_sized x1 levels1 kont1 mx1 (iadd .i64 i1 1) v2.1
  else
   kont1 f1 := rfl
def tariff_sized : Nat → Expr → Int → Int → Option (Int × Bool)
 | 0, _, _, _ => none
 | n + 1, x1, levels1, left1 =>
  (bif decide (levels1 < 1) then
   some true
  else
   some (decide ((isub .i64 left1 1) < 0))).bind fun v1 =>
  bif v1 then
   some (isub .i64 left1 1, false)
  else
   a4p n (tariff_sized n) x1 levels1 (fun (f2 : Int) =>
    some (f2, true)) n 0 (isub .i64 left1 1)
theorem b3u (n : Nat) (x1 : Expr) (levels1 : Int) (left1 : Int) : tariff_sized (n + 1) x1 levels1 left1 =
  (bif decide (levels1 < 1) then
   some true
  else
   some (decide ((isub .i64 left1 1) < 0))).bind fun v1 =>
  bif v1 then
   some (isub .i64 left1 1, false)
  else
   a4p n (tariff_sized n) x1 levels1 (fun (f2 : Int) =>
    some (f2, true)) n 0 (isub .i64 left1 1) := rfl
set_option maxHeartbeats 1000000 in
set_option maxRecDepth 1000000 in
theorem b6i (n : Nat) : (∀ (x1 : Expr) (levels1 : Int) (left1 : Int) (r : (Int × Bool)) (_ : tariff_sized n x1 levels1 left1 = some r) {w : World} {F : Frz} (_ : Sat F w) {as1 : Option Addr} {ns1 : Nat} {cs1 : Nat} {bleft1 : Nat} (_ : SlR rp_Expr F as1 ns1 cs1 x1.Args) (_ : (OE.box bleft1 3 [.int .i64 left1]).ok w) (_ : F bleft1 = none), Calls Tryz.prog 89 #[.agg #[.int .i64 x1.Op, .int .i64 x1.N, vs x1.Name, .slice as1 ns1 cs1], .int .i64 levels1, .pointer (some ⟨bleft1, 0, none⟩)] w fun e w' => ∃ v F' cs' O', e = .returned v ∧ HS F w [bleft1] F' (.box bleft1 3 cs' :: O') w' ∧ (v = .bool r.2 ∧ cs' = [.int .i64 r.1] ∧ O' = [])) := by
 induction n with
 | zero =>
  ·intro x1 levels1 left1 r hm
   exact absurd (show (none : Option (Int × Bool)) = some r from hm) (by simp)
 | succ n ih =>
  ·intro x1 levels1 left1 r hm w F hs as1 ns1 cs1 bleft1 hs1 hbleft1 hfleft1
   rw [b3u] at hm
   have h := HS.lend hs hbleft1 hfleft1
   refine a1a 36 Tryz.func89 rfl rfl rfl ?_
   refine a0f (a0a ?_)
   refine a2t rfl rfl rfl rfl h ?_
   intro b1 wx1 hx1
   refine a0b rfl rfl rfl (a0c (a0d (a0f (a0a (a0e rfl rfl rfl ?_)))))
   refine c6s rfl rfl rfl ?_
   refine a0r ag3 rfl rfl hx1 rfl (i := 1) rfl rfl ?_
   refine a0u rfl rfl rfl rfl rfl ?_
   refine c6s rfl rfl rfl ?_
   refine a0p sz3 rfl hx1 rfl rfl rfl rfl (i := 1) rfl rfl rfl rfl ?_
   intro wx2 hx2
   refine a0c (a0d (a0f (a0f (a0a (a0e rfl rfl rfl ?_)))))
   refine a0u rfl rfl rfl rfl rfl ?_
   refine a0e rfl rfl rfl ?_
   obtain ⟨v1, hb1, hm⟩ := bind_some hm
   refine a2r 5 (fun a w' => wx2 = w' ∧ Has 36 a [(1, .int .i64 levels1), (2, .pointer (some ⟨bleft1, 0, none⟩)), (3, .pointer (some ⟨b1, 0, none⟩)), (21, .bool v1)]) ?_ ?_
   ·rintro a wx3 ⟨rfl, hax1⟩
    refine a1f hax1 ?_
    refine a0c (a0d ?_)
    rcases a0g hm with ⟨hb2, hm⟩ | ⟨hb2, hm⟩
    ·refine a0t 21 rfl hb2 ?_
     refine a0y rfl (a0f (a0a (a0b rfl rfl rfl (a0c (a0d (a1d (a0k ?_)))))))
     refine a1l rfl rfl ?_
     obtain rfl := Option.some.inj hm
     exact ⟨_, _, _, _, rfl, hx2.pick [1] (by decide) rfl, rfl, rfl, rfl⟩
    ·refine a0t 21 rfl hb2 ?_
     refine a0s rfl (a1e (a0d (a0f (a0f (a0a ?_)))))
     refine a0h fa24_3 rfl rfl rfl ?_
     refine a0r ag22 rfl rfl hx2 rfl (i := 0) rfl rfl ?_
     refine a1u hs1.len u22 rfl rfl rfl ?_
     refine a0e rfl rfl rfl (a0c (a0d (a1g ?_)))
     intro a hax4
     obtain ⟨kont1, hkont1⟩ : ∃ kont1 : Int → Option (Int × Bool), kont1 = (fun (f2 : Int) =>
       some (f2, true)) := ⟨_, rfl⟩
     replace hm : (fun m (s : Int × Int) => a4p n (tariff_sized n) x1 levels1 kont1 m s.1 s.2) n (0, (isub .i64 left1 1)) = some r := by rw [hkont1]; exact hm
     refine a5w (id := 0) (fun m (s : Int × Int) => a4p n (tariff_sized n) x1 levels1 kont1 m s.1 s.2) (fun (y : Int) => kont1 y) r (fun (s : Int × Int) a w' => ∃ (Fx1 : Frz), Frz.le F Fx1 ∧ HS F w [bleft1] Fx1 [.box bleft1 3 [.int .i64 s.2]] w' ∧ Has 36 a [(1, .int .i64 levels1), (2, .pointer (some ⟨bleft1, 0, none⟩)), (23, .slice as1 ns1 cs1), (24, .int .i64 (x1.Args.length : Int)), (25, .int .i64 s.1)]) (fun (y : Int) a w' => ∃ (Fx2 : Frz), Frz.le F Fx2 ∧ HS F w [bleft1] Fx2 [.box bleft1 3 [.int .i64 y]] w' ∧ Has 36 a []) (fun _ => rfl) ?_ ?_ hm ⟨_, Frz.refl _, hx2.pick [1] (by decide) rfl, hax4.cut (l := [1, 2, 23, 24, 25]) rfl⟩
     ·clear hm; rintro f2 a wx4 hm ⟨Fx2, hF2, hx4, hax2⟩
      rw [hkont1] at hm
      replace hm := hm
      refine a2f (e := .exit 0) hax2 ?_
      refine a1k (a0d (a0f (a0a (a0b rfl rfl rfl (a0c (a0d (a1d ?_)))))))
      refine a1l rfl rfl ?_
      obtain rfl := Option.some.inj hm
      exact ⟨_, _, _, _, rfl, hx4.pick [0] (by decide) rfl, rfl, rfl, rfl⟩
     ·clear hm hkont1; intro hk1 mx1 K ihx1
      rintro ⟨i1, f1⟩ a wx5 hm ⟨Fx1, hF1, hx3, hax3⟩
      simp only [a7h] at hm
      refine a1i hax3 ?_
      refine a0f (a0a ?_)
      refine a0u rfl rfl rfl rfl rfl ?_
      refine a0c (a0d (a0f ?_))
      rcases a0g hm with ⟨hb3, hm⟩ | ⟨hb3, hm⟩
      ·refine a0t 26 rfl hb3 ?_
       refine a0y rfl (a1e (a0d (a0f (a1g (a0f (a0a ?_))))))
       obtain ⟨ex1, he1, hm⟩ := bind_some hm
       refine a2n (r := rp_Expr) u22 sz24 rfl rfl rfl rfl (hs1.mono hF1) he1 ?_
       intro b2 o1 cs1 hf1 hr1
       obtain ⟨as2, ns2, cs2, hc1, hs2⟩ := expr_iff.1 hr1
       subst hc1
       refine a3s ag24 sz24 rfl rfl hx3 hf1 rfl rfl ?_
       refine a1b ze24 rfl rfl rfl hx3 ?_
       intro b3 wx6 hx5
       refine a0p sz24 rfl hx5 rfl rfl rfl rfl (i := 0) rfl rfl rfl rfl ?_
       intro wx7 hx6
       refine a0c (a0d (a0f (a0a ?_)))
       refine a0l ag24 sz24 rfl rfl hx6 rfl (i := 0) rfl rfl ?_
       refine a0e rfl rfl rfl ?_
       refine a0u rfl rfl rfl rfl rfl ?_
       refine a0e rfl rfl rfl ?_
       obtain ⟨v2, hv1, hm⟩ := bind_some hm
       refine c6v ent89 rfl rfl rfl rfl hx6 (i := 1) rfl (ih _ _ _ _ hv1 hx6.sat hs2 (hx6.get (i := 1) rfl) (hx6.lendable (i := 1) rfl)) ?_
       rintro _ Fx3 _ _ wx8 hF3 hx7 ⟨rfl, rfl, rfl⟩
       refine a4g rfl rfl rfl (a0c (a0d ?_))
       rcases a0g hm with ⟨hb4, hm⟩ | ⟨hb4, hm⟩
       ·refine a0t 34 rfl hb4 ?_
        refine a0y rfl (a0f (a0a (a0b rfl rfl rfl (a0c (a0d (a1d (a0x (a0k (a0k (a0x (a0k ?_)))))))))))
        refine a1l rfl rfl ?_
        obtain rfl := Option.some.inj hm
        exact ⟨_, _, _, _, rfl, hx7.pick [1] (by decide) rfl, rfl, rfl, rfl⟩
       ·refine a0t 34 rfl hb4 ?_
        refine a0s rfl (a1e (a1m (a0d (a0a ?_))))
        refine a0u rfl rfl rfl rfl rfl ?_
        refine a0e rfl rfl rfl (a0c ?_)
        refine a0n (fun a ha => ihx1 ((iadd .i64 i1 1), v2.1) a _ hm ?_)
        exact ⟨_, (hF1.trans hF3), hx7.pick [1] (by decide) rfl, ha.cut (l := [1, 2, 23, 24, 25]) rfl⟩
      ·refine a0t 26 rfl hb3 ?_
       refine a0s rfl (a3u (a0w (a0w ?_)))
       refine fun a ha => hk1 f1 a _ hm ?_
       exact ⟨_, hF1, hx3.pick [0] (by decide) rfl, ha.cut (l := []) rfl⟩
   ·clear hm
    rcases a0g hb1 with ⟨hb5, hb1⟩ | ⟨hb5, hb1⟩
    ·refine a1j 16 rfl hb5 ?_
     refine a0z rfl (by decide) rfl (a0z rfl (by decide) rfl (a0z rfl (by decide) rfl (a0z rfl (by decide) rfl (a0q rfl rfl rfl rfl (a0c ?_)))))
     refine a0n (fun a ha => ?_)
     cases hb1
     exact ⟨rfl, ha.cut (l := [1, 2, 3, 21]) rfl⟩
    ·refine a1j 16 rfl hb5 ?_
     refine a0e rfl rfl rfl ?_
     refine c6s rfl rfl rfl ?_
     refine a0r ag3 rfl rfl hx2 rfl (i := 1) rfl rfl ?_
     refine a0u rfl rfl rfl rfl rfl ?_
     refine a0m rfl rfl rfl rfl (a0c ?_)
     refine a0n (fun a ha => ?_)
     cases hb1
     exact ⟨rfl, ha.cut (l := [1, 2, 3, 21]) rfl⟩
theorem b7k (n : Nat) (x1 : Expr) (levels1 : Int) (left1 : Int) (r : (Int × Bool)) (hm : tariff_sized n x1 levels1 left1 = some r) {w : World} {F : Frz} (hs : Sat F w) {as1 : Option Addr} {ns1 : Nat} {cs1 : Nat} {bleft1 : Nat} (hs1 : SlR rp_Expr F as1 ns1 cs1 x1.Args) (hbleft1 : (OE.box bleft1 3 [.int .i64 left1]).ok w) (hfleft1 : F bleft1 = none) :
  Calls Tryz.prog 89 #[.agg #[.int .i64 x1.Op, .int .i64 x1.N, vs x1.Name, .slice as1 ns1 cs1], .int .i64 levels1, .pointer (some ⟨bleft1, 0, none⟩)] w fun e w' => ∃ v F' cs' O', e = .returned v ∧ HS F w [bleft1] F' (.box bleft1 3 cs' :: O') w' ∧ (v = .bool r.2 ∧ cs' = [.int .i64 r.1] ∧ O' = []) :=
 (b6i n) x1 levels1 left1 r hm hs hs1 hbleft1 hfleft1
theorem u27 : Tryz.prog.underlying 27 = some (.slice 9) := by kernel_rfl
theorem sz9 : a5f Tryz.prog 9 1 := fun _ => by kernel_rfl
theorem ag9 : a9y Tryz.prog 9 false := fun _ => by kernel_rfl
def a1t (n : Nat) (s1 : (List Bs)) (v1 : Bs) (kont1 : Option Int) : Nat → Int → Option Int
 | 0, _ => none
 | mx1 + 1, i1 =>
  bif decide (i1 < (s1.length : Int)) then
   (ix s1 i1).bind fun ex1 =>
   bif v1 == ex1 then
    some i1
   else
    a1t n s1 v1 kont1 mx1 (iadd .i64 i1 1)
  else
   kont1
theorem a4h (n : Nat) (s1 : (List Bs)) (v1 : Bs) (kont1 : Option Int) (mx1 : Nat) (i1 : Int) : a1t n s1 v1 kont1 (mx1 + 1) i1 =
  bif decide (i1 < (s1.length : Int)) then
   (ix s1 i1).bind fun ex1 =>
   bif v1 == ex1 then
    some i1
   else
    a1t n s1 v1 kont1 mx1 (iadd .i64 i1 1)
  else
   kont1 := rfl
def a2a (n : Nat) (s1 : (List Bs)) (v1 : Bs) : Option Int :=
 a1t n s1 v1 (
  some (-1)) n 0
set_option maxHeartbeats 1000000 in
set_option maxRecDepth 1000000 in
theorem a6i (n : Nat) (s1 : (List Bs)) (v1 : Bs) (r : Int) (hm : a2a n s1 v1 = some r) {w : World} {F : Frz} (hs : Sat F w) {as2 : Option Addr} {ns2 : Nat} {cs2 : Nat} (hs2 : SlR Rp.str F as2 ns2 cs2 s1) :
  Calls Tryz.prog 68 #[.slice as2 ns2 cs2, vs v1] w fun e w' => e = .returned (.int .i64 r) ∧ w' = w := by
 unfold a2a at hm
 have h := HS.init hs
 refine a1a 19 Tryz.func68 rfl rfl rfl ?_
 refine a0f (a0a (a0b rfl rfl rfl (a0c (a0d (a0f (a0f (a0a (a0e rfl rfl rfl ?_))))))))
 refine a1u hs2.len u27 rfl rfl rfl ?_
 refine a0e rfl rfl rfl (a0c (a0d (a1g ?_)))
 intro a hax3
 obtain ⟨kont1, hkont1⟩ : ∃ kont1 : Option Int, kont1 = (
       some (-1)) := ⟨_, rfl⟩
 replace hm : (fun m (s : Int) => a1t n s1 v1 kont1 m s) n 0 = some r := by rw [hkont1]; exact hm
 refine a5w (id := 0) (fun m (s : Int) => a1t n s1 v1 kont1 m s) (fun (y : Unit) => kont1) r (fun (s : Int) a w' => w = w' ∧ Has 19 a [(0, .slice as2 ns2 cs2), (1, vs v1), (7, .int .i64 (s1.length : Int)), (8, .int .i64 s)]) (fun (y : Unit) a w' => w = w' ∧ Has 19 a []) (fun _ => rfl) ?_ ?_ hm ⟨rfl, hax3.cut (l := [0, 1, 7, 8]) rfl⟩
 ·clear hm; rintro _u a wx1 hm ⟨rfl, hax1⟩
  rw [hkont1] at hm
  refine a2f (e := .exit 0) hax1 ?_
  refine a1k (a0d (a0f (a0a (a0b rfl rfl rfl (a0c (a0d (a1d ?_)))))))
  refine a1l rfl rfl ?_
  obtain rfl := Option.some.inj hm
  exact ⟨rfl, rfl⟩
 ·clear hm hkont1; intro hk1 mx1 K ihx1
  rintro i1 a wx2 hm ⟨rfl, hax2⟩
  simp only [a4h] at hm
  refine a1i hax2 ?_
  refine a0f (a0a ?_)
  refine a0u rfl rfl rfl rfl rfl ?_
  refine a0c (a0d (a0f ?_))
  rcases a0g hm with ⟨hb1, hm⟩ | ⟨hb1, hm⟩
  ·refine a0t 9 rfl hb1 ?_
   refine a0y rfl (a1e (a0d (a0f (a1g (a0f (a0a (a0e rfl rfl rfl (a0b rfl rfl rfl (a0c (a0d (a0f (a0a (a0e rfl rfl rfl (a0e rfl rfl rfl (a0e rfl rfl rfl ?_)))))))))))))))
   obtain ⟨ex1, he1, hm⟩ := bind_some hm
   refine a2n (r := Rp.str) u27 sz9 rfl rfl rfl rfl hs2 he1 ?_
   intro b1 o1 cs1 hf1 hr1
   have hc1 : cs1 = [vs ex1] := hr1
   subst hc1
   refine a2h (j := 0) ag9 rfl rfl h hf1 rfl rfl ?_
   refine c7z rfl rfl rfl rfl rfl ?_
   refine a0c (a0d ?_)
   rcases a0g hm with ⟨hb2, hm⟩ | ⟨hb2, hm⟩
   ·refine a0t 16 rfl hb2 ?_
    refine a0y rfl (a0f (a0a (a0e rfl rfl rfl (a0b rfl rfl rfl (a0c (a0d (a1d (a0x (a0k (a0k (a0x (a0k ?_))))))))))))
    refine a1l rfl rfl ?_
    obtain rfl := Option.some.inj hm
    exact ⟨rfl, rfl⟩
   ·refine a0t 16 rfl hb2 ?_
    refine a0s rfl (a1e (a1m (a0d (a0a ?_))))
    refine a0u rfl rfl rfl rfl rfl ?_
    refine a0e rfl rfl rfl (a0c ?_)
    refine a0n (fun a ha => ihx1 (iadd .i64 i1 1) a _ hm ?_)
    exact ⟨rfl, ha.cut (l := [0, 1, 7, 8]) rfl⟩
  ·refine a0t 9 rfl hb1 ?_
   refine a0s rfl (a3u (a0w (a0w ?_)))
   refine fun a ha => hk1 () a _ hm ?_
   exact ⟨rfl, ha.cut (l := []) rfl⟩
theorem ent68 : Ent Tryz.prog 68 := fun _ _ => by kernel_rfl
def a1n (n : Nat) (s1 : (List Bs)) (v1 : Bs) : Option Bool :=
 (a2a n s1 v1).bind fun v2 =>
 some (decide (0 ≤ v2))
set_option maxHeartbeats 1000000 in
set_option maxRecDepth 1000000 in
theorem a5v (n : Nat) (s1 : (List Bs)) (v1 : Bs) (r : Bool) (hm : a1n n s1 v1 = some r) {w : World} {F : Frz} (hs : Sat F w) {as2 : Option Addr} {ns2 : Nat} {cs2 : Nat} (hs2 : SlR Rp.str F as2 ns2 cs2 s1) :
  Calls Tryz.prog 88 #[.slice as2 ns2 cs2, vs v1] w fun e w' => e = .returned (.bool r) ∧ w' = w := by
 unfold a1n at hm
 have h := HS.init hs
 refine a1a 9 Tryz.func88 rfl rfl rfl ?_
 refine a0f (a0a (a0b rfl rfl rfl (a0c (a0d (a0f (a0a (a0e rfl rfl rfl (a0e rfl rfl rfl ?_))))))))
 obtain ⟨v2, hv1, hm⟩ := bind_some hm
 refine a3m ent68 rfl rfl rfl rfl (a6i _ _ _ _ hv1 h.sat hs2) ?_
 refine a0u rfl rfl rfl rfl rfl ?_
 refine a0b rfl rfl rfl (a0c (a0d (a1d ?_)))
 refine a1l rfl rfl ?_
 obtain rfl := Option.some.inj hm
 exact ⟨rfl, rfl⟩
theorem ent87 : Ent Tryz.prog 87 := fun _ _ => by kernel_rfl
theorem ent88 : Ent Tryz.prog 88 := fun _ _ => by kernel_rfl
def a5j (n : Nat) (l1 : (List Bs)) (kont1 : Option Bool) : Nat → Int → Option Bool
 | 0, _ => none
 | mx1 + 1, i1 =>
  bif decide (i1 < (l1.length : Int)) then
   (ix l1 i1).bind fun ex1 =>
   (a5k n ex1).bind fun v1 =>
   (bif !v1 then
    some true
   else
    (lsl l1 0 i1).bind fun l2 =>
    (a1n n l2 ex1).bind fun v3 =>
    some v3).bind fun v2 =>
   bif v2 then
    some false
   else
    a5j n l1 kont1 mx1 (iadd .i64 i1 1)
  else
   kont1
theorem a9h (n : Nat) (l1 : (List Bs)) (kont1 : Option Bool) (mx1 : Nat) (i1 : Int) : a5j n l1 kont1 (mx1 + 1) i1 =
  bif decide (i1 < (l1.length : Int)) then
   (ix l1 i1).bind fun ex1 =>
   (a5k n ex1).bind fun v1 =>
   (bif !v1 then
    some true
   else
    (lsl l1 0 i1).bind fun l2 =>
    (a1n n l2 ex1).bind fun v3 =>
    some v3).bind fun v2 =>
   bif v2 then
    some false
   else
    a5j n l1 kont1 mx1 (iadd .i64 i1 1)
  else
   kont1 := rfl
def a9m (n : Nat) (l1 : (List Bs)) : Option Bool :=
 a5j n l1 (
  some (decide ((l1.length : Int) ≤ 6))) n 0
set_option maxHeartbeats 1000000 in
set_option maxRecDepth 1000000 in
theorem b2r (n : Nat) (l1 : (List Bs)) (r : Bool) (hm : a9m n l1 = some r) {w : World} {F : Frz} (hs : Sat F w) {as1 : Option Addr} {ns1 : Nat} {cs1 : Nat} (hs1 : SlR Rp.str F as1 ns1 cs1 l1) :
  Calls Tryz.prog 49 #[.slice as1 ns1 cs1] w fun e w' => e = .returned (.bool r) ∧ w' = w := by
 unfold a9m at hm
 have h := HS.init hs
 refine a1a 26 Tryz.func49 rfl rfl rfl ?_
 refine a0f (a0a (a0b rfl rfl rfl (a0c (a0d (a0f (a0f (a0a (a0e rfl rfl rfl ?_))))))))
 refine a1u hs1.len u27 rfl rfl rfl ?_
 refine a0e rfl rfl rfl (a0c (a0d (a1g ?_)))
 intro a hax4
 obtain ⟨kont1, hkont1⟩ : ∃ kont1 : Option Bool, kont1 = (
       some (decide ((l1.length : Int) ≤ 6))) := ⟨_, rfl⟩
 replace hm : (fun m (s : Int) => a5j n l1 kont1 m s) n 0 = some r := by rw [hkont1]; exact hm
 refine a5w (id := 0) (fun m (s : Int) => a5j n l1 kont1 m s) (fun (y : Unit) => kont1) r (fun (s : Int) a w' => w = w' ∧ Has 26 a [(0, .slice as1 ns1 cs1), (5, .slice as1 ns1 cs1), (6, .int .i64 (l1.length : Int)), (7, .int .i64 s)]) (fun (y : Unit) a w' => w = w' ∧ Has 26 a [(0, .slice as1 ns1 cs1)]) (fun _ => rfl) ?_ ?_ hm ⟨rfl, hax4.cut (l := [0, 5, 6, 7]) rfl⟩
 ·clear hm; rintro _u a wx1 hm ⟨rfl, hax1⟩
  rw [hkont1] at hm
  refine a2f (e := .exit 0) hax1 ?_
  refine a1k (a0d (a0f (a0a (a0e rfl rfl rfl ?_))))
  refine a1u hs1.len u27 rfl rfl rfl ?_
  refine a0u rfl rfl rfl rfl rfl ?_
  refine a0b rfl rfl rfl (a0c (a0d (a1d ?_)))
  refine a1l rfl rfl ?_
  obtain rfl := Option.some.inj hm
  exact ⟨rfl, rfl⟩
 ·clear hm hkont1; intro hk1 mx1 K ihx1
  rintro i1 a wx2 hm ⟨rfl, hax2⟩
  simp only [a9h] at hm
  refine a1i hax2 ?_
  refine a0f (a0a ?_)
  refine a0u rfl rfl rfl rfl rfl ?_
  refine a0c (a0d (a0f ?_))
  rcases a0g hm with ⟨hb1, hm⟩ | ⟨hb1, hm⟩
  ·refine a0t 8 rfl hb1 ?_
   refine a0y rfl (a1e (a0d (a0f (a1g (a0f (a0a (a0e rfl rfl rfl ?_)))))))
   obtain ⟨ex1, he1, hm⟩ := bind_some hm
   refine a2n (r := Rp.str) u27 sz9 rfl rfl rfl rfl hs1 he1 ?_
   intro b1 o1 cs1 hf1 hr1
   have hc1 : cs1 = [vs ex1] := hr1
   subst hc1
   refine a2h (j := 0) ag9 rfl rfl h hf1 rfl rfl ?_
   refine a0b rfl rfl rfl (a0b rfl rfl rfl (a0c (a0d (a0f (a0a (a0e rfl rfl rfl ?_))))))
   obtain ⟨v1, hv1, hm⟩ := bind_some hm
   refine a3m ent87 rfl rfl rfl rfl (b1q _ _ _ hv1) ?_
   refine a4g rfl rfl rfl (a0e rfl rfl rfl ?_)
   obtain ⟨v2, hb2, hm⟩ := bind_some hm
   refine a2r 6 (fun a w' => w = w' ∧ Has 26 a [(0, .slice as1 ns1 cs1), (5, .slice as1 ns1 cs1), (6, .int .i64 (l1.length : Int)), (7, .int .i64 i1), (21, .bool v2)]) ?_ ?_
   ·rintro a wx3 ⟨rfl, hax3⟩
    refine a1f hax3 ?_
    refine a0c (a0d ?_)
    rcases a0g hm with ⟨hb3, hm⟩ | ⟨hb3, hm⟩
    ·refine a0t 21 rfl hb3 ?_
     refine a0y rfl (a0f (a0a (a0b rfl rfl rfl (a0c (a0d (a1d (a0x (a0k (a0k (a0x (a0k ?_)))))))))))
     refine a1l rfl rfl ?_
     obtain rfl := Option.some.inj hm
     exact ⟨rfl, rfl⟩
    ·refine a0t 21 rfl hb3 ?_
     refine a0s rfl (a1e (a1m (a0d (a0a ?_))))
     refine a0u rfl rfl rfl rfl rfl ?_
     refine a0e rfl rfl rfl (a0c ?_)
     refine a0n (fun a ha => ihx1 (iadd .i64 i1 1) a _ hm ?_)
     exact ⟨rfl, ha.cut (l := [0, 5, 6, 7]) rfl⟩
   ·clear hm
    rcases a0g hb2 with ⟨hb4, hb2⟩ | ⟨hb4, hb2⟩
    ·refine a1j 15 rfl hb4 ?_
     refine a0z rfl (by decide) rfl (a0z rfl (by decide) rfl (a0z rfl (by decide) rfl (a0z rfl (by decide) rfl (a0z rfl (by decide) rfl (a0q rfl rfl rfl rfl (a0c ?_))))))
     refine a0n (fun a ha => ?_)
     cases hb2
     exact ⟨rfl, ha.cut (l := [0, 5, 6, 7, 21]) rfl⟩
    ·refine a1j 15 rfl hb4 ?_
     refine a0e rfl rfl rfl (a0e rfl rfl rfl ?_)
     obtain ⟨l2, hc2, hb2⟩ := bind_some hb2
     refine c6b u27 (r := Rp.str) sz9 rfl rfl rfl rfl hs1 hc2 ?_
     intro as2 ns2 cs2 hs2
     refine a0e rfl rfl rfl ?_
     obtain ⟨v3, hv2, hb2⟩ := bind_some hb2
     refine a3m ent88 rfl rfl rfl rfl (a5v _ _ _ _ hv2 h.sat hs2) ?_
     refine a0m rfl rfl rfl rfl (a0c ?_)
     refine a0n (fun a ha => ?_)
     cases hb2
     exact ⟨rfl, ha.cut (l := [0, 5, 6, 7, 21]) rfl⟩
  ·refine a0t 8 rfl hb1 ?_
   refine a0s rfl (a3u (a0w (a0w ?_)))
   refine fun a ha => hk1 () a _ hm ?_
   exact ⟨rfl, ha.cut (l := [0]) rfl⟩
def a2j (_n : Nat) (ax1 : Int) (b1 : Int) : Option (Int × Int) :=
 (bif ax1 == 0 then
  some true
 else
  some (b1 == 0)).bind fun v1 =>
 bif v1 then
  some (0, 13)
 else
  (bif ax1 == 2 then
   some true
  else
   some (b1 == 2)).bind fun v2 =>
  bif v2 then
   some (2, 0)
  else
   some (1, 0)
set_option maxHeartbeats 1000000 in
set_option maxRecDepth 1000000 in
theorem a9i (n : Nat) (ax1 : Int) (b1 : Int) (r : (Int × Int)) (hm : a2j n ax1 b1 = some r) {w : World}  :
  Calls Tryz.prog 92 #[.int .i64 ax1, .int .i64 b1] w fun e w' => e = .returned (.tuple #[.int .i64 r.1, .int .i64 r.2]) ∧ w' = w := by
 unfold a2j at hm
 refine a1a 20 Tryz.func92 rfl rfl rfl ?_
 refine a0f (a0a (a0b rfl rfl rfl (a0b rfl rfl rfl (a0c (a0d (a0f (a1g (a0f (a0a (a0e rfl rfl rfl ?_))))))))))
 refine a0u rfl rfl rfl rfl rfl ?_
 refine a0e rfl rfl rfl ?_
 obtain ⟨v1, hb1, hm⟩ := bind_some hm
 refine a2r 3 (fun a w' => w = w' ∧ Has 20 a [(0, .int .i64 ax1), (1, .int .i64 b1), (12, .bool v1)]) ?_ ?_
 ·rintro a wx1 ⟨rfl, hax1⟩
  refine a1f hax1 ?_
  refine a0b rfl rfl rfl (a0c (a0d ?_))
  rcases a0g hm with ⟨hb2, hm⟩ | ⟨hb2, hm⟩
  ·refine a0t 6 rfl hb2 ?_
   refine a0y rfl (a0f (a0a (a0b rfl rfl rfl (a0b rfl rfl rfl (a0c (a0d (a1d (a0x (a0k ?_)))))))))
   refine a1v (vl := [.int .i64 0, .int .i64 13]) rfl ⟨a1z rfl, a1z rfl, trivial⟩ (by simp) ?_
   obtain rfl := Option.some.inj hm
   exact ⟨rfl, rfl⟩
  ·refine a0t 6 rfl hb2 ?_
   refine a0s rfl (a0f (a0a (a0e rfl rfl rfl ?_)))
   refine a0u rfl rfl rfl rfl rfl ?_
   refine a0e rfl rfl rfl ?_
   obtain ⟨v2, hb3, hm⟩ := bind_some hm
   refine a2r 3 (fun a w' => w = w' ∧ Has 20 a [(19, .bool v2)]) ?_ ?_
   ·rintro a wx2 ⟨rfl, hax2⟩
    refine a1f hax2 ?_
    refine a0b rfl rfl rfl (a0c (a0d ?_))
    rcases a0g hm with ⟨hb4, hm⟩ | ⟨hb4, hm⟩
    ·refine a0t 13 rfl hb4 ?_
     refine a0y rfl (a0f (a0a (a0b rfl rfl rfl (a0b rfl rfl rfl (a0c (a0d (a1d (a0x (a0k ?_)))))))))
     refine a1v (vl := [.int .i64 2, .int .i64 0]) rfl ⟨a1z rfl, a1z rfl, trivial⟩ (by simp) ?_
     obtain rfl := Option.some.inj hm
     exact ⟨rfl, rfl⟩
    ·refine a0t 13 rfl hb4 ?_
     refine a0s rfl (a1e (a1m (a0d (a0f (a0a (a0b rfl rfl rfl (a0b rfl rfl rfl (a0c (a0d (a1d ?_))))))))))
     refine a1v (vl := [.int .i64 1, .int .i64 0]) rfl ⟨a1z rfl, a1z rfl, trivial⟩ (by simp) ?_
     obtain rfl := Option.some.inj hm
     exact ⟨rfl, rfl⟩
   ·clear hm
    rcases a0g hb3 with ⟨hb5, hb3⟩ | ⟨hb5, hb3⟩
    ·refine a1j 16 rfl hb5 ?_
     refine a0z rfl (by decide) rfl (a0z rfl (by decide) rfl (a0q rfl rfl rfl rfl (a0c ?_)))
     refine a0n (fun a ha => ?_)
     cases hb3
     exact ⟨rfl, ha.cut (l := [19]) rfl⟩
    ·refine a1j 16 rfl hb5 ?_
     refine a0e rfl rfl rfl ?_
     refine a0u rfl rfl rfl rfl rfl ?_
     refine a0m rfl rfl rfl rfl (a0c ?_)
     refine a0n (fun a ha => ?_)
     cases hb3
     exact ⟨rfl, ha.cut (l := [19]) rfl⟩
 ·clear hm
  rcases a0g hb1 with ⟨hb6, hb1⟩ | ⟨hb6, hb1⟩
  ·refine a1j 9 rfl hb6 ?_
   refine a0z rfl (by decide) rfl (a0z rfl (by decide) rfl (a0q rfl rfl rfl rfl (a0c ?_)))
   refine a0n (fun a ha => ?_)
   cases hb1
   exact ⟨rfl, ha.cut (l := [0, 1, 12]) rfl⟩
  ·refine a1j 9 rfl hb6 ?_
   refine a0e rfl rfl rfl ?_
   refine a0u rfl rfl rfl rfl rfl ?_
   refine a0m rfl rfl rfl rfl (a0c ?_)
   refine a0n (fun a ha => ?_)
   cases hb1
   exact ⟨rfl, ha.cut (l := [0, 1, 12]) rfl⟩
def a9f (_n : Nat) (op1 : Int) : Option Int :=
 bif decide (op1 ≤ 4) then
  some 0
 else
  bif op1 == 14 then
   some 1
  else
   bif op1 == 11 then
    some 3
   else
    some 2
set_option maxHeartbeats 1000000 in
set_option maxRecDepth 1000000 in
theorem b8i (n : Nat) (op1 : Int) (r : Int) (hm : a9f n op1 = some r) {w : World}  :
  Calls Tryz.prog 128 #[.int .i64 op1] w fun e w' => e = .returned (.int .i64 r) ∧ w' = w := by
 unfold a9f at hm
 refine a1a 12 Tryz.func128 rfl rfl rfl ?_
 refine a0f (a0a (a0b rfl rfl rfl (a0c (a0d (a0f (a1g (a0f (a0a (a0e rfl rfl rfl ?_)))))))))
 refine a0u rfl rfl rfl rfl rfl ?_
 refine a0b rfl rfl rfl (a0c (a0d ?_))
 rcases a0g hm with ⟨hb1, hm⟩ | ⟨hb1, hm⟩
 ·refine a0t 3 rfl hb1 ?_
  refine a0y rfl (a0f (a0a (a0b rfl rfl rfl (a0c (a0d (a1d (a0x (a0k ?_))))))))
  refine a1l rfl rfl ?_
  obtain rfl := Option.some.inj hm
  exact ⟨rfl, rfl⟩
 ·refine a0t 3 rfl hb1 ?_
  refine a0s rfl (a0f (a0a (a0e rfl rfl rfl ?_)))
  refine a0u rfl rfl rfl rfl rfl ?_
  refine a0b rfl rfl rfl (a0c (a0d ?_))
  rcases a0g hm with ⟨hb2, hm⟩ | ⟨hb2, hm⟩
  ·refine a0t 6 rfl hb2 ?_
   refine a0y rfl (a0f (a0a (a0b rfl rfl rfl (a0c (a0d (a1d (a0x (a0k ?_))))))))
   refine a1l rfl rfl ?_
   obtain rfl := Option.some.inj hm
   exact ⟨rfl, rfl⟩
  ·refine a0t 6 rfl hb2 ?_
   refine a0s rfl (a0f (a0a (a0e rfl rfl rfl ?_)))
   refine a0u rfl rfl rfl rfl rfl ?_
   refine a0b rfl rfl rfl (a0c (a0d ?_))
   rcases a0g hm with ⟨hb3, hm⟩ | ⟨hb3, hm⟩
   ·refine a0t 9 rfl hb3 ?_
    refine a0y rfl (a0f (a0a (a0b rfl rfl rfl (a0c (a0d (a1d (a0x (a0k ?_))))))))
    refine a1l rfl rfl ?_
    obtain rfl := Option.some.inj hm
    exact ⟨rfl, rfl⟩
   ·refine a0t 9 rfl hb3 ?_
    refine a0s rfl (a1e (a1m (a0d (a0f (a0a (a0b rfl rfl rfl (a0c (a0d (a1d ?_)))))))))
    refine a1l rfl rfl ?_
    obtain rfl := Option.some.inj hm
    exact ⟨rfl, rfl⟩
def b0x (_n : Nat) (nx1 : Int) (cap1 : Int) : Option Bool :=
 some (nx1 != cap1)
set_option maxHeartbeats 1000000 in
set_option maxRecDepth 1000000 in
theorem b7a (n : Nat) (nx1 : Int) (cap1 : Int) (r : Bool) (hm : b0x n nx1 cap1 = some r) {w : World} {F : Frz} (hs : Sat F w) {bcap1 : Nat} (hccap1 : FC F bcap1 0 [.int .i64 cap1]) :
  Calls Tryz.prog 131 #[.int .i64 nx1, .pointer (some ⟨bcap1, 0, none⟩)] w fun e w' => e = .returned (.bool r) ∧ w' = w := by
 unfold b0x at hm
 have h := HS.init hs
 refine a1a 7 Tryz.func131 rfl rfl rfl ?_
 refine a0f (a0a (a0b rfl rfl rfl (a0c (a0d (a0f (a0a (a0e rfl rfl rfl ?_)))))))
 refine a2h (j := 0) ag3 rfl rfl h hccap1 rfl rfl ?_
 refine a0u rfl rfl rfl rfl rfl ?_
 refine a0b rfl rfl rfl (a0c (a0d (a1d ?_)))
 refine a1l rfl rfl ?_
 obtain rfl := Option.some.inj hm
 exact ⟨rfl, rfl⟩
def a2e (n : Nat) (s1 : (List Int)) (f1 : (Int → Option Bool)) (kont1 : Option Int) : Nat → Int → Option Int
 | 0, _ => none
 | mx1 + 1, i1 =>
  bif decide (i1 < (s1.length : Int)) then
   (ix s1 i1).bind fun ex1 =>
   (f1 ex1).bind fun v1 =>
   bif v1 then
    some i1
   else
    a2e n s1 f1 kont1 mx1 (iadd .i64 i1 1)
  else
   kont1
theorem a4u (n : Nat) (s1 : (List Int)) (f1 : (Int → Option Bool)) (kont1 : Option Int) (mx1 : Nat) (i1 : Int) : a2e n s1 f1 kont1 (mx1 + 1) i1 =
  bif decide (i1 < (s1.length : Int)) then
   (ix s1 i1).bind fun ex1 =>
   (f1 ex1).bind fun v1 =>
   bif v1 then
    some i1
   else
    a2e n s1 f1 kont1 mx1 (iadd .i64 i1 1)
  else
   kont1 := rfl
def a4t (n : Nat) (s1 : (List Int)) (f1 : (Int → Option Bool)) : Option Int :=
 a2e n s1 f1 (
  some (-1)) n 0
set_option maxHeartbeats 1000000 in
set_option maxRecDepth 1000000 in
theorem b0j (n : Nat) (s1 : (List Int)) (f1 : (Int → Option Bool)) (r : Int) (hm : a4t n s1 f1 = some r) {w : World} {F : Frz} (hs : Sat F w) {as2 : Option Addr} {ns2 : Nat} {cs2 : Nat} {fvf1 : Value} (hs2 : SlR (Rp.int .i64) F as2 ns2 cs2 s1) (hpff1 : GFn Tryz.prog F fvf1 (fun _ l v => ∃ (q0 : Int) (b : Bool), l = [.int .i64 q0] ∧ v = some (.bool b) ∧ f1 q0 = some b)) :
  Calls Tryz.prog 103 #[.slice as2 ns2 cs2, fvf1] w fun e w' => ∃ v F' O', e = .returned v ∧ HS F w [] F' O' w' ∧ (v = .int .i64 r ∧ O' = []) := by
 unfold a4t at hm
 have h := HS.init hs
 refine a1a 19 Tryz.func103 rfl rfl rfl ?_
 refine a0f (a0a (a0b rfl rfl rfl (a0c (a0d (a0f (a0f (a0a (a0e rfl rfl rfl ?_))))))))
 refine a1u hs2.len u28 rfl rfl rfl ?_
 refine a0e rfl rfl rfl (a0c (a0d (a1g ?_)))
 intro a hax3
 obtain ⟨kont1, hkont1⟩ : ∃ kont1 : Option Int, kont1 = (
       some (-1)) := ⟨_, rfl⟩
 replace hm : (fun m (s : Int) => a2e n s1 f1 kont1 m s) n 0 = some r := by rw [hkont1]; exact hm
 refine a5w (id := 0) (fun m (s : Int) => a2e n s1 f1 kont1 m s) (fun (y : Unit) => kont1) r (fun (s : Int) a w' => ∃ (Fx1 : Frz), Frz.le F Fx1 ∧ HS F w [] Fx1 [] w' ∧ Has 19 a [(0, .slice as2 ns2 cs2), (1, fvf1), (7, .int .i64 (s1.length : Int)), (8, .int .i64 s)]) (fun (y : Unit) a w' => ∃ (Fx2 : Frz), Frz.le F Fx2 ∧ HS F w [] Fx2 [] w' ∧ Has 19 a []) (fun _ => rfl) ?_ ?_ hm ⟨_, Frz.refl _, h.pick [] (by decide) rfl, hax3.cut (l := [0, 1, 7, 8]) rfl⟩
 ·clear hm; rintro _u a wx1 hm ⟨Fx2, hF2, hx2, hax1⟩
  rw [hkont1] at hm
  refine a2f (e := .exit 0) hax1 ?_
  refine a1k (a0d (a0f (a0a (a0b rfl rfl rfl (a0c (a0d (a1d ?_)))))))
  refine a1l rfl rfl ?_
  obtain rfl := Option.some.inj hm
  exact ⟨_, _, _, rfl, hx2.pick [] (by decide) rfl, rfl, rfl⟩
 ·clear hm hkont1; intro hk1 mx1 K ihx1
  rintro i1 a wx2 hm ⟨Fx1, hF1, hx1, hax2⟩
  simp only [a4u] at hm
  refine a1i hax2 ?_
  refine a0f (a0a ?_)
  refine a0u rfl rfl rfl rfl rfl ?_
  refine a0c (a0d (a0f ?_))
  rcases a0g hm with ⟨hb1, hm⟩ | ⟨hb1, hm⟩
  ·refine a0t 9 rfl hb1 ?_
   refine a0y rfl (a1e (a0d (a0f (a1g (a0f (a0a (a0e rfl rfl rfl (a0b rfl rfl rfl (a0c (a0d (a0f (a0a (a0e rfl rfl rfl (a0e rfl rfl rfl (a0e rfl rfl rfl ?_)))))))))))))))
   obtain ⟨ex1, he1, hm⟩ := bind_some hm
   refine a2n (r := (Rp.int .i64)) u28 sz3 rfl rfl rfl rfl (hs2.mono hF1) he1 ?_
   intro b1 o1 cs1 hf1 hr1
   have hc1 : cs1 = [.int .i64 ex1] := hr1
   subst hc1
   refine a2h (j := 0) ag3 rfl rfl hx1 hf1 rfl rfl ?_
   obtain ⟨v1, hv1, hm⟩ := bind_some hm
   refine b9p (hpff1.mono hF1) rfl rfl rfl rfl hx1 ⟨_, _, rfl, rfl, hv1⟩ ?_
   intro Fx3 wx3 hF3 hx3
   refine a0c (a0d ?_)
   rcases a0g hm with ⟨hb2, hm⟩ | ⟨hb2, hm⟩
   ·refine a0t 16 rfl hb2 ?_
    refine a0y rfl (a0f (a0a (a0e rfl rfl rfl (a0b rfl rfl rfl (a0c (a0d (a1d (a0x (a0k (a0k (a0x (a0k ?_))))))))))))
    refine a1l rfl rfl ?_
    obtain rfl := Option.some.inj hm
    exact ⟨_, _, _, rfl, hx3.pick [] (by decide) rfl, rfl, rfl⟩
   ·refine a0t 16 rfl hb2 ?_
    refine a0s rfl (a1e (a1m (a0d (a0a ?_))))
    refine a0u rfl rfl rfl rfl rfl ?_
    refine a0e rfl rfl rfl (a0c ?_)
    refine a0n (fun a ha => ihx1 (iadd .i64 i1 1) a _ hm ?_)
    exact ⟨_, (hF1.trans hF3), hx3.pick [] (by decide) rfl, ha.cut (l := [0, 1, 7, 8]) rfl⟩
  ·refine a0t 9 rfl hb1 ?_
   refine a0s rfl (a3u (a0w (a0w ?_)))
   refine fun a ha => hk1 () a _ hm ?_
   exact ⟨_, hF1, hx1.pick [] (by decide) rfl, ha.cut (l := []) rfl⟩
theorem ent103 : Ent Tryz.prog 103 := fun _ _ => by kernel_rfl
def a2w (n : Nat) (s1 : (List Int)) (f1 : (Int → Option Bool)) : Option Bool :=
 (a4t n s1 f1).bind fun v1 =>
 some (decide (0 ≤ v1))
set_option maxHeartbeats 1000000 in
set_option maxRecDepth 1000000 in
theorem a6b (n : Nat) (s1 : (List Int)) (f1 : (Int → Option Bool)) (r : Bool) (hm : a2w n s1 f1 = some r) {w : World} {F : Frz} (hs : Sat F w) {as2 : Option Addr} {ns2 : Nat} {cs2 : Nat} {fvf1 : Value} (hs2 : SlR (Rp.int .i64) F as2 ns2 cs2 s1) (hpff1 : GFn Tryz.prog F fvf1 (fun _ l v => ∃ (q0 : Int) (b : Bool), l = [.int .i64 q0] ∧ v = some (.bool b) ∧ f1 q0 = some b)) :
  Calls Tryz.prog 65 #[.slice as2 ns2 cs2, fvf1] w fun e w' => ∃ v F' O', e = .returned v ∧ HS F w [] F' O' w' ∧ (v = .bool r ∧ O' = []) := by
 unfold a2w at hm
 have h := HS.init hs
 refine a1a 9 Tryz.func65 rfl rfl rfl ?_
 refine a0f (a0a (a0b rfl rfl rfl (a0c (a0d (a0f (a0a (a0e rfl rfl rfl (a0e rfl rfl rfl ?_))))))))
 obtain ⟨v1, hv1, hm⟩ := bind_some hm
 refine a0i ent103 rfl rfl rfl rfl h (b0j _ _ _ _ hv1 h.sat hs2 hpff1) ?_
 rintro _ Fx1 _ wx1 hF1 hx1 ⟨rfl, rfl⟩
 refine a0u rfl rfl rfl rfl rfl ?_
 refine a0b rfl rfl rfl (a0c (a0d (a1d ?_)))
 refine a1l rfl rfl ?_
 obtain rfl := Option.some.inj hm
 exact ⟨_, _, _, rfl, hx1.pick [] (by decide) rfl, rfl, rfl⟩
theorem ent131 : Ent Tryz.prog 131 := fun _ _ => by kernel_rfl
theorem ent65 : Ent Tryz.prog 65 := fun _ _ => by kernel_rfl
def a4r (n : Nat) (k1 : Int) (l1 : (List Int)) (want1 : Int) : Option (Int × Int) :=
 (a2w n l1 (fun (q0 : Int) => b0x n q0 want1)).bind fun v1 =>
 bif v1 then
  some (0, 13)
 else
  some (k1, 0)
set_option maxHeartbeats 1000000 in
set_option maxRecDepth 1000000 in
theorem b5e (n : Nat) (k1 : Int) (l1 : (List Int)) (want1 : Int) (r : (Int × Int)) (hm : a4r n k1 l1 want1 = some r) {w : World} {F : Frz} (hs : Sat F w) {as1 : Option Addr} {ns1 : Nat} {cs1 : Nat} (hs1 : SlR (Rp.int .i64) F as1 ns1 cs1 l1) :
  Calls Tryz.prog 91 #[.int .i64 k1, .slice as1 ns1 cs1, .int .i64 want1] w fun e w' => ∃ v F' O', e = .returned v ∧ HS F w [] F' O' w' ∧ (v = .tuple #[.int .i64 r.1, .int .i64 r.2] ∧ O' = []) := by
 unfold a4r at hm
 have h := HS.init hs
 refine a1a 12 Tryz.func91 rfl rfl rfl ?_
 refine a0f (a0a ?_)
 refine a2t rfl rfl rfl rfl h ?_
 intro b1 wx1 hx1
 refine a0b rfl rfl rfl (a0b rfl rfl rfl (a0c (a0d (a0f (a0f (a0a (a0e rfl rfl rfl ?_)))))))
 obtain ⟨Fx1, hF1, hx2, hc1⟩ := c5o hx1 (i := 0) rfl
 refine c4d rfl rfl rfl ?_
 obtain ⟨v1, hv1, hm⟩ := bind_some hm
 refine a0i ent65 rfl rfl rfl rfl hx2 (a6b _ _ _ _ hv1 hx2.sat (hs1.mono hF1) (show GFn Tryz.prog _ (.func (.func 131) #[] #[.pointer (some ⟨b1, 0, none⟩)]) (fun _ l v => ∃ (q0 : Int) (b : Bool), l = [.int .i64 q0] ∧ v = some (.bool b) ∧ (fun (q0 : Int) => b0x n q0 want1) q0 = some b) from ⟨131, #[.pointer (some ⟨b1, 0, none⟩)], rfl, ent131, fun F' hF' args r w hsat h => by
                               obtain ⟨q0, b, rfl, hv, hb⟩ := h
                               obtain rfl := Option.some.inj hv
                               exact (b7a n q0 want1 _ hb hsat (FC.mono hF' hc1)).mono (by rintro _ _ ⟨rfl, rfl⟩; exact ⟨_, F', [], rfl, HS.init hsat, rfl, rfl⟩)⟩)) ?_
 rintro _ Fx2 _ wx2 hF2 hx3 ⟨rfl, rfl⟩
 refine a0c (a0d ?_)
 rcases a0g hm with ⟨hb1, hm⟩ | ⟨hb1, hm⟩
 ·refine a0t 10 rfl hb1 ?_
  refine a0y rfl (a0f (a0a (a0b rfl rfl rfl (a0b rfl rfl rfl (a0c (a0d (a1d (a0k ?_))))))))
  refine a1v (vl := [.int .i64 0, .int .i64 13]) rfl ⟨a1z rfl, a1z rfl, trivial⟩ (by simp) ?_
  obtain rfl := Option.some.inj hm
  exact ⟨_, _, _, rfl, hx3.pick [] (by decide) rfl, rfl, rfl⟩
 ·refine a0t 10 rfl hb1 ?_
  refine a0s rfl (a1e (a0d (a0f (a0a (a0e rfl rfl rfl (a0b rfl rfl rfl (a0b rfl rfl rfl (a0c (a0d (a1d ?_))))))))))
  refine a1v (vl := [.int .i64 k1, .int .i64 0]) rfl ⟨a1z rfl, a1z rfl, trivial⟩ (by simp) ?_
  obtain rfl := Option.some.inj hm
  exact ⟨_, _, _, rfl, hx3.pick [] (by decide) rfl, rfl, rfl⟩
theorem fa24_0 : a6n Tryz.prog 24 0 0 := fun _ _ _ => by kernel_rfl
theorem fa24_2 : a6n Tryz.prog 24 2 2 := fun _ _ _ => by kernel_rfl
theorem ent91 : Ent Tryz.prog 91 := fun _ _ => by kernel_rfl
theorem ent92 : Ent Tryz.prog 92 := fun _ _ => by kernel_rfl
theorem fa24_1 : a6n Tryz.prog 24 1 1 := fun _ _ _ => by kernel_rfl
theorem ent51 : Ent Tryz.prog 51 := fun _ _ => by kernel_rfl
def a3a (n : Nat) (rec_tariff_typed : Expr → (List Bs) → Option (Int × Int)) (x1 : Expr) (names1 : (List Bs)) (kont1 : (List Int) → Option (Int × Int)) : Nat → Int → (List Int) → Option (Int × Int)
 | 0, _, _ => none
 | mx1 + 1, i1, l1 =>
  bif decide (i1 < (x1.Args.length : Int)) then
   (ix x1.Args i1).bind fun ex13 =>
   (rec_tariff_typed ex13 names1).bind fun v13 =>
   bif v13.2 != 0 then
    some (0, v13.2)
   else
    (app 8 l1 [v13.1]).bind fun l3 =>
    a3a n rec_tariff_typed x1 names1 kont1 mx1 (iadd .i64 i1 1) l3
  else
   kont1 l1
theorem a7g (n : Nat) (rec_tariff_typed : Expr → (List Bs) → Option (Int × Int)) (x1 : Expr) (names1 : (List Bs)) (kont1 : (List Int) → Option (Int × Int)) (mx1 : Nat) (i1 : Int) (l1 : List Int) : a3a n rec_tariff_typed x1 names1 kont1 (mx1 + 1) i1 l1 =
  bif decide (i1 < (x1.Args.length : Int)) then
   (ix x1.Args i1).bind fun ex13 =>
   (rec_tariff_typed ex13 names1).bind fun v13 =>
   bif v13.2 != 0 then
    some (0, v13.2)
   else
    (app 8 l1 [v13.1]).bind fun l3 =>
    a3a n rec_tariff_typed x1 names1 kont1 mx1 (iadd .i64 i1 1) l3
  else
   kont1 l1 := rfl
def tariff_typed : Nat → Expr → (List Bs) → Option (Int × Int)
 | 0, _, _ => none
 | n + 1, x1, names1 =>
  a3a n (tariff_typed n) x1 names1 (fun (l2 : List Int) =>
   (bif x1.Op == 1 then
    some true
   else
    some (x1.Op == 4)).bind fun v1 =>
   bif v1 then
    (a1n n names1 x1.Name).bind fun v2 =>
    bif !v2 then
     some (0, 11)
    else
     bif x1.Op == 4 then
      some (2, 0)
     else
      some (1, 0)
   else
    (bif x1.Op == 0 then
     some true
    else
     bif x1.Op == 2 then
      some true
     else
      some (x1.Op == 3)).bind fun v3 =>
    bif v3 then
     some (1, 0)
    else
     (bif x1.Op == 12 then
      some true
     else
      some (x1.Op == 13)).bind fun v4 =>
     bif v4 then
      (a4r n 0 l2 1).bind fun v5 =>
      some (v5.1, v5.2)
     else
      (bif x1.Op == 14 then
       some true
      else
       bif x1.Op == 15 then
        some true
       else
        some (x1.Op == 16)).bind fun v6 =>
      bif v6 then
       (a4r n 0 l2 0).bind fun v7 =>
       some (v7.1, v7.2)
      else
       bif x1.Op == 11 then
        (ix l2 0).bind fun ex1 =>
        bif ex1 != 0 then
         some (0, 13)
        else
         (ix l2 1).bind fun ex2 =>
         (ix l2 2).bind fun ex3 =>
         (a2j n ex2 ex3).bind fun v8 =>
         some (v8.1, v8.2)
       else
        bif x1.Op == 7 then
         (ix l2 0).bind fun ex4 =>
         (bif ex4 == 2 then
          (ix l2 1).bind fun ex7 =>
          some (ex7 == 2)
         else
          some false).bind fun v9 =>
         bif v9 then
          some (0, 13)
         else
          (ix l2 0).bind fun ex5 =>
          (ix l2 1).bind fun ex6 =>
          (a2j n ex5 ex6).bind fun v10 =>
          some (v10.1, v10.2)
        else
         bif x1.Op == 8 then
          (ix x1.Args 1).bind fun ex8 =>
          bif ex8.Op != 0 then
           some (0, 13)
          else
           bif ex8.N == 0 then
            some (0, 14)
           else
            (ix l2 0).bind fun ex9 =>
            (ix l2 1).bind fun ex10 =>
            (a2j n ex9 ex10).bind fun v11 =>
            some (v11.1, v11.2)
         else
          (ix l2 0).bind fun ex11 =>
          (ix l2 1).bind fun ex12 =>
          (a2j n ex11 ex12).bind fun v12 =>
          some (v12.1, v12.2)) n 0 ([] : List Int)
theorem b8j (n : Nat) (x1 : Expr) (names1 : (List Bs)) : tariff_typed (n + 1) x1 names1 =
  a3a n (tariff_typed n) x1 names1 (fun (l2 : List Int) =>
   (bif x1.Op == 1 then
    some true
   else
    some (x1.Op == 4)).bind fun v1 =>
   bif v1 then
    (a1n n names1 x1.Name).bind fun v2 =>
    bif !v2 then
     some (0, 11)
    else
     bif x1.Op == 4 then
      some (2, 0)
     else
      some (1, 0)
   else
    (bif x1.Op == 0 then
     some true
    else
     bif x1.Op == 2 then
      some true
     else
      some (x1.Op == 3)).bind fun v3 =>
    bif v3 then
     some (1, 0)
    else
     (bif x1.Op == 12 then
      some true
     else
      some (x1.Op == 13)).bind fun v4 =>
     bif v4 then
      (a4r n 0 l2 1).bind fun v5 =>
      some (v5.1, v5.2)
     else
      (bif x1.Op == 14 then
       some true
      else
       bif x1.Op == 15 then
        some true
       else
        some (x1.Op == 16)).bind fun v6 =>
      bif v6 then
       (a4r n 0 l2 0).bind fun v7 =>
       some (v7.1, v7.2)
      else
       bif x1.Op == 11 then
        (ix l2 0).bind fun ex1 =>
        bif ex1 != 0 then
         some (0, 13)
        else
         (ix l2 1).bind fun ex2 =>
         (ix l2 2).bind fun ex3 =>
         (a2j n ex2 ex3).bind fun v8 =>
         some (v8.1, v8.2)
       else
        bif x1.Op == 7 then
         (ix l2 0).bind fun ex4 =>
         (bif ex4 == 2 then
          (ix l2 1).bind fun ex7 =>
          some (ex7 == 2)
         else
          some false).bind fun v9 =>
         bif v9 then
          some (0, 13)
         else
          (ix l2 0).bind fun ex5 =>
          (ix l2 1).bind fun ex6 =>
          (a2j n ex5 ex6).bind fun v10 =>
          some (v10.1, v10.2)
        else
         bif x1.Op == 8 then
          (ix x1.Args 1).bind fun ex8 =>
          bif ex8.Op != 0 then
           some (0, 13)
          else
           bif ex8.N == 0 then
            some (0, 14)
           else
            (ix l2 0).bind fun ex9 =>
            (ix l2 1).bind fun ex10 =>
            (a2j n ex9 ex10).bind fun v11 =>
            some (v11.1, v11.2)
         else
          (ix l2 0).bind fun ex11 =>
          (ix l2 1).bind fun ex12 =>
          (a2j n ex11 ex12).bind fun v12 =>
          some (v12.1, v12.2)) n 0 ([] : List Int) := rfl
set_option maxHeartbeats 1000000 in
set_option maxRecDepth 1000000 in
theorem b6c (n : Nat) : (∀ (x1 : Expr) (names1 : (List Bs)) (r : (Int × Int)) (_ : tariff_typed n x1 names1 = some r) {w : World} {F : Frz} (_ : Sat F w) {as1 : Option Addr} {ns1 : Nat} {cs1 : Nat} {as2 : Option Addr} {ns2 : Nat} {cs2 : Nat} (_ : SlR rp_Expr F as1 ns1 cs1 x1.Args) (_ : SlR Rp.str F as2 ns2 cs2 names1), Calls Tryz.prog 51 #[.agg #[.int .i64 x1.Op, .int .i64 x1.N, vs x1.Name, .slice as1 ns1 cs1], .slice as2 ns2 cs2] w fun e w' => ∃ v F' O', e = .returned v ∧ HS F w [] F' O' w' ∧ (v = .tuple #[.int .i64 r.1, .int .i64 r.2] ∧ O' = [])) := by
 induction n with
 | zero =>
  ·intro x1 names1 r hm
   exact absurd (show (none : Option (Int × Int)) = some r from hm) (by simp)
 | succ n ih =>
  ·intro x1 names1 r hm w F hs as1 ns1 cs1 as2 ns2 cs2 hs1 hs2
   rw [b8j] at hm
   have h := HS.init hs
   refine a1a 113 Tryz.func51 rfl rfl rfl ?_
   refine a0f (a0a ?_)
   refine a2t rfl rfl rfl rfl h ?_
   intro b1 wx1 hx1
   refine a0b rfl rfl rfl (a0b rfl rfl rfl (a0c (a0d (a0f (a0a (a0b rfl rfl rfl (a0c (a0d (a0f (a0f (a0a ?_)))))))))))
   refine a0h fa24_3 rfl rfl rfl ?_
   refine a0r ag22 rfl rfl hx1 rfl (i := 0) rfl rfl ?_
   refine a1u hs1.len u22 rfl rfl rfl ?_
   refine a0e rfl rfl rfl (a0c (a0d (a1g ?_)))
   have hx2 := hx1.nilRow 3 1
   intro a hax19
   obtain ⟨kont1, hkont1⟩ : ∃ kont1 : (List Int) → Option (Int × Int), kont1 = (fun (l2 : List Int) =>
       (bif x1.Op == 1 then
        some true
       else
        some (x1.Op == 4)).bind fun v1 =>
       bif v1 then
        (a1n n names1 x1.Name).bind fun v2 =>
        bif !v2 then
         some (0, 11)
        else
         bif x1.Op == 4 then
          some (2, 0)
         else
          some (1, 0)
       else
        (bif x1.Op == 0 then
         some true
        else
         bif x1.Op == 2 then
          some true
         else
          some (x1.Op == 3)).bind fun v3 =>
        bif v3 then
         some (1, 0)
        else
         (bif x1.Op == 12 then
          some true
         else
          some (x1.Op == 13)).bind fun v4 =>
         bif v4 then
          (a4r n 0 l2 1).bind fun v5 =>
          some (v5.1, v5.2)
         else
          (bif x1.Op == 14 then
           some true
          else
           bif x1.Op == 15 then
            some true
           else
            some (x1.Op == 16)).bind fun v6 =>
          bif v6 then
           (a4r n 0 l2 0).bind fun v7 =>
           some (v7.1, v7.2)
          else
           bif x1.Op == 11 then
            (ix l2 0).bind fun ex1 =>
            bif ex1 != 0 then
             some (0, 13)
            else
             (ix l2 1).bind fun ex2 =>
             (ix l2 2).bind fun ex3 =>
             (a2j n ex2 ex3).bind fun v8 =>
             some (v8.1, v8.2)
           else
            bif x1.Op == 7 then
             (ix l2 0).bind fun ex4 =>
             (bif ex4 == 2 then
              (ix l2 1).bind fun ex7 =>
              some (ex7 == 2)
             else
              some false).bind fun v9 =>
             bif v9 then
              some (0, 13)
             else
              (ix l2 0).bind fun ex5 =>
              (ix l2 1).bind fun ex6 =>
              (a2j n ex5 ex6).bind fun v10 =>
              some (v10.1, v10.2)
            else
             bif x1.Op == 8 then
              (ix x1.Args 1).bind fun ex8 =>
              bif ex8.Op != 0 then
               some (0, 13)
              else
               bif ex8.N == 0 then
                some (0, 14)
               else
                (ix l2 0).bind fun ex9 =>
                (ix l2 1).bind fun ex10 =>
                (a2j n ex9 ex10).bind fun v11 =>
                some (v11.1, v11.2)
             else
              (ix l2 0).bind fun ex11 =>
              (ix l2 1).bind fun ex12 =>
              (a2j n ex11 ex12).bind fun v12 =>
              some (v12.1, v12.2)) := ⟨_, rfl⟩
   replace hm : (fun m (s : Int × List Int) => a3a n (tariff_typed n) x1 names1 kont1 m s.1 s.2) n (0, ([] : List Int)) = some r := by rw [hkont1]; exact hm
   refine a5w (id := 0) (fun m (s : Int × List Int) => a3a n (tariff_typed n) x1 names1 kont1 m s.1 s.2) (fun (y : List Int) => kont1 y) r (fun (s : Int × List Int) a w' => ∃ (Fx1 : Frz) (as3 : Option Addr) (ns3 : Nat) (cs3 : Nat) (xss3 : List Value), Frz.le F Fx1 ∧ HS F w [] Fx1 [.row 3 1 as3 ns3 cs3 xss3, .box b1 24 [.int .i64 x1.Op, .int .i64 x1.N, vs x1.Name, .slice as1 ns1 cs1]] w' ∧ (RowN (Rp.int .i64) Fx1 ns3 xss3 s.2) ∧ Has 113 a [(1, .slice as2 ns2 cs2), (2, .pointer (some ⟨b1, 0, none⟩)), (6, .slice as3 ns3 cs3), (13, .slice as1 ns1 cs1), (14, .int .i64 (x1.Args.length : Int)), (15, .int .i64 s.1)]) (fun (y : List Int) a w' => ∃ (Fx2 : Frz) (as4 : Option Addr) (ns4 : Nat) (cs4 : Nat) (xss4 : List Value), Frz.le F Fx2 ∧ HS F w [] Fx2 [.row 3 1 as4 ns4 cs4 xss4, .box b1 24 [.int .i64 x1.Op, .int .i64 x1.N, vs x1.Name, .slice as1 ns1 cs1]] w' ∧ (RowN (Rp.int .i64) Fx2 ns4 xss4 y) ∧ Has 113 a [(1, .slice as2 ns2 cs2), (2, .pointer (some ⟨b1, 0, none⟩)), (6, .slice as4 ns4 cs4)]) (fun _ => rfl) ?_ ?_ hm ⟨_, none, 0, 0, [], Frz.refl _, hx2.pick [0, 1] (by decide) rfl, ((show RowN (Rp.int .i64) _ 0 [] [] from ⟨rfl, rfl⟩)), hax19.cut (l := [1, 2, 6, 13, 14, 15]) rfl⟩
   ·clear hm; rintro l2 a wx2 hm ⟨Fx2, as4, ns4, cs4, xss4, hF2, hx4, hs4, hax1⟩
    rw [hkont1] at hm
    replace hm := hm
    refine a2f (e := .exit 0) hax1 ?_
    refine a1k (a0d (a0f (a0f (a0a ?_))))
    refine a0h fa24_0 rfl rfl rfl ?_
    refine a0r ag3 rfl rfl hx4 rfl (i := 1) rfl rfl ?_
    refine a0c (a0d (a1g (a0f (a0f (a0a ?_)))))
    refine a0u rfl rfl rfl rfl rfl ?_
    refine a0b rfl rfl rfl (a0c (a0d ?_))
    obtain ⟨v1, hb1, hm⟩ := bind_some hm
    refine a8f (fun a w' => wx2 = w' ∧ Has 113 a [(1, .slice as2 ns2 cs2), (2, .pointer (some ⟨b1, 0, none⟩)), (6, .slice as4 ns4 cs4), (34, .int .i64 x1.Op), (35, .bool v1)]) ?_ ?_
    ·rintro a wx3 ⟨rfl, hax2⟩
     refine a1i hax2 ?_
     rcases a0g hm with ⟨hb2, hm⟩ | ⟨hb2, hm⟩
     ·refine a0t 35 rfl hb2 ?_
      refine a0y rfl (a0f (a0f (a0a (a0e rfl rfl rfl ?_))))
      refine a0h fa24_2 rfl rfl rfl ?_
      refine a0r ag9 rfl rfl hx4 rfl (i := 1) rfl rfl ?_
      obtain ⟨v2, hv1, hm⟩ := bind_some hm
      refine a3m ent88 rfl rfl rfl rfl (a5v _ _ _ _ hv1 hx4.sat (hs2.mono hF2)) ?_
      refine a4g rfl rfl rfl (a0c (a0d ?_))
      rcases a0g hm with ⟨hb3, hm⟩ | ⟨hb3, hm⟩
      ·refine a0t 42 rfl hb3 ?_
       refine a0y rfl (a0f (a0a (a0b rfl rfl rfl (a0b rfl rfl rfl (a0c (a0d (a1d (a0k (a0x (a0k ?_))))))))))
       refine a1v (vl := [.int .i64 0, .int .i64 11]) rfl ⟨a1z rfl, a1z rfl, trivial⟩ (by simp) ?_
       obtain rfl := Option.some.inj hm
       exact ⟨_, _, _, rfl, hx4.pick [] (by decide) rfl, rfl, rfl⟩
      ·refine a0t 42 rfl hb3 ?_
       refine a0s rfl (a1e (a0d (a0f (a0f (a0a ?_)))))
       refine a0h fa24_0 rfl rfl rfl ?_
       refine a0r ag3 rfl rfl hx4 rfl (i := 1) rfl rfl ?_
       refine a0u rfl rfl rfl rfl rfl ?_
       refine a0c (a0d ?_)
       rcases a0g hm with ⟨hb4, hm⟩ | ⟨hb4, hm⟩
       ·refine a0t 45 rfl hb4 ?_
        refine a0y rfl (a0f (a0a (a0b rfl rfl rfl (a0b rfl rfl rfl (a0c (a0d (a1d (a0k (a0x (a0k ?_))))))))))
        refine a1v (vl := [.int .i64 2, .int .i64 0]) rfl ⟨a1z rfl, a1z rfl, trivial⟩ (by simp) ?_
        obtain rfl := Option.some.inj hm
        exact ⟨_, _, _, rfl, hx4.pick [] (by decide) rfl, rfl, rfl⟩
       ·refine a0t 45 rfl hb4 ?_
        refine a0s rfl (a1e (a0d (a0f (a0a (a0b rfl rfl rfl (a0b rfl rfl rfl (a0c (a0d (a1d (a0x (a0k ?_)))))))))))
        refine a1v (vl := [.int .i64 1, .int .i64 0]) rfl ⟨a1z rfl, a1z rfl, trivial⟩ (by simp) ?_
        obtain rfl := Option.some.inj hm
        exact ⟨_, _, _, rfl, hx4.pick [] (by decide) rfl, rfl, rfl⟩
     ·refine a0t 35 rfl hb2 ?_
      refine a0s rfl (a0f (a0f (a0a ?_)))
      refine a0u rfl rfl rfl rfl rfl ?_
      refine a0b rfl rfl rfl (a0c (a0d ?_))
      obtain ⟨v3, hb5, hm⟩ := bind_some hm
      refine a8f (fun a w' => wx2 = w' ∧ Has 113 a [(2, .pointer (some ⟨b1, 0, none⟩)), (6, .slice as4 ns4 cs4), (34, .int .i64 x1.Op), (46, .bool v3)]) ?_ ?_
      ·rintro a wx4 ⟨rfl, hax3⟩
       refine a1i hax3 ?_
       rcases a0g hm with ⟨hb6, hm⟩ | ⟨hb6, hm⟩
       ·refine a0t 46 rfl hb6 ?_
        refine a0y rfl (a0f (a0a (a0b rfl rfl rfl (a0b rfl rfl rfl (a0c (a0d (a1d (a0x (a0k ?_)))))))))
        refine a1v (vl := [.int .i64 1, .int .i64 0]) rfl ⟨a1z rfl, a1z rfl, trivial⟩ (by simp) ?_
        obtain rfl := Option.some.inj hm
        exact ⟨_, _, _, rfl, hx4.pick [] (by decide) rfl, rfl, rfl⟩
       ·refine a0t 46 rfl hb6 ?_
        refine a0s rfl (a0f (a0f (a0a ?_)))
        refine a0u rfl rfl rfl rfl rfl ?_
        refine a0b rfl rfl rfl (a0c (a0d ?_))
        obtain ⟨v4, hb7, hm⟩ := bind_some hm
        refine a8f (fun a w' => wx2 = w' ∧ Has 113 a [(2, .pointer (some ⟨b1, 0, none⟩)), (6, .slice as4 ns4 cs4), (34, .int .i64 x1.Op), (50, .bool v4)]) ?_ ?_
        ·rintro a wx5 ⟨rfl, hax4⟩
         refine a1i hax4 ?_
         rcases a0g hm with ⟨hb8, hm⟩ | ⟨hb8, hm⟩
         ·refine a0t 50 rfl hb8 ?_
          refine a0y rfl (a0f (a0a (a0e rfl rfl rfl ?_)))
          obtain ⟨Fx3, hF3, hx5, hsx1⟩ := a1c hx4 (i := 0) rfl hs4
          obtain ⟨v5, hv2, hm⟩ := bind_some hm
          refine a0i ent91 rfl rfl rfl rfl hx5 (b5e _ _ _ _ _ hv2 hx5.sat hsx1) ?_
          rintro _ Fx4 _ wx6 hF4 hx6 ⟨rfl, rfl⟩
          refine a0j rfl rfl rfl rfl (a0j rfl rfl rfl rfl (a0b rfl rfl rfl (a0b rfl rfl rfl (a0c (a0d (a1d (a0x (a0k ?_))))))))
          refine a1v (vl := [.int .i64 v5.1, .int .i64 v5.2]) rfl ⟨a1z rfl, a1z rfl, trivial⟩ (by simp) ?_
          obtain rfl := Option.some.inj hm
          exact ⟨_, _, _, rfl, hx6.pick [] (by decide) rfl, rfl, rfl⟩
         ·refine a0t 50 rfl hb8 ?_
          refine a0s rfl (a0f (a0f (a0a ?_)))
          refine a0u rfl rfl rfl rfl rfl ?_
          refine a0b rfl rfl rfl (a0c (a0d ?_))
          obtain ⟨v6, hb9, hm⟩ := bind_some hm
          refine a8f (fun a w' => wx2 = w' ∧ Has 113 a [(2, .pointer (some ⟨b1, 0, none⟩)), (6, .slice as4 ns4 cs4), (34, .int .i64 x1.Op), (57, .bool v6)]) ?_ ?_
          ·rintro a wx7 ⟨rfl, hax5⟩
           refine a1i hax5 ?_
           rcases a0g hm with ⟨hb10, hm⟩ | ⟨hb10, hm⟩
           ·refine a0t 57 rfl hb10 ?_
            refine a0y rfl (a0f (a0a (a0e rfl rfl rfl ?_)))
            obtain ⟨Fx5, hF5, hx7, hsx2⟩ := a1c hx4 (i := 0) rfl hs4
            obtain ⟨v7, hv3, hm⟩ := bind_some hm
            refine a0i ent91 rfl rfl rfl rfl hx7 (b5e _ _ _ _ _ hv3 hx7.sat hsx2) ?_
            rintro _ Fx6 _ wx8 hF6 hx8 ⟨rfl, rfl⟩
            refine a0j rfl rfl rfl rfl (a0j rfl rfl rfl rfl (a0b rfl rfl rfl (a0b rfl rfl rfl (a0c (a0d (a1d (a0x (a0k ?_))))))))
            refine a1v (vl := [.int .i64 v7.1, .int .i64 v7.2]) rfl ⟨a1z rfl, a1z rfl, trivial⟩ (by simp) ?_
            obtain rfl := Option.some.inj hm
            exact ⟨_, _, _, rfl, hx8.pick [] (by decide) rfl, rfl, rfl⟩
           ·refine a0t 57 rfl hb10 ?_
            refine a0s rfl (a0f (a0a ?_))
            refine a0u rfl rfl rfl rfl rfl ?_
            refine a0b rfl rfl rfl (a0c (a0d ?_))
            rcases a0g hm with ⟨hb11, hm⟩ | ⟨hb11, hm⟩
            ·refine a0t 65 rfl hb11 ?_
             refine a0y rfl (a0f (a0f (a0a (a0e rfl rfl rfl ?_))))
             obtain ⟨ex1, he1, hm⟩ := bind_some hm
             refine a5c (r := (Rp.int .i64)) u28 sz3 rfl rfl hx4 rfl rfl (p := 0) rfl rfl hs4 he1 ?_
             intro b2 o1 cs1 hax6 ho1 hr1 hp1
             have hc1 : cs1 = [.int .i64 ex1] := hr1
             subst hc1
             refine a4s (j := 0) ag3 rfl rfl hx4 rfl (p := 0) rfl rfl hax6 ho1 hp1 rfl ?_
             refine a0u rfl rfl rfl rfl rfl ?_
             refine a0c (a0d ?_)
             rcases a0g hm with ⟨hb12, hm⟩ | ⟨hb12, hm⟩
             ·refine a0t 70 rfl hb12 ?_
              refine a0y rfl (a0f (a0a (a0b rfl rfl rfl (a0b rfl rfl rfl (a0c (a0d (a1d (a0k (a0x (a0k ?_))))))))))
              refine a1v (vl := [.int .i64 0, .int .i64 13]) rfl ⟨a1z rfl, a1z rfl, trivial⟩ (by simp) ?_
              obtain rfl := Option.some.inj hm
              exact ⟨_, _, _, rfl, hx4.pick [] (by decide) rfl, rfl, rfl⟩
             ·refine a0t 70 rfl hb12 ?_
              refine a0s rfl (a1e (a0d (a0f ?_)))
              refine a4f (by kernel_rfl) (by kernel_rfl) hx4 ?_
              refine a1h rfl rfl rfl rfl (fun _ _ _ _ => a0e rfl rfl rfl (a0c (qq rfl))) ?_
              obtain ⟨ex2, he2, hm⟩ := bind_some hm
              obtain ⟨b3, o2, cs2, hax7, ho2, hr2, hp2, hrun1⟩ := a3y (P := Tryz.prog) (r := (Rp.int .i64)) u28 sz3 hx4 (p := 0) rfl rfl hs4 he2
              have hc2 : cs2 = [.int .i64 ex2] := hr2
              subst hc2
              refine a3i rfl rfl rfl rfl hrun1 ?_
              refine a1h rfl rfl rfl rfl (fun _ _ _ hq => a4s (j := 0) ag3 rfl rfl hq rfl (p := 0) rfl rfl hax7 ho2 hp2 rfl (a0c (qq rfl))) ?_
              refine a1h rfl rfl rfl rfl (fun _ _ _ _ => a0e rfl rfl rfl (a0c (qq rfl))) ?_
              obtain ⟨ex3, he3, hm⟩ := bind_some hm
              obtain ⟨b4, o3, cs3, hax8, ho3, hr3, hp3, hrun2⟩ := a3y (P := Tryz.prog) (r := (Rp.int .i64)) u28 sz3 hx4 (p := 0) rfl rfl hs4 he3
              have hc3 : cs3 = [.int .i64 ex3] := hr3
              subst hc3
              refine a3i rfl rfl rfl rfl hrun2 ?_
              refine a1h rfl rfl rfl rfl (fun _ _ _ hq => a4s (j := 0) ag3 rfl rfl hq rfl (p := 0) rfl rfl hax8 ho3 hp3 rfl (a0c (qq rfl))) ?_
              obtain ⟨v8, hv4, hm⟩ := bind_some hm
              refine b0w ent92 rfl rfl rfl rfl (fun _ _ hleq hq => a9i _ _ _ _ hv4) ?_
              refine a1h rfl rfl rfl rfl (fun _ _ _ _ => a0j rfl rfl rfl rfl (a0c (qq rfl))) ?_
              refine a1h rfl rfl rfl rfl (fun _ _ _ _ => a0j rfl rfl rfl rfl (a0c (qq rfl))) ?_
              refine a1h rfl rfl rfl rfl (fun _ _ _ _ => a0b rfl rfl rfl (a0c (qq rfl))) ?_
              refine a1h rfl rfl rfl rfl (fun _ _ _ _ => a0b rfl rfl rfl (a0c (qq rfl))) ?_
              refine b2i ?_
              rintro wx9 ⟨Fx7, hF7, hx9⟩
              refine a0d (a1d (a0x (a0k ?_)))
              refine a1v (vl := [.int .i64 v8.1, .int .i64 v8.2]) rfl ⟨a1z rfl, a1z rfl, trivial⟩ (by simp) ?_
              obtain rfl := Option.some.inj hm
              exact ⟨_, _, _, rfl, hx9.pick [] (by decide) rfl, rfl, rfl⟩
            ·refine a0t 65 rfl hb11 ?_
             refine a0s rfl (a0f (a0a ?_))
             refine a0u rfl rfl rfl rfl rfl ?_
             refine a0b rfl rfl rfl (a0c (a0d ?_))
             rcases a0g hm with ⟨hb13, hm⟩ | ⟨hb13, hm⟩
             ·refine a0t 80 rfl hb13 ?_
              refine a0y rfl (a0f (a0a (a0e rfl rfl rfl ?_)))
              obtain ⟨ex4, he4, hm⟩ := bind_some hm
              refine a5c (r := (Rp.int .i64)) u28 sz3 rfl rfl hx4 rfl rfl (p := 0) rfl rfl hs4 he4 ?_
              intro b5 o4 cs4 hax9 ho4 hr4 hp4
              have hc4 : cs4 = [.int .i64 ex4] := hr4
              subst hc4
              refine a4s (j := 0) ag3 rfl rfl hx4 rfl (p := 0) rfl rfl hax9 ho4 hp4 rfl ?_
              refine a0u rfl rfl rfl rfl rfl ?_
              refine a0e rfl rfl rfl ?_
              obtain ⟨v9, hb14, hm⟩ := bind_some hm
              refine a2r 5 (fun a w' => wx2 = w' ∧ Has 113 a [(6, .slice as4 ns4 cs4), (91, .bool v9)]) ?_ ?_
              ·rintro a wx10 ⟨rfl, hax10⟩
               refine a1f hax10 ?_
               refine a0c (a0d ?_)
               rcases a0g hm with ⟨hb15, hm⟩ | ⟨hb15, hm⟩
               ·refine a0t 91 rfl hb15 ?_
                refine a0y rfl (a0f (a0a (a0b rfl rfl rfl (a0b rfl rfl rfl (a0c (a0d (a1d (a0x (a0k ?_)))))))))
                refine a1v (vl := [.int .i64 0, .int .i64 13]) rfl ⟨a1z rfl, a1z rfl, trivial⟩ (by simp) ?_
                obtain rfl := Option.some.inj hm
                exact ⟨_, _, _, rfl, hx4.pick [] (by decide) rfl, rfl, rfl⟩
               ·refine a0t 91 rfl hb15 ?_
                refine a0s rfl (a1e (a1m (a0d (a0f ?_))))
                refine a4f (by kernel_rfl) (by kernel_rfl) hx4 ?_
                refine a1h rfl rfl rfl rfl (fun _ _ _ _ => a0e rfl rfl rfl (a0c (qq rfl))) ?_
                obtain ⟨ex5, he5, hm⟩ := bind_some hm
                obtain ⟨b6, o5, cs5, hax11, ho5, hr5, hp5, hrun3⟩ := a3y (P := Tryz.prog) (r := (Rp.int .i64)) u28 sz3 hx4 (p := 0) rfl rfl hs4 he5
                have hc5 : cs5 = [.int .i64 ex5] := hr5
                subst hc5
                refine a3i rfl rfl rfl rfl hrun3 ?_
                refine a1h rfl rfl rfl rfl (fun _ _ _ hq => a4s (j := 0) ag3 rfl rfl hq rfl (p := 0) rfl rfl hax11 ho5 hp5 rfl (a0c (qq rfl))) ?_
                refine a1h rfl rfl rfl rfl (fun _ _ _ _ => a0e rfl rfl rfl (a0c (qq rfl))) ?_
                obtain ⟨ex6, he6, hm⟩ := bind_some hm
                obtain ⟨b7, o6, cs6, hax12, ho6, hr6, hp6, hrun4⟩ := a3y (P := Tryz.prog) (r := (Rp.int .i64)) u28 sz3 hx4 (p := 0) rfl rfl hs4 he6
                have hc6 : cs6 = [.int .i64 ex6] := hr6
                subst hc6
                refine a3i rfl rfl rfl rfl hrun4 ?_
                refine a1h rfl rfl rfl rfl (fun _ _ _ hq => a4s (j := 0) ag3 rfl rfl hq rfl (p := 0) rfl rfl hax12 ho6 hp6 rfl (a0c (qq rfl))) ?_
                obtain ⟨v10, hv5, hm⟩ := bind_some hm
                refine b0w ent92 rfl rfl rfl rfl (fun _ _ hleq hq => a9i _ _ _ _ hv5) ?_
                refine a1h rfl rfl rfl rfl (fun _ _ _ _ => a0j rfl rfl rfl rfl (a0c (qq rfl))) ?_
                refine a1h rfl rfl rfl rfl (fun _ _ _ _ => a0j rfl rfl rfl rfl (a0c (qq rfl))) ?_
                refine a1h rfl rfl rfl rfl (fun _ _ _ _ => a0b rfl rfl rfl (a0c (qq rfl))) ?_
                refine a1h rfl rfl rfl rfl (fun _ _ _ _ => a0b rfl rfl rfl (a0c (qq rfl))) ?_
                refine b2i ?_
                rintro wx11 ⟨Fx8, hF8, hx10⟩
                refine a0d (a1d ?_)
                refine a1v (vl := [.int .i64 v10.1, .int .i64 v10.2]) rfl ⟨a1z rfl, a1z rfl, trivial⟩ (by simp) ?_
                obtain rfl := Option.some.inj hm
                exact ⟨_, _, _, rfl, hx10.pick [] (by decide) rfl, rfl, rfl⟩
              ·clear hm
               rcases a0g hb14 with ⟨hb16, hb14⟩ | ⟨hb16, hb14⟩
               ·refine a1j 86 rfl hb16 ?_
                refine a0e rfl rfl rfl ?_
                obtain ⟨ex7, he7, hb14⟩ := bind_some hb14
                refine a5c (r := (Rp.int .i64)) u28 sz3 rfl rfl hx4 rfl rfl (p := 0) rfl rfl hs4 he7 ?_
                intro b8 o7 cs7 hax13 ho7 hr7 hp7
                have hc7 : cs7 = [.int .i64 ex7] := hr7
                subst hc7
                refine a4s (j := 0) ag3 rfl rfl hx4 rfl (p := 0) rfl rfl hax13 ho7 hp7 rfl ?_
                refine a0u rfl rfl rfl rfl rfl ?_
                refine a0q rfl rfl rfl rfl (a0c ?_)
                refine a0n (fun a ha => ?_)
                cases hb14
                exact ⟨rfl, ha.cut (l := [6, 91]) rfl⟩
               ·refine a1j 86 rfl hb16 ?_
                refine a0z rfl (by decide) rfl (a0z rfl (by decide) rfl (a0z rfl (by decide) rfl (a0z rfl (by decide) rfl (a0m rfl rfl rfl rfl (a0c ?_)))))
                refine a0n (fun a ha => ?_)
                cases hb14
                exact ⟨rfl, ha.cut (l := [6, 91]) rfl⟩
             ·refine a0t 80 rfl hb13 ?_
              refine a0s rfl (a0f (a0a ?_))
              refine a0u rfl rfl rfl rfl rfl ?_
              refine a0b rfl rfl rfl (a0c (a0d ?_))
              rcases a0g hm with ⟨hb17, hm⟩ | ⟨hb17, hm⟩
              ·refine a0t 92 rfl hb17 ?_
               refine a0y rfl (a0f (a0a ?_))
               refine a0h fa24_3 rfl rfl rfl ?_
               refine a0r ag22 rfl rfl hx4 rfl (i := 1) rfl rfl ?_
               obtain ⟨ex8, he8, hm⟩ := bind_some hm
               refine a2n (r := rp_Expr) u22 sz24 rfl rfl rfl rfl (hs1.mono hF2) he8 ?_
               intro b9 o8 cs8 hf1 hr8
               obtain ⟨as5, ns5, cs5, hc8, hs5⟩ := expr_iff.1 hr8
               subst hc8
               refine a3s ag24 sz24 rfl rfl hx4 hf1 rfl rfl ?_
               refine a1b ze24 rfl rfl rfl hx4 ?_
               intro b10 wx12 hx11
               refine a0p sz24 rfl hx11 rfl rfl rfl rfl (i := 0) rfl rfl rfl rfl ?_
               intro wx13 hx12
               refine a0c (a0d (a0f (a0a ?_)))
               refine a0h fa24_0 rfl rfl rfl ?_
               refine a0r ag3 rfl rfl hx12 rfl (i := 0) rfl rfl ?_
               refine a0u rfl rfl rfl rfl rfl ?_
               refine a0c (a0d ?_)
               rcases a0g hm with ⟨hb18, hm⟩ | ⟨hb18, hm⟩
               ·refine a0t 100 rfl hb18 ?_
                refine a0y rfl (a0f (a0a (a0b rfl rfl rfl (a0b rfl rfl rfl (a0c (a0d (a1d (a0x (a0k ?_)))))))))
                refine a1v (vl := [.int .i64 0, .int .i64 13]) rfl ⟨a1z rfl, a1z rfl, trivial⟩ (by simp) ?_
                obtain rfl := Option.some.inj hm
                exact ⟨_, _, _, rfl, hx12.pick [] (by decide) rfl, rfl, rfl⟩
               ·refine a0t 100 rfl hb18 ?_
                refine a0s rfl (a0f (a0a ?_))
                refine a0h fa24_1 rfl rfl rfl ?_
                refine a0r ag3 rfl rfl hx12 rfl (i := 0) rfl rfl ?_
                refine a0u rfl rfl rfl rfl rfl ?_
                refine a0c (a0d ?_)
                rcases a0g hm with ⟨hb19, hm⟩ | ⟨hb19, hm⟩
                ·refine a0t 103 rfl hb19 ?_
                 refine a0y rfl (a0f (a0a (a0b rfl rfl rfl (a0b rfl rfl rfl (a0c (a0d (a1d (a0x (a0k ?_)))))))))
                 refine a1v (vl := [.int .i64 0, .int .i64 14]) rfl ⟨a1z rfl, a1z rfl, trivial⟩ (by simp) ?_
                 obtain rfl := Option.some.inj hm
                 exact ⟨_, _, _, rfl, hx12.pick [] (by decide) rfl, rfl, rfl⟩
                ·refine a0t 103 rfl hb19 ?_
                 refine a0s rfl (a1e (a1m (a0d (a0f ?_))))
                 refine a4f (by kernel_rfl) (by kernel_rfl) hx12 ?_
                 refine a1h rfl rfl rfl rfl (fun _ _ _ _ => a0e rfl rfl rfl (a0c (qq rfl))) ?_
                 obtain ⟨ex9, he9, hm⟩ := bind_some hm
                 obtain ⟨b11, o9, cs9, hax14, ho8, hr9, hp8, hrun5⟩ := a3y (P := Tryz.prog) (r := (Rp.int .i64)) u28 sz3 hx12 (p := 1) rfl rfl hs4 he9
                 have hc9 : cs9 = [.int .i64 ex9] := hr9
                 subst hc9
                 refine a3i rfl rfl rfl rfl hrun5 ?_
                 refine a1h rfl rfl rfl rfl (fun _ _ _ hq => a4s (j := 0) ag3 rfl rfl hq rfl (p := 1) rfl rfl hax14 ho8 hp8 rfl (a0c (qq rfl))) ?_
                 refine a1h rfl rfl rfl rfl (fun _ _ _ _ => a0e rfl rfl rfl (a0c (qq rfl))) ?_
                 obtain ⟨ex10, he10, hm⟩ := bind_some hm
                 obtain ⟨b12, o10, cs10, hax15, ho9, hr10, hp9, hrun6⟩ := a3y (P := Tryz.prog) (r := (Rp.int .i64)) u28 sz3 hx12 (p := 1) rfl rfl hs4 he10
                 have hc10 : cs10 = [.int .i64 ex10] := hr10
                 subst hc10
                 refine a3i rfl rfl rfl rfl hrun6 ?_
                 refine a1h rfl rfl rfl rfl (fun _ _ _ hq => a4s (j := 0) ag3 rfl rfl hq rfl (p := 1) rfl rfl hax15 ho9 hp9 rfl (a0c (qq rfl))) ?_
                 obtain ⟨v11, hv6, hm⟩ := bind_some hm
                 refine b0w ent92 rfl rfl rfl rfl (fun _ _ hleq hq => a9i _ _ _ _ hv6) ?_
                 refine a1h rfl rfl rfl rfl (fun _ _ _ _ => a0j rfl rfl rfl rfl (a0c (qq rfl))) ?_
                 refine a1h rfl rfl rfl rfl (fun _ _ _ _ => a0j rfl rfl rfl rfl (a0c (qq rfl))) ?_
                 refine a1h rfl rfl rfl rfl (fun _ _ _ _ => a0b rfl rfl rfl (a0c (qq rfl))) ?_
                 refine a1h rfl rfl rfl rfl (fun _ _ _ _ => a0b rfl rfl rfl (a0c (qq rfl))) ?_
                 refine b2i ?_
                 rintro wx14 ⟨Fx9, hF9, hx13⟩
                 refine a0d (a1d ?_)
                 refine a1v (vl := [.int .i64 v11.1, .int .i64 v11.2]) rfl ⟨a1z rfl, a1z rfl, trivial⟩ (by simp) ?_
                 obtain rfl := Option.some.inj hm
                 exact ⟨_, _, _, rfl, hx13.pick [] (by decide) rfl, rfl, rfl⟩
              ·refine a0t 92 rfl hb17 ?_
               refine a0s rfl (a1e (a1m (a0d (a0f ?_))))
               refine a4f (by kernel_rfl) (by kernel_rfl) hx4 ?_
               refine a1h rfl rfl rfl rfl (fun _ _ _ _ => a0e rfl rfl rfl (a0c (qq rfl))) ?_
               obtain ⟨ex11, he11, hm⟩ := bind_some hm
               obtain ⟨b13, o11, cs11, hax16, ho10, hr11, hp10, hrun7⟩ := a3y (P := Tryz.prog) (r := (Rp.int .i64)) u28 sz3 hx4 (p := 0) rfl rfl hs4 he11
               have hc11 : cs11 = [.int .i64 ex11] := hr11
               subst hc11
               refine a3i rfl rfl rfl rfl hrun7 ?_
               refine a1h rfl rfl rfl rfl (fun _ _ _ hq => a4s (j := 0) ag3 rfl rfl hq rfl (p := 0) rfl rfl hax16 ho10 hp10 rfl (a0c (qq rfl))) ?_
               refine a1h rfl rfl rfl rfl (fun _ _ _ _ => a0e rfl rfl rfl (a0c (qq rfl))) ?_
               obtain ⟨ex12, he12, hm⟩ := bind_some hm
               obtain ⟨b14, o12, cs12, hax17, ho11, hr12, hp11, hrun8⟩ := a3y (P := Tryz.prog) (r := (Rp.int .i64)) u28 sz3 hx4 (p := 0) rfl rfl hs4 he12
               have hc12 : cs12 = [.int .i64 ex12] := hr12
               subst hc12
               refine a3i rfl rfl rfl rfl hrun8 ?_
               refine a1h rfl rfl rfl rfl (fun _ _ _ hq => a4s (j := 0) ag3 rfl rfl hq rfl (p := 0) rfl rfl hax17 ho11 hp11 rfl (a0c (qq rfl))) ?_
               obtain ⟨v12, hv7, hm⟩ := bind_some hm
               refine b0w ent92 rfl rfl rfl rfl (fun _ _ hleq hq => a9i _ _ _ _ hv7) ?_
               refine a1h rfl rfl rfl rfl (fun _ _ _ _ => a0j rfl rfl rfl rfl (a0c (qq rfl))) ?_
               refine a1h rfl rfl rfl rfl (fun _ _ _ _ => a0j rfl rfl rfl rfl (a0c (qq rfl))) ?_
               refine a1h rfl rfl rfl rfl (fun _ _ _ _ => a0b rfl rfl rfl (a0c (qq rfl))) ?_
               refine a1h rfl rfl rfl rfl (fun _ _ _ _ => a0b rfl rfl rfl (a0c (qq rfl))) ?_
               refine b2i ?_
               rintro wx15 ⟨Fx10, hF10, hx14⟩
               refine a0d (a1d ?_)
               refine a1v (vl := [.int .i64 v12.1, .int .i64 v12.2]) rfl ⟨a1z rfl, a1z rfl, trivial⟩ (by simp) ?_
               obtain rfl := Option.some.inj hm
               exact ⟨_, _, _, rfl, hx14.pick [] (by decide) rfl, rfl, rfl⟩
          ·clear hm
           rcases a0g hb9 with ⟨hb20, hb9⟩ | ⟨hb20, hb9⟩
           ·refine a0t 57 rfl hb20 ?_
            refine a0y rfl (a1e ?_)
            refine a0n (fun a ha => ?_)
            cases hb9
            exact ⟨rfl, ha.cut (l := [2, 6, 34, 57]) rfl⟩
           ·refine a0t 57 rfl hb20 ?_
            refine a0s rfl (a0f (a0a ?_))
            refine a0u rfl rfl rfl rfl rfl ?_
            refine a0b rfl rfl rfl (a0c (a0d ?_))
            rcases a0g hb9 with ⟨hb21, hb9⟩ | ⟨hb21, hb9⟩
            ·refine a0t 57 rfl hb21 ?_
             refine a0y rfl (a1e ?_)
             refine a0n (fun a ha => ?_)
             cases hb9
             exact ⟨rfl, ha.cut (l := [2, 6, 34, 57]) rfl⟩
            ·refine a0t 57 rfl hb21 ?_
             refine a0s rfl (a0a ?_)
             refine a0u rfl rfl rfl rfl rfl ?_
             refine a0b rfl rfl rfl (a0c ?_)
             refine a0n (fun a ha => ?_)
             cases hb9
             exact ⟨rfl, ha.cut (l := [2, 6, 34, 57]) rfl⟩
        ·clear hm
         rcases a0g hb7 with ⟨hb22, hb7⟩ | ⟨hb22, hb7⟩
         ·refine a0t 50 rfl hb22 ?_
          refine a0y rfl (a1e ?_)
          refine a0n (fun a ha => ?_)
          cases hb7
          exact ⟨rfl, ha.cut (l := [2, 6, 34, 50]) rfl⟩
         ·refine a0t 50 rfl hb22 ?_
          refine a0s rfl (a0a ?_)
          refine a0u rfl rfl rfl rfl rfl ?_
          refine a0b rfl rfl rfl (a0c ?_)
          refine a0n (fun a ha => ?_)
          cases hb7
          exact ⟨rfl, ha.cut (l := [2, 6, 34, 50]) rfl⟩
      ·clear hm
       rcases a0g hb5 with ⟨hb23, hb5⟩ | ⟨hb23, hb5⟩
       ·refine a0t 46 rfl hb23 ?_
        refine a0y rfl (a1e ?_)
        refine a0n (fun a ha => ?_)
        cases hb5
        exact ⟨rfl, ha.cut (l := [2, 6, 34, 46]) rfl⟩
       ·refine a0t 46 rfl hb23 ?_
        refine a0s rfl (a0f (a0a ?_))
        refine a0u rfl rfl rfl rfl rfl ?_
        refine a0b rfl rfl rfl (a0c (a0d ?_))
        rcases a0g hb5 with ⟨hb24, hb5⟩ | ⟨hb24, hb5⟩
        ·refine a0t 46 rfl hb24 ?_
         refine a0y rfl (a1e ?_)
         refine a0n (fun a ha => ?_)
         cases hb5
         exact ⟨rfl, ha.cut (l := [2, 6, 34, 46]) rfl⟩
        ·refine a0t 46 rfl hb24 ?_
         refine a0s rfl (a0a ?_)
         refine a0u rfl rfl rfl rfl rfl ?_
         refine a0b rfl rfl rfl (a0c ?_)
         refine a0n (fun a ha => ?_)
         cases hb5
         exact ⟨rfl, ha.cut (l := [2, 6, 34, 46]) rfl⟩
    ·clear hm
     rcases a0g hb1 with ⟨hb25, hb1⟩ | ⟨hb25, hb1⟩
     ·refine a0t 35 rfl hb25 ?_
      refine a0y rfl (a1e ?_)
      refine a0n (fun a ha => ?_)
      cases hb1
      exact ⟨rfl, ha.cut (l := [1, 2, 6, 34, 35]) rfl⟩
     ·refine a0t 35 rfl hb25 ?_
      refine a0s rfl (a0a ?_)
      refine a0u rfl rfl rfl rfl rfl ?_
      refine a0b rfl rfl rfl (a0c ?_)
      refine a0n (fun a ha => ?_)
      cases hb1
      exact ⟨rfl, ha.cut (l := [1, 2, 6, 34, 35]) rfl⟩
   ·clear hm hkont1; intro hk1 mx1 K ihx1
    rintro ⟨i1, l1⟩ a wx16 hm ⟨Fx1, as3, ns3, cs3, xss3, hF1, hx3, hs3, hax18⟩
    simp only [a7g] at hm
    refine a1i hax18 ?_
    refine a0f (a0a ?_)
    refine a0u rfl rfl rfl rfl rfl ?_
    refine a0c (a0d (a0f ?_))
    rcases a0g hm with ⟨hb26, hm⟩ | ⟨hb26, hm⟩
    ·refine a0t 16 rfl hb26 ?_
     refine a0y rfl (a1e (a0d (a0f (a1g (a0f (a0a ?_))))))
     obtain ⟨ex13, he13, hm⟩ := bind_some hm
     refine a2n (r := rp_Expr) u22 sz24 rfl rfl rfl rfl (hs1.mono hF1) he13 ?_
     intro b15 o13 cs13 hf2 hr13
     obtain ⟨as6, ns6, cs6, hc13, hs6⟩ := expr_iff.1 hr13
     subst hc13
     refine a3s ag24 sz24 rfl rfl hx3 hf2 rfl rfl ?_
     refine a1b ze24 rfl rfl rfl hx3 ?_
     intro b16 wx17 hx15
     refine a0p sz24 rfl hx15 rfl rfl rfl rfl (i := 0) rfl rfl rfl rfl ?_
     intro wx18 hx16
     refine a0c (a0d (a0f (a0a ?_)))
     refine a0l ag24 sz24 rfl rfl hx16 rfl (i := 0) rfl rfl ?_
     refine a0e rfl rfl rfl ?_
     obtain ⟨v13, hv8, hm⟩ := bind_some hm
     refine a0i ent51 rfl rfl rfl rfl hx16 (ih _ _ _ hv8 hx16.sat hs6 (hs2.mono hF1)) ?_
     rintro _ Fx11 _ wx19 hF11 hx17 ⟨rfl, rfl⟩
     refine a0e rfl rfl rfl (a0j rfl rfl rfl rfl (a0j rfl rfl rfl rfl (a0b rfl rfl rfl (a0b rfl rfl rfl (a0c (a0d (a0f (a0f (a0a (a0e rfl rfl rfl ?_))))))))))
     refine a0u rfl rfl rfl rfl rfl ?_
     refine a0c (a0d ?_)
     rcases a0g hm with ⟨hb27, hm⟩ | ⟨hb27, hm⟩
     ·refine a0t 26 rfl hb27 ?_
      refine a0y rfl (a0f (a0a (a0e rfl rfl rfl (a0b rfl rfl rfl (a0b rfl rfl rfl (a0c (a0d (a1d (a0k (a0x (a0k (a0k (a0x (a0k ?_))))))))))))))
      refine a1v (vl := [.int .i64 0, .int .i64 v13.2]) rfl ⟨a1z rfl, a1z rfl, trivial⟩ (by simp) ?_
      obtain rfl := Option.some.inj hm
      exact ⟨_, _, _, rfl, hx17.pick [] (by decide) rfl, rfl, rfl⟩
     ·refine a0t 26 rfl hb27 ?_
      refine a0s rfl (a1e (a0d (a0a (a0e rfl rfl rfl (a0e rfl rfl rfl ?_)))))
      refine a1q (e := 3) (cs := [.int .i64 v13.1]) (q := 1) rfl rfl hx17 rfl (fun _ => by kernel_rfl) rfl rfl ?_
      intro b17 wx20 hx18
      obtain ⟨l3, hr14, hm⟩ := bind_some hm
      refine a9n (r := (Rp.int .i64)) ap28 rfl rfl hx18 rfl rfl (i := 2) (j := 0) rfl rfl (hs3.mono hF11) ((show RowN (Rp.int .i64) Fx11 1 [.int .i64 v13.1] [v13.1] from ⟨rfl, ⟨_, _, rfl, rfl, (rfl : RowR (Rp.int .i64) _ [] [])⟩⟩)) hr14 ?_
      intro as7 cs7 wx21 hx19 hs7
      refine a0b rfl rfl rfl (a0c (a1m (a0d (a0a ?_))))
      refine a0u rfl rfl rfl rfl rfl ?_
      refine a0e rfl rfl rfl (a0c ?_)
      refine a0n (fun a ha => ihx1 ((iadd .i64 i1 1), l3) a _ hm ?_)
      exact ⟨_, as7, (ns3 + 1), cs7, (xss3 ++ [.int .i64 v13.1]), (hF1.trans hF11), hx19.pick [2, 3] (by decide) rfl, hs7, ha.cut (l := [1, 2, 6, 13, 14, 15]) rfl⟩
    ·refine a0t 16 rfl hb26 ?_
     refine a0s rfl (a3u (a0w (a0w ?_)))
     refine fun a ha => hk1 l1 a _ hm ?_
     exact ⟨_, as3, ns3, cs3, xss3, hF1, hx3.pick [0, 1] (by decide) rfl, hs3, ha.cut (l := [1, 2, 6]) rfl⟩
theorem b3i (n : Nat) (x1 : Expr) (names1 : (List Bs)) (r : (Int × Int)) (hm : tariff_typed n x1 names1 = some r) {w : World} {F : Frz} (hs : Sat F w) {as1 : Option Addr} {ns1 : Nat} {cs1 : Nat} {as2 : Option Addr} {ns2 : Nat} {cs2 : Nat} (hs1 : SlR rp_Expr F as1 ns1 cs1 x1.Args) (hs2 : SlR Rp.str F as2 ns2 cs2 names1) :
  Calls Tryz.prog 51 #[.agg #[.int .i64 x1.Op, .int .i64 x1.N, vs x1.Name, .slice as1 ns1 cs1], .slice as2 ns2 cs2] w fun e w' => ∃ v F' O', e = .returned v ∧ HS F w [] F' O' w' ∧ (v = .tuple #[.int .i64 r.1, .int .i64 r.2] ∧ O' = []) :=
 (b6c n) x1 names1 r hm hs hs1 hs2
def a1p (n : Nat) (s1 : (List Expr)) (f1 : (Expr → Option Bool)) (kont1 : Option Int) : Nat → Int → Option Int
 | 0, _ => none
 | mx1 + 1, i1 =>
  bif decide (i1 < (s1.length : Int)) then
   (ix s1 i1).bind fun ex1 =>
   (f1 ex1).bind fun v1 =>
   bif v1 then
    some i1
   else
    a1p n s1 f1 kont1 mx1 (iadd .i64 i1 1)
  else
   kont1
theorem a2o (n : Nat) (s1 : (List Expr)) (f1 : (Expr → Option Bool)) (kont1 : Option Int) (mx1 : Nat) (i1 : Int) : a1p n s1 f1 kont1 (mx1 + 1) i1 =
  bif decide (i1 < (s1.length : Int)) then
   (ix s1 i1).bind fun ex1 =>
   (f1 ex1).bind fun v1 =>
   bif v1 then
    some i1
   else
    a1p n s1 f1 kont1 mx1 (iadd .i64 i1 1)
  else
   kont1 := rfl
def a3d (n : Nat) (s1 : (List Expr)) (f1 : (Expr → Option Bool)) : Option Int :=
 a1p n s1 f1 (
  some (-1)) n 0
set_option maxHeartbeats 1000000 in
set_option maxRecDepth 1000000 in
theorem a7s (n : Nat) (s1 : (List Expr)) (f1 : (Expr → Option Bool)) (r : Int) (hm : a3d n s1 f1 = some r) {w : World} {F : Frz} (hs : Sat F w) {as2 : Option Addr} {ns2 : Nat} {cs2 : Nat} {fvf1 : Value} (hs2 : SlR rp_Expr F as2 ns2 cs2 s1) (hpff1 : GFn Tryz.prog F fvf1 (fun F l v => ∃ (q0 : Expr) (a0_0 : Option Addr) (n0_0 : Nat) (c0_0 : Nat) (b : Bool), l = [.agg #[.int .i64 q0.Op, .int .i64 q0.N, vs q0.Name, .slice a0_0 n0_0 c0_0]] ∧ SlR rp_Expr F a0_0 n0_0 c0_0 q0.Args ∧ v = some (.bool b) ∧ f1 q0 = some b)) :
  Calls Tryz.prog 144 #[.slice as2 ns2 cs2, fvf1] w fun e w' => ∃ v F' O', e = .returned v ∧ HS F w [] F' O' w' ∧ (v = .int .i64 r ∧ O' = []) := by
 unfold a3d at hm
 have h := HS.init hs
 refine a1a 19 Tryz.func144 rfl rfl rfl ?_
 refine a0f (a0a (a0b rfl rfl rfl (a0c (a0d (a0f (a0f (a0a (a0e rfl rfl rfl ?_))))))))
 refine a1u hs2.len u22 rfl rfl rfl ?_
 refine a0e rfl rfl rfl (a0c (a0d (a1g ?_)))
 intro a hax3
 obtain ⟨kont1, hkont1⟩ : ∃ kont1 : Option Int, kont1 = (
       some (-1)) := ⟨_, rfl⟩
 replace hm : (fun m (s : Int) => a1p n s1 f1 kont1 m s) n 0 = some r := by rw [hkont1]; exact hm
 refine a5w (id := 0) (fun m (s : Int) => a1p n s1 f1 kont1 m s) (fun (y : Unit) => kont1) r (fun (s : Int) a w' => ∃ (Fx1 : Frz), Frz.le F Fx1 ∧ HS F w [] Fx1 [] w' ∧ Has 19 a [(0, .slice as2 ns2 cs2), (1, fvf1), (7, .int .i64 (s1.length : Int)), (8, .int .i64 s)]) (fun (y : Unit) a w' => ∃ (Fx2 : Frz), Frz.le F Fx2 ∧ HS F w [] Fx2 [] w' ∧ Has 19 a []) (fun _ => rfl) ?_ ?_ hm ⟨_, Frz.refl _, h.pick [] (by decide) rfl, hax3.cut (l := [0, 1, 7, 8]) rfl⟩
 ·clear hm; rintro _u a wx1 hm ⟨Fx2, hF2, hx2, hax1⟩
  rw [hkont1] at hm
  refine a2f (e := .exit 0) hax1 ?_
  refine a1k (a0d (a0f (a0a (a0b rfl rfl rfl (a0c (a0d (a1d ?_)))))))
  refine a1l rfl rfl ?_
  obtain rfl := Option.some.inj hm
  exact ⟨_, _, _, rfl, hx2.pick [] (by decide) rfl, rfl, rfl⟩
 ·clear hm hkont1; intro hk1 mx1 K ihx1
  rintro i1 a wx2 hm ⟨Fx1, hF1, hx1, hax2⟩
  simp only [a2o] at hm
  refine a1i hax2 ?_
  refine a0f (a0a ?_)
  refine a0u rfl rfl rfl rfl rfl ?_
  refine a0c (a0d (a0f ?_))
  rcases a0g hm with ⟨hb1, hm⟩ | ⟨hb1, hm⟩
  ·refine a0t 9 rfl hb1 ?_
   refine a0y rfl (a1e (a0d (a0f (a1g (a0f (a0a (a0e rfl rfl rfl (a0b rfl rfl rfl (a0c (a0d (a0f (a0a (a0e rfl rfl rfl (a0e rfl rfl rfl (a0e rfl rfl rfl ?_)))))))))))))))
   obtain ⟨ex1, he1, hm⟩ := bind_some hm
   refine a2n (r := rp_Expr) u22 sz24 rfl rfl rfl rfl (hs2.mono hF1) he1 ?_
   intro b1 o1 cs1 hf1 hr1
   obtain ⟨as3, ns3, cs3, hc1, hs3⟩ := expr_iff.1 hr1
   subst hc1
   refine a3s ag24 sz24 rfl rfl hx1 hf1 rfl rfl ?_
   obtain ⟨v1, hv1, hm⟩ := bind_some hm
   refine b9p (hpff1.mono hF1) rfl rfl rfl rfl hx1 ⟨_, _, _, _, _, rfl, hs3, rfl, hv1⟩ ?_
   intro Fx3 wx3 hF3 hx3
   refine a0c (a0d ?_)
   rcases a0g hm with ⟨hb2, hm⟩ | ⟨hb2, hm⟩
   ·refine a0t 16 rfl hb2 ?_
    refine a0y rfl (a0f (a0a (a0e rfl rfl rfl (a0b rfl rfl rfl (a0c (a0d (a1d (a0x (a0k (a0k (a0x (a0k ?_))))))))))))
    refine a1l rfl rfl ?_
    obtain rfl := Option.some.inj hm
    exact ⟨_, _, _, rfl, hx3.pick [] (by decide) rfl, rfl, rfl⟩
   ·refine a0t 16 rfl hb2 ?_
    refine a0s rfl (a1e (a1m (a0d (a0a ?_))))
    refine a0u rfl rfl rfl rfl rfl ?_
    refine a0e rfl rfl rfl (a0c ?_)
    refine a0n (fun a ha => ihx1 (iadd .i64 i1 1) a _ hm ?_)
    exact ⟨_, (hF1.trans hF3), hx3.pick [] (by decide) rfl, ha.cut (l := [0, 1, 7, 8]) rfl⟩
  ·refine a0t 9 rfl hb1 ?_
   refine a0s rfl (a3u (a0w (a0w ?_)))
   refine fun a ha => hk1 () a _ hm ?_
   exact ⟨_, hF1, hx1.pick [] (by decide) rfl, ha.cut (l := []) rfl⟩
theorem ent144 : Ent Tryz.prog 144 := fun _ _ => by kernel_rfl
def a1y (n : Nat) (s1 : (List Expr)) (f1 : (Expr → Option Bool)) : Option Bool :=
 (a3d n s1 f1).bind fun v1 =>
 some (decide (0 ≤ v1))
set_option maxHeartbeats 1000000 in
set_option maxRecDepth 1000000 in
theorem a6r (n : Nat) (s1 : (List Expr)) (f1 : (Expr → Option Bool)) (r : Bool) (hm : a1y n s1 f1 = some r) {w : World} {F : Frz} (hs : Sat F w) {as2 : Option Addr} {ns2 : Nat} {cs2 : Nat} {fvf1 : Value} (hs2 : SlR rp_Expr F as2 ns2 cs2 s1) (hpff1 : GFn Tryz.prog F fvf1 (fun F l v => ∃ (q0 : Expr) (a0_0 : Option Addr) (n0_0 : Nat) (c0_0 : Nat) (b : Bool), l = [.agg #[.int .i64 q0.Op, .int .i64 q0.N, vs q0.Name, .slice a0_0 n0_0 c0_0]] ∧ SlR rp_Expr F a0_0 n0_0 c0_0 q0.Args ∧ v = some (.bool b) ∧ f1 q0 = some b)) :
  Calls Tryz.prog 129 #[.slice as2 ns2 cs2, fvf1] w fun e w' => ∃ v F' O', e = .returned v ∧ HS F w [] F' O' w' ∧ (v = .bool r ∧ O' = []) := by
 unfold a1y at hm
 have h := HS.init hs
 refine a1a 9 Tryz.func129 rfl rfl rfl ?_
 refine a0f (a0a (a0b rfl rfl rfl (a0c (a0d (a0f (a0a (a0e rfl rfl rfl (a0e rfl rfl rfl ?_))))))))
 obtain ⟨v1, hv1, hm⟩ := bind_some hm
 refine a0i ent144 rfl rfl rfl rfl h (a7s _ _ _ _ hv1 h.sat hs2 hpff1) ?_
 rintro _ Fx1 _ wx1 hF1 hx1 ⟨rfl, rfl⟩
 refine a0u rfl rfl rfl rfl rfl ?_
 refine a0b rfl rfl rfl (a0c (a0d (a1d ?_)))
 refine a1l rfl rfl ?_
 obtain rfl := Option.some.inj hm
 exact ⟨_, _, _, rfl, hx1.pick [] (by decide) rfl, rfl, rfl⟩
theorem ent130 : Ent Tryz.prog 130 := fun _ _ => by kernel_rfl
theorem ent129 : Ent Tryz.prog 129 := fun _ _ => by kernel_rfl
theorem ent128 : Ent Tryz.prog 128 := fun _ _ => by kernel_rfl
theorem ent90 : Ent Tryz.prog 90 := fun _ _ => by kernel_rfl
mutual
def tariff_shaped : Nat → Expr → Option Bool
 | 0, _ => none
 | n + 1, x1 =>
  (bif decide (x1.Op < 0) then
   some true
  else
   some (decide (17 ≤ x1.Op))).bind fun v1 =>
  (bif v1 then
   some true
  else
   (a9f n x1.Op).bind fun v11 =>
   some ((x1.Args.length : Int) != v11)).bind fun v2 =>
  bif v2 then
   some false
  else
   bif x1.Op == 0 then
    (bif decide (0 ≤ x1.N) then
     some (decide (x1.N ≤ 1099511627776))
    else
     some false).bind fun v3 =>
    (bif v3 then
     some (x1.Name == [])
    else
     some false).bind fun v4 =>
    some v4
   else
    (bif x1.Op == 1 then
     some true
    else
     some (x1.Op == 4)).bind fun v5 =>
    bif v5 then
     (bif x1.N == 0 then
      (a5k n x1.Name).bind fun v7 =>
      some v7
     else
      some false).bind fun v6 =>
     some v6
    else
     (bif x1.N == 0 then
      some (x1.Name == [])
     else
      some false).bind fun v8 =>
     (bif v8 then
      (a1y n x1.Args (tariff_shaped_1 n)).bind fun v10 =>
      some (!v10)
     else
      some false).bind fun v9 =>
     some v9
def tariff_shaped_1 : Nat → Expr → Option Bool
 | 0, _ => none
 | n + 1, ax1 =>
  (tariff_shaped n ax1).bind fun v1 =>
  some (!v1)
 end
theorem b2w (n : Nat) (x1 : Expr) : tariff_shaped (n + 1) x1 =
  (bif decide (x1.Op < 0) then
   some true
  else
   some (decide (17 ≤ x1.Op))).bind fun v1 =>
  (bif v1 then
   some true
  else
   (a9f n x1.Op).bind fun v11 =>
   some ((x1.Args.length : Int) != v11)).bind fun v2 =>
  bif v2 then
   some false
  else
   bif x1.Op == 0 then
    (bif decide (0 ≤ x1.N) then
     some (decide (x1.N ≤ 1099511627776))
    else
     some false).bind fun v3 =>
    (bif v3 then
     some (x1.Name == [])
    else
     some false).bind fun v4 =>
    some v4
   else
    (bif x1.Op == 1 then
     some true
    else
     some (x1.Op == 4)).bind fun v5 =>
    bif v5 then
     (bif x1.N == 0 then
      (a5k n x1.Name).bind fun v7 =>
      some v7
     else
      some false).bind fun v6 =>
     some v6
    else
     (bif x1.N == 0 then
      some (x1.Name == [])
     else
      some false).bind fun v8 =>
     (bif v8 then
      (a1y n x1.Args (tariff_shaped_1 n)).bind fun v10 =>
      some (!v10)
     else
      some false).bind fun v9 =>
     some v9 := rfl
theorem b1h (n : Nat) (ax1 : Expr) : tariff_shaped_1 (n + 1) ax1 =
  (tariff_shaped n ax1).bind fun v1 =>
  some (!v1) := rfl
set_option maxHeartbeats 1000000 in
set_option maxRecDepth 1000000 in
theorem b5i (n : Nat) : (∀ (x1 : Expr) (r : Bool) (_ : tariff_shaped n x1 = some r) {w : World} {F : Frz} (_ : Sat F w) {as1 : Option Addr} {ns1 : Nat} {cs1 : Nat} (_ : SlR rp_Expr F as1 ns1 cs1 x1.Args), Calls Tryz.prog 90 #[.agg #[.int .i64 x1.Op, .int .i64 x1.N, vs x1.Name, .slice as1 ns1 cs1]] w fun e w' => ∃ v F' O', e = .returned v ∧ HS F w [] F' O' w' ∧ (v = .bool r ∧ O' = [])) ∧
  (∀ (ax1 : Expr) (r : Bool) (_ : tariff_shaped_1 n ax1 = some r) {w : World} {F : Frz} (_ : Sat F w) {as1 : Option Addr} {ns1 : Nat} {cs1 : Nat} (_ : SlR rp_Expr F as1 ns1 cs1 ax1.Args), Calls Tryz.prog 130 #[.agg #[.int .i64 ax1.Op, .int .i64 ax1.N, vs ax1.Name, .slice as1 ns1 cs1]] w fun e w' => ∃ v F' O', e = .returned v ∧ HS F w [] F' O' w' ∧ (v = .bool r ∧ O' = [])) := by
 induction n with
 | zero =>
  refine ⟨?_, ?_⟩
  ·intro x1 r hm
   exact absurd (show (none : Option Bool) = some r from hm) (by simp)
  ·intro ax1 r hm
   exact absurd (show (none : Option Bool) = some r from hm) (by simp)
 | succ n ih =>
  refine ⟨?_, ?_⟩
  ·intro x1 r hm w F hs as1 ns1 cs1 hs1
   rw [b2w] at hm
   have h := HS.init hs
   refine a1a 62 Tryz.func90 rfl rfl rfl ?_
   refine a0f (a0a ?_)
   refine a2t rfl rfl rfl rfl h ?_
   intro b1 wx1 hx1
   refine a0b rfl rfl rfl (a0c (a0d (a0f (a0f ?_))))
   refine a4f (by kernel_rfl) (by kernel_rfl) hx1 ?_
   refine a1h rfl rfl rfl rfl (fun _ _ _ _ => a0h fa24_0 rfl rfl rfl (a0c (qq rfl))) ?_
   refine a1h rfl rfl rfl rfl (fun _ _ _ hq => a0r ag3 rfl rfl hq rfl (i := 0) rfl rfl (a0c (qq rfl))) ?_
   refine a1h rfl rfl rfl rfl (fun _ _ _ _ => a0u rfl rfl rfl rfl rfl (a0c (qq rfl))) ?_
   refine a1h rfl rfl rfl rfl (fun _ _ _ _ => a0e rfl rfl rfl (a0c (qq rfl))) ?_
   obtain ⟨v1, hb1, hm⟩ := bind_some hm
   refine c4i 4 (fun a => Has 62 a [(1, .pointer (some ⟨b1, 0, none⟩)), (10, .bool v1)]) ?_ ?_
   ·intro a hax1
    refine b3j hax1 ?_
    refine a1h rfl rfl rfl rfl (fun _ _ _ _ => a0e rfl rfl rfl (a0c (qq rfl))) ?_
    obtain ⟨v2, hb2, hm⟩ := bind_some hm
    refine c4i 8 (fun a => Has 62 a [(1, .pointer (some ⟨b1, 0, none⟩)), (19, .bool v2)]) ?_ ?_
    ·intro a hax2
     refine b3j hax2 ?_
     refine b2i ?_
     rintro wx4 ⟨Fx1, hF1, hx2⟩
     refine a0d ?_
     rcases a0g hm with ⟨hb3, hm⟩ | ⟨hb3, hm⟩
     ·refine a0t 19 rfl hb3 ?_
      refine a0y rfl (a0f (a0a (a0b rfl rfl rfl (a0c (a0d (a1d (a0k ?_)))))))
      refine a1l rfl rfl ?_
      obtain rfl := Option.some.inj hm
      exact ⟨_, _, _, rfl, hx2.pick [] (by decide) rfl, rfl, rfl⟩
     ·refine a0t 19 rfl hb3 ?_
      refine a0s rfl (a1e (a0d (a0f (a0f (a0a ?_)))))
      refine a0h fa24_0 rfl rfl rfl ?_
      refine a0r ag3 rfl rfl hx2 rfl (i := 0) rfl rfl ?_
      refine a0c (a0d (a1g (a0f (a0a ?_))))
      refine a0u rfl rfl rfl rfl rfl ?_
      refine a0b rfl rfl rfl (a0c (a0d ?_))
      rcases a0g hm with ⟨hb4, hm⟩ | ⟨hb4, hm⟩
      ·refine a0t 22 rfl hb4 ?_
       refine a0y rfl (a0f (a0a ?_))
       refine a0h fa24_1 rfl rfl rfl ?_
       refine a0r ag3 rfl rfl hx2 rfl (i := 0) rfl rfl ?_
       refine a0u rfl rfl rfl rfl rfl ?_
       refine a0e rfl rfl rfl ?_
       obtain ⟨v3, hb5, hm⟩ := bind_some hm
       refine a2r 4 (fun a w' => wx4 = w' ∧ Has 62 a [(1, .pointer (some ⟨b1, 0, none⟩)), (31, .bool v3)]) ?_ ?_
       ·rintro a wx5 ⟨rfl, hax3⟩
        refine a1f hax3 ?_
        refine a0e rfl rfl rfl ?_
        obtain ⟨v4, hb6, hm⟩ := bind_some hm
        refine a2r 4 (fun a w' => wx4 = w' ∧ Has 62 a [(36, .bool v4)]) ?_ ?_
        ·rintro a wx6 ⟨rfl, hax4⟩
         refine a1f hax4 ?_
         refine a0b rfl rfl rfl (a0c (a0d (a1d (a0x (a0k ?_)))))
         refine a1l rfl rfl ?_
         obtain rfl := Option.some.inj hm
         exact ⟨_, _, _, rfl, hx2.pick [] (by decide) rfl, rfl, rfl⟩
        ·clear hm
         rcases a0g hb6 with ⟨hb7, hb6⟩ | ⟨hb7, hb6⟩
         ·refine a1j 32 rfl hb7 ?_
          refine a0h fa24_2 rfl rfl rfl ?_
          refine a0r ag9 rfl rfl hx2 rfl (i := 0) rfl rfl ?_
          refine c7z rfl rfl rfl rfl rfl ?_
          refine a0q rfl rfl rfl rfl (a0c ?_)
          refine a0n (fun a ha => ?_)
          cases hb6
          exact ⟨rfl, ha.cut (l := [36]) rfl⟩
         ·refine a1j 32 rfl hb7 ?_
          refine a0z rfl (by decide) rfl (a0z rfl (by decide) rfl (a0z rfl (by decide) rfl (a0m rfl rfl rfl rfl (a0c ?_))))
          refine a0n (fun a ha => ?_)
          cases hb6
          exact ⟨rfl, ha.cut (l := [36]) rfl⟩
       ·clear hm
        rcases a0g hb5 with ⟨hb8, hb5⟩ | ⟨hb8, hb5⟩
        ·refine a1j 27 rfl hb8 ?_
         refine a0h fa24_1 rfl rfl rfl ?_
         refine a0r ag3 rfl rfl hx2 rfl (i := 0) rfl rfl ?_
         refine a0u rfl rfl rfl rfl rfl ?_
         refine a0q rfl rfl rfl rfl (a0c ?_)
         refine a0n (fun a ha => ?_)
         cases hb5
         exact ⟨rfl, ha.cut (l := [1, 31]) rfl⟩
        ·refine a1j 27 rfl hb8 ?_
         refine a0z rfl (by decide) rfl (a0z rfl (by decide) rfl (a0z rfl (by decide) rfl (a0m rfl rfl rfl rfl (a0c ?_))))
         refine a0n (fun a ha => ?_)
         cases hb5
         exact ⟨rfl, ha.cut (l := [1, 31]) rfl⟩
      ·refine a0t 22 rfl hb4 ?_
       refine a0s rfl (a0f (a0f (a0a ?_)))
       refine a0u rfl rfl rfl rfl rfl ?_
       refine a0b rfl rfl rfl (a0c (a0d ?_))
       obtain ⟨v5, hb9, hm⟩ := bind_some hm
       refine a8f (fun a w' => wx4 = w' ∧ Has 62 a [(1, .pointer (some ⟨b1, 0, none⟩)), (37, .bool v5)]) ?_ ?_
       ·rintro a wx7 ⟨rfl, hax5⟩
        refine a1i hax5 ?_
        rcases a0g hm with ⟨hb10, hm⟩ | ⟨hb10, hm⟩
        ·refine a0t 37 rfl hb10 ?_
         refine a0y rfl (a0f (a0a ?_))
         refine a0h fa24_1 rfl rfl rfl ?_
         refine a0r ag3 rfl rfl hx2 rfl (i := 0) rfl rfl ?_
         refine a0u rfl rfl rfl rfl rfl ?_
         refine a0e rfl rfl rfl ?_
         obtain ⟨v6, hb11, hm⟩ := bind_some hm
         refine a2r 4 (fun a w' => wx4 = w' ∧ Has 62 a [(47, .bool v6)]) ?_ ?_
         ·rintro a wx8 ⟨rfl, hax6⟩
          refine a1f hax6 ?_
          refine a0b rfl rfl rfl (a0c (a0d (a1d (a0x (a0k ?_)))))
          refine a1l rfl rfl ?_
          obtain rfl := Option.some.inj hm
          exact ⟨_, _, _, rfl, hx2.pick [] (by decide) rfl, rfl, rfl⟩
         ·clear hm
          rcases a0g hb11 with ⟨hb12, hb11⟩ | ⟨hb12, hb11⟩
          ·refine a1j 43 rfl hb12 ?_
           refine a0h fa24_2 rfl rfl rfl ?_
           refine a0r ag9 rfl rfl hx2 rfl (i := 0) rfl rfl ?_
           obtain ⟨v7, hv1, hb11⟩ := bind_some hb11
           refine a3m ent87 rfl rfl rfl rfl (b1q _ _ _ hv1) ?_
           refine a0q rfl rfl rfl rfl (a0c ?_)
           refine a0n (fun a ha => ?_)
           cases hb11
           exact ⟨rfl, ha.cut (l := [47]) rfl⟩
          ·refine a1j 43 rfl hb12 ?_
           refine a0z rfl (by decide) rfl (a0z rfl (by decide) rfl (a0z rfl (by decide) rfl (a0m rfl rfl rfl rfl (a0c ?_))))
           refine a0n (fun a ha => ?_)
           cases hb11
           exact ⟨rfl, ha.cut (l := [47]) rfl⟩
        ·refine a0t 37 rfl hb10 ?_
         refine a0s rfl (a1e (a1m (a0d (a0f (a0a ?_)))))
         refine a0h fa24_1 rfl rfl rfl ?_
         refine a0r ag3 rfl rfl hx2 rfl (i := 0) rfl rfl ?_
         refine a0u rfl rfl rfl rfl rfl ?_
         refine a0e rfl rfl rfl ?_
         obtain ⟨v8, hb13, hm⟩ := bind_some hm
         refine a2r 4 (fun a w' => wx4 = w' ∧ Has 62 a [(1, .pointer (some ⟨b1, 0, none⟩)), (55, .bool v8)]) ?_ ?_
         ·rintro a wx9 ⟨rfl, hax7⟩
          refine a1f hax7 ?_
          refine a0e rfl rfl rfl ?_
          obtain ⟨v9, hb14, hm⟩ := bind_some hm
          refine a2r 5 (fun a w' => ∃ (Fx2 : Frz), Frz.le Fx1 Fx2 ∧ HS F w [] Fx2 [.box b1 24 [.int .i64 x1.Op, .int .i64 x1.N, vs x1.Name, .slice as1 ns1 cs1]] w' ∧ Has 62 a [(61, .bool v9)]) ?_ ?_
          ·rintro a wx10 ⟨Fx2, hF2, hx3, hax8⟩
           refine a1f hax8 ?_
           refine a0b rfl rfl rfl (a0c (a0d (a1d ?_)))
           refine a1l rfl rfl ?_
           obtain rfl := Option.some.inj hm
           exact ⟨_, _, _, rfl, hx3.pick [] (by decide) rfl, rfl, rfl⟩
          ·clear hm
           rcases a0g hb14 with ⟨hb15, hb14⟩ | ⟨hb15, hb14⟩
           ·refine a1j 56 rfl hb15 ?_
            refine a0h fa24_3 rfl rfl rfl ?_
            refine a0r ag22 rfl rfl hx2 rfl (i := 0) rfl rfl ?_
            obtain ⟨v10, hv2, hb14⟩ := bind_some hb14
            refine a0i ent129 rfl rfl rfl rfl hx2 (a6r _ _ _ _ hv2 hx2.sat (hs1.mono hF1) (show GFn Tryz.prog _ (.func (.func 130) #[] #[]) (fun F l v => ∃ (q0 : Expr) (a0_0 : Option Addr) (n0_0 : Nat) (c0_0 : Nat) (b : Bool), l = [.agg #[.int .i64 q0.Op, .int .i64 q0.N, vs q0.Name, .slice a0_0 n0_0 c0_0]] ∧ SlR rp_Expr F a0_0 n0_0 c0_0 q0.Args ∧ v = some (.bool b) ∧ (tariff_shaped_1 n) q0 = some b) from ⟨130, #[], rfl, ent130, fun F' hF' args r w hsat h => by
                               obtain ⟨q0, a0_0, n0_0, c0_0, b, rfl, hs0_0, hv, hb⟩ := h
                               obtain rfl := Option.some.inj hv
                               exact (ih.2 q0 _ hb hsat hs0_0).mono (by rintro _ _ ⟨v, F2, O', h1, h2, rfl, rfl⟩; exact ⟨_, F2, _, h1, h2, rfl, rfl⟩)⟩)) ?_
            rintro _ Fx3 _ wx11 hF3 hx4 ⟨rfl, rfl⟩
            refine a4g rfl rfl rfl (a0q rfl rfl rfl rfl (a0c ?_))
            refine a0n (fun a ha => ?_)
            cases hb14
            exact ⟨_, hF3, hx4.pick [0] (by decide) rfl, ha.cut (l := [61]) rfl⟩
           ·refine a1j 56 rfl hb15 ?_
            refine a0z rfl (by decide) rfl (a0z rfl (by decide) rfl (a0z rfl (by decide) rfl (a0z rfl (by decide) rfl (a0m rfl rfl rfl rfl (a0c ?_)))))
            refine a0n (fun a ha => ?_)
            cases hb14
            exact ⟨_, Frz.refl _, hx2.pick [0] (by decide) rfl, ha.cut (l := [61]) rfl⟩
         ·clear hm
          rcases a0g hb13 with ⟨hb16, hb13⟩ | ⟨hb16, hb13⟩
          ·refine a1j 51 rfl hb16 ?_
           refine a0h fa24_2 rfl rfl rfl ?_
           refine a0r ag9 rfl rfl hx2 rfl (i := 0) rfl rfl ?_
           refine c7z rfl rfl rfl rfl rfl ?_
           refine a0q rfl rfl rfl rfl (a0c ?_)
           refine a0n (fun a ha => ?_)
           cases hb13
           exact ⟨rfl, ha.cut (l := [1, 55]) rfl⟩
          ·refine a1j 51 rfl hb16 ?_
           refine a0z rfl (by decide) rfl (a0z rfl (by decide) rfl (a0z rfl (by decide) rfl (a0m rfl rfl rfl rfl (a0c ?_))))
           refine a0n (fun a ha => ?_)
           cases hb13
           exact ⟨rfl, ha.cut (l := [1, 55]) rfl⟩
       ·clear hm
        rcases a0g hb9 with ⟨hb17, hb9⟩ | ⟨hb17, hb9⟩
        ·refine a0t 37 rfl hb17 ?_
         refine a0y rfl (a1e ?_)
         refine a0n (fun a ha => ?_)
         cases hb9
         exact ⟨rfl, ha.cut (l := [1, 37]) rfl⟩
        ·refine a0t 37 rfl hb17 ?_
         refine a0s rfl (a0a ?_)
         refine a0u rfl rfl rfl rfl rfl ?_
         refine a0b rfl rfl rfl (a0c ?_)
         refine a0n (fun a ha => ?_)
         cases hb9
         exact ⟨rfl, ha.cut (l := [1, 37]) rfl⟩
    ·clear hm
     rcases a0g hb2 with ⟨hb18, hb2⟩ | ⟨hb18, hb2⟩
     ·refine b6e 11 rfl hb18 ?_
      refine a3v rfl rfl rfl (a3v rfl rfl rfl (a3v rfl rfl rfl (a3v rfl rfl rfl (a3v rfl rfl rfl (a3v rfl rfl rfl (a3v rfl rfl rfl ?_))))))
      refine a1h rfl rfl rfl rfl (fun _ _ _ _ => a0q rfl rfl rfl rfl (a0c (qq rfl))) ?_
      refine b6j (fun a ha => ?_)
      cases hb2
      exact ha.cut (l := [1, 19]) rfl
     ·refine b6e 11 rfl hb18 ?_
      refine a1h rfl rfl rfl rfl (fun _ _ _ _ => a0h fa24_3 rfl rfl rfl (a0c (qq rfl))) ?_
      refine a1h rfl rfl rfl rfl (fun _ _ _ hq => a0r ag22 rfl rfl hq rfl (i := 0) rfl rfl (a0c (qq rfl))) ?_
      refine a1h rfl rfl rfl rfl (fun _ _ _ _ => a1u hs1.len u22 rfl rfl rfl (a0c (qq rfl))) ?_
      refine a1h rfl rfl rfl rfl (fun _ _ _ _ => a0h fa24_0 rfl rfl rfl (a0c (qq rfl))) ?_
      refine a1h rfl rfl rfl rfl (fun _ _ _ hq => a0r ag3 rfl rfl hq rfl (i := 0) rfl rfl (a0c (qq rfl))) ?_
      obtain ⟨v11, hv3, hb2⟩ := bind_some hb2
      refine b0w ent128 rfl rfl rfl rfl (fun _ _ hleq hq => b8i _ _ _ hv3) ?_
      refine a1h rfl rfl rfl rfl (fun _ _ _ _ => a0u rfl rfl rfl rfl rfl (a0c (qq rfl))) ?_
      refine a1h rfl rfl rfl rfl (fun _ _ _ _ => a0m rfl rfl rfl rfl (a0c (qq rfl))) ?_
      refine b6j (fun a ha => ?_)
      cases hb2
      exact ha.cut (l := [1, 19]) rfl
   ·clear hm
    rcases a0g hb1 with ⟨hb19, hb1⟩ | ⟨hb19, hb1⟩
    ·refine b6e 6 rfl hb19 ?_
     refine a3v rfl rfl rfl (a3v rfl rfl rfl (a3v rfl rfl rfl ?_))
     refine a1h rfl rfl rfl rfl (fun _ _ _ _ => a0q rfl rfl rfl rfl (a0c (qq rfl))) ?_
     refine b6j (fun a ha => ?_)
     cases hb1
     exact ha.cut (l := [1, 10]) rfl
    ·refine b6e 6 rfl hb19 ?_
     refine a1h rfl rfl rfl rfl (fun _ _ _ _ => a0h fa24_0 rfl rfl rfl (a0c (qq rfl))) ?_
     refine a1h rfl rfl rfl rfl (fun _ _ _ hq => a0r ag3 rfl rfl hq rfl (i := 0) rfl rfl (a0c (qq rfl))) ?_
     refine a1h rfl rfl rfl rfl (fun _ _ _ _ => a0u rfl rfl rfl rfl rfl (a0c (qq rfl))) ?_
     refine a1h rfl rfl rfl rfl (fun _ _ _ _ => a0m rfl rfl rfl rfl (a0c (qq rfl))) ?_
     refine b6j (fun a ha => ?_)
     cases hb1
     exact ha.cut (l := [1, 10]) rfl
  ·intro ax1 r hm w F hs as1 ns1 cs1 hs1
   rw [b1h] at hm
   have h := HS.init hs
   refine a1a 6 Tryz.func130 rfl rfl rfl ?_
   refine a0f (a0a ?_)
   refine a2t rfl rfl rfl rfl h ?_
   intro b1 wx1 hx1
   refine a0b rfl rfl rfl (a0c (a0d (a0f (a0a ?_))))
   refine a0l ag24 sz24 rfl rfl hx1 rfl (i := 0) rfl rfl ?_
   obtain ⟨v1, hv1, hm⟩ := bind_some hm
   refine a0i ent90 rfl rfl rfl rfl hx1 (ih.1 _ _ hv1 hx1.sat hs1) ?_
   rintro _ Fx1 _ wx2 hF1 hx2 ⟨rfl, rfl⟩
   refine a4g rfl rfl rfl (a0b rfl rfl rfl (a0c (a0d (a1d ?_))))
   refine a1l rfl rfl ?_
   obtain rfl := Option.some.inj hm
   exact ⟨_, _, _, rfl, hx2.pick [] (by decide) rfl, rfl, rfl⟩
theorem b6k (n : Nat) (x1 : Expr) (r : Bool) (hm : tariff_shaped n x1 = some r) {w : World} {F : Frz} (hs : Sat F w) {as1 : Option Addr} {ns1 : Nat} {cs1 : Nat} (hs1 : SlR rp_Expr F as1 ns1 cs1 x1.Args) :
  Calls Tryz.prog 90 #[.agg #[.int .i64 x1.Op, .int .i64 x1.N, vs x1.Name, .slice as1 ns1 cs1]] w fun e w' => ∃ v F' O', e = .returned v ∧ HS F w [] F' O' w' ∧ (v = .bool r ∧ O' = []) :=
 (b5i n).1 x1 r hm hs hs1
theorem ze3 : c1c Tryz.prog 3 (.int .i64 0) := fun _ => by kernel_rfl
def a9b (n : Nat) (x1 : Expr) : Option Bool :=
 (tariff_sized n x1 10 100).bind fun v1 =>
 (bif v1.2 then
  (tariff_shaped n x1).bind fun v3 =>
  some v3
 else
  some false).bind fun v2 =>
 some v2
set_option maxHeartbeats 1000000 in
set_option maxRecDepth 1000000 in
theorem b3s (n : Nat) (x1 : Expr) (r : Bool) (hm : a9b n x1 = some r) {w : World} {F : Frz} (hs : Sat F w) {as1 : Option Addr} {ns1 : Nat} {cs1 : Nat} (hs1 : SlR rp_Expr F as1 ns1 cs1 x1.Args) :
  Calls Tryz.prog 50 #[.agg #[.int .i64 x1.Op, .int .i64 x1.N, vs x1.Name, .slice as1 ns1 cs1]] w fun e w' => ∃ v F' O', e = .returned v ∧ HS F w [] F' O' w' ∧ (v = .bool r ∧ O' = []) := by
 unfold a9b at hm
 have h := HS.init hs
 refine a1a 10 Tryz.func50 rfl rfl rfl ?_
 refine a0f (a0a ?_)
 refine a2t rfl rfl rfl rfl h ?_
 intro b1 wx1 hx1
 refine a0b rfl rfl rfl (a0c (a0d (a0f (a0a ?_))))
 refine a1b ze3 rfl rfl rfl hx1 ?_
 intro b2 wx2 hx2
 refine a0p sz3 rfl hx2 rfl rfl rfl rfl (i := 0) rfl rfl rfl rfl ?_
 intro wx3 hx3
 refine a0c (a0d (a0f (a0a ?_)))
 refine a0l ag24 sz24 rfl rfl hx3 rfl (i := 1) rfl rfl ?_
 obtain ⟨v1, hv1, hm⟩ := bind_some hm
 refine c6v ent89 rfl rfl rfl rfl hx3 (i := 0) rfl (b7k _ _ _ _ _ hv1 hx3.sat hs1 (hx3.get (i := 0) rfl) (hx3.lendable (i := 0) rfl)) ?_
 rintro _ Fx1 _ _ wx4 hF1 hx4 ⟨rfl, rfl, rfl⟩
 refine a0e rfl rfl rfl ?_
 obtain ⟨v2, hb1, hm⟩ := bind_some hm
 refine a2r 3 (fun a w' => ∃ (Fx2 : Frz), Frz.le Fx1 Fx2 ∧ HS F w [] Fx2 [.box b2 3 [.int .i64 v1.1], .box b1 24 [.int .i64 x1.Op, .int .i64 x1.N, vs x1.Name, .slice as1 ns1 cs1]] w' ∧ Has 10 a [(9, .bool v2)]) ?_ ?_
 ·rintro a wx5 ⟨Fx2, hF2, hx5, hax1⟩
  refine a1f hax1 ?_
  refine a0b rfl rfl rfl (a0c (a0d (a1d ?_)))
  refine a1l rfl rfl ?_
  obtain rfl := Option.some.inj hm
  exact ⟨_, _, _, rfl, hx5.pick [] (by decide) rfl, rfl, rfl⟩
 ·clear hm
  rcases a0g hb1 with ⟨hb2, hb1⟩ | ⟨hb2, hb1⟩
  ·refine a1j 6 rfl hb2 ?_
   refine a0l ag24 sz24 rfl rfl hx4 rfl (i := 1) rfl rfl ?_
   obtain ⟨v3, hv2, hb1⟩ := bind_some hb1
   refine a0i ent90 rfl rfl rfl rfl hx4 (b6k _ _ _ hv2 hx4.sat (hs1.mono hF1)) ?_
   rintro _ Fx3 _ wx6 hF3 hx6 ⟨rfl, rfl⟩
   refine a0q rfl rfl rfl rfl (a0c ?_)
   refine a0n (fun a ha => ?_)
   cases hb1
   exact ⟨_, hF3, hx6.pick [0, 1] (by decide) rfl, ha.cut (l := [9]) rfl⟩
  ·refine a1j 6 rfl hb2 ?_
   refine a0z rfl (by decide) rfl (a0z rfl (by decide) rfl (a0m rfl rfl rfl rfl (a0c ?_)))
   refine a0n (fun a ha => ?_)
   cases hb1
   exact ⟨_, Frz.refl _, hx4.pick [0, 1] (by decide) rfl, ha.cut (l := [9]) rfl⟩
structure Tariff where
 Name : Bs
 Fee : Expr
 Cap : Int
 deriving Inhabited
def rp_Tariff : Rp Tariff where
 k := 6
 R := fun F cs x => ∃ (a4 : Option Addr) (n4 : Nat) (c4 : Nat), cs = [vs x.Name, .int .i64 x.Fee.Op, .int .i64 x.Fee.N, vs x.Fee.Name, .slice a4 n4 c4, .int .i64 x.Cap] ∧ SlR rp_Expr F a4 n4 c4 x.Fee.Args
 len := by rintro F cs x ⟨a4, n4, c4, h, _⟩; simp [h]
 mono := by rintro F F' cs x hF ⟨a4, n4, c4, h, h0⟩; exact ⟨a4, n4, c4, h, h0.mono hF⟩
 one := by rintro F cs x ⟨a4, n4, c4, h, _⟩ u hu; subst h; simp at hu; rcases hu with rfl | rfl | rfl | rfl | rfl | rfl <;> rfl
theorem fa26_0 : a6n Tryz.prog 26 0 0 := fun _ _ _ => by kernel_rfl
theorem fa26_2 : a6n Tryz.prog 26 2 5 := fun _ _ _ => by kernel_rfl
theorem fa26_1 : a6n Tryz.prog 26 1 1 := fun _ _ _ => by kernel_rfl
theorem ent50 : Ent Tryz.prog 50 := fun _ _ => by kernel_rfl
def a6s (n : Nat) (t1 : Tariff) : Option Bool :=
 (a5k n t1.Name).bind fun v1 =>
 (bif v1 then
  (a9b n t1.Fee).bind fun v5 =>
  some v5
 else
  some false).bind fun v2 =>
 (bif v2 then
  some (decide ((-1) ≤ t1.Cap))
 else
  some false).bind fun v3 =>
 (bif v3 then
  some (decide (t1.Cap ≤ 1099511627776))
 else
  some false).bind fun v4 =>
 some v4
set_option maxHeartbeats 1000000 in
set_option maxRecDepth 1000000 in
theorem b4y (n : Nat) (t1 : Tariff) (r : Bool) (hm : a6s n t1 = some r) {w : World} {F : Frz} (hs : Sat F w) {as1 : Option Addr} {ns1 : Nat} {cs1 : Nat} (hs1 : SlR rp_Expr F as1 ns1 cs1 t1.Fee.Args) :
  Calls Tryz.prog 61 #[.agg #[vs t1.Name, .int .i64 t1.Fee.Op, .int .i64 t1.Fee.N, vs t1.Fee.Name, .slice as1 ns1 cs1, .int .i64 t1.Cap]] w fun e w' => ∃ v F' O', e = .returned v ∧ HS F w [] F' O' w' ∧ (v = .bool r ∧ O' = []) := by
 unfold a6s at hm
 have h := HS.init hs
 refine a1a 21 Tryz.func61 rfl rfl rfl ?_
 refine a0f (a0a ?_)
 refine a2t rfl rfl rfl rfl h ?_
 intro b1 wx1 hx1
 refine a0b rfl rfl rfl (a0c (a0d (a0f (a0a ?_))))
 refine a0h fa26_0 rfl rfl rfl ?_
 refine a0r ag9 rfl rfl hx1 rfl (i := 0) rfl rfl ?_
 obtain ⟨v1, hv1, hm⟩ := bind_some hm
 refine a3m ent87 rfl rfl rfl rfl (b1q _ _ _ hv1) ?_
 refine a0e rfl rfl rfl ?_
 obtain ⟨v2, hb1, hm⟩ := bind_some hm
 refine a2r 4 (fun a w' => ∃ (Fx1 : Frz), Frz.le F Fx1 ∧ HS F w [] Fx1 [.box b1 26 [vs t1.Name, .int .i64 t1.Fee.Op, .int .i64 t1.Fee.N, vs t1.Fee.Name, .slice as1 ns1 cs1, .int .i64 t1.Cap]] w' ∧ Has 21 a [(1, .pointer (some ⟨b1, 0, none⟩)), (10, .bool v2)]) ?_ ?_
 ·rintro a wx2 ⟨Fx1, hF1, hx2, hax1⟩
  refine a1f hax1 ?_
  refine a0e rfl rfl rfl ?_
  obtain ⟨v3, hb2, hm⟩ := bind_some hm
  refine a2r 4 (fun a w' => wx2 = w' ∧ Has 21 a [(1, .pointer (some ⟨b1, 0, none⟩)), (15, .bool v3)]) ?_ ?_
  ·rintro a wx3 ⟨rfl, hax2⟩
   refine a1f hax2 ?_
   refine a0e rfl rfl rfl ?_
   obtain ⟨v4, hb3, hm⟩ := bind_some hm
   refine a2r 4 (fun a w' => wx2 = w' ∧ Has 21 a [(20, .bool v4)]) ?_ ?_
   ·rintro a wx4 ⟨rfl, hax3⟩
    refine a1f hax3 ?_
    refine a0b rfl rfl rfl (a0c (a0d (a1d ?_)))
    refine a1l rfl rfl ?_
    obtain rfl := Option.some.inj hm
    exact ⟨_, _, _, rfl, hx2.pick [] (by decide) rfl, rfl, rfl⟩
   ·clear hm
    rcases a0g hb3 with ⟨hb4, hb3⟩ | ⟨hb4, hb3⟩
    ·refine a1j 16 rfl hb4 ?_
     refine a0h fa26_2 rfl rfl rfl ?_
     refine a0r ag3 rfl rfl hx2 rfl (i := 0) rfl rfl ?_
     refine a0u rfl rfl rfl rfl rfl ?_
     refine a0q rfl rfl rfl rfl (a0c ?_)
     refine a0n (fun a ha => ?_)
     cases hb3
     exact ⟨rfl, ha.cut (l := [20]) rfl⟩
    ·refine a1j 16 rfl hb4 ?_
     refine a0z rfl (by decide) rfl (a0z rfl (by decide) rfl (a0z rfl (by decide) rfl (a0m rfl rfl rfl rfl (a0c ?_))))
     refine a0n (fun a ha => ?_)
     cases hb3
     exact ⟨rfl, ha.cut (l := [20]) rfl⟩
  ·clear hm
   rcases a0g hb2 with ⟨hb5, hb2⟩ | ⟨hb5, hb2⟩
   ·refine a1j 11 rfl hb5 ?_
    refine a0h fa26_2 rfl rfl rfl ?_
    refine a0r ag3 rfl rfl hx2 rfl (i := 0) rfl rfl ?_
    refine a0u rfl rfl rfl rfl rfl ?_
    refine a0q rfl rfl rfl rfl (a0c ?_)
    refine a0n (fun a ha => ?_)
    cases hb2
    exact ⟨rfl, ha.cut (l := [1, 15]) rfl⟩
   ·refine a1j 11 rfl hb5 ?_
    refine a0z rfl (by decide) rfl (a0z rfl (by decide) rfl (a0z rfl (by decide) rfl (a0m rfl rfl rfl rfl (a0c ?_))))
    refine a0n (fun a ha => ?_)
    cases hb2
    exact ⟨rfl, ha.cut (l := [1, 15]) rfl⟩
 ·clear hm
  rcases a0g hb1 with ⟨hb6, hb1⟩ | ⟨hb6, hb1⟩
  ·refine a1j 6 rfl hb6 ?_
   refine a0h fa26_1 rfl rfl rfl ?_
   refine a2m (cs' := [.int .i64 t1.Fee.Op, .int .i64 t1.Fee.N, vs t1.Fee.Name, .slice as1 ns1 cs1]) ag24 sz24 rfl rfl hx1 rfl (i := 0) rfl rfl rfl ?_
   obtain ⟨v5, hv2, hb1⟩ := bind_some hb1
   refine a0i ent50 rfl rfl rfl rfl hx1 (b3s _ _ _ hv2 hx1.sat hs1) ?_
   rintro _ Fx2 _ wx5 hF2 hx3 ⟨rfl, rfl⟩
   refine a0q rfl rfl rfl rfl (a0c ?_)
   refine a0n (fun a ha => ?_)
   cases hb1
   exact ⟨_, hF2, hx3.pick [0] (by decide) rfl, ha.cut (l := [1, 10]) rfl⟩
  ·refine a1j 6 rfl hb6 ?_
   refine a0z rfl (by decide) rfl (a0z rfl (by decide) rfl (a0z rfl (by decide) rfl (a0m rfl rfl rfl rfl (a0c ?_))))
   refine a0n (fun a ha => ?_)
   cases hb1
   exact ⟨_, Frz.refl _, hx1.pick [0] (by decide) rfl, ha.cut (l := [1, 10]) rfl⟩
theorem ent49 : Ent Tryz.prog 49 := fun _ _ => by kernel_rfl
theorem ag26 : a9y Tryz.prog 26 true := fun _ => by kernel_rfl
theorem sz26 : a5f Tryz.prog 26 6 := fun _ => by kernel_rfl
theorem ent61 : Ent Tryz.prog 61 := fun _ _ => by kernel_rfl
def a9q (n : Nat) (t1 : Tariff) (names1 : (List Bs)) : Option Int :=
 (a9m n names1).bind fun v1 =>
 bif !v1 then
  some 1
 else
  (a6s n t1).bind fun v2 =>
  bif !v2 then
   some 2
  else
   (tariff_typed n t1.Fee names1).bind fun v3 =>
   (bif v3.2 == 0 then
    some (v3.1 == 0)
   else
    some false).bind fun v4 =>
   bif v4 then
    some 13
   else
    some v3.2
set_option maxHeartbeats 1000000 in
set_option maxRecDepth 1000000 in
theorem b7u (n : Nat) (t1 : Tariff) (names1 : (List Bs)) (r : Int) (hm : a9q n t1 names1 = some r) {w : World} {F : Frz} (hs : Sat F w) {as1 : Option Addr} {ns1 : Nat} {cs1 : Nat} {as2 : Option Addr} {ns2 : Nat} {cs2 : Nat} (hs1 : SlR rp_Expr F as1 ns1 cs1 t1.Fee.Args) (hs2 : SlR Rp.str F as2 ns2 cs2 names1) :
  Calls Tryz.prog 32 #[.agg #[vs t1.Name, .int .i64 t1.Fee.Op, .int .i64 t1.Fee.N, vs t1.Fee.Name, .slice as1 ns1 cs1, .int .i64 t1.Cap], .slice as2 ns2 cs2] w fun e w' => ∃ v F' O', e = .returned v ∧ HS F w [] F' O' w' ∧ (v = .int .i64 r ∧ O' = []) := by
 unfold a9q at hm
 have h := HS.init hs
 refine a1a 29 Tryz.func32 rfl rfl rfl ?_
 refine a0f (a0a ?_)
 refine a2t rfl rfl rfl rfl h ?_
 intro b1 wx1 hx1
 refine a0b rfl rfl rfl (a0c (a0d (a0f (a1g (a0f (a0a (a0e rfl rfl rfl ?_)))))))
 obtain ⟨v1, hv1, hm⟩ := bind_some hm
 refine a3m ent49 rfl rfl rfl rfl (b2r _ _ _ hv1 hx1.sat hs2) ?_
 refine a4g rfl rfl rfl (a0b rfl rfl rfl (a0c (a0d ?_)))
 rcases a0g hm with ⟨hb1, hm⟩ | ⟨hb1, hm⟩
 ·refine a0t 7 rfl hb1 ?_
  refine a0y rfl (a0f (a0a (a0b rfl rfl rfl (a0c (a0d (a1d (a0x (a0k ?_))))))))
  refine a1l rfl rfl ?_
  obtain rfl := Option.some.inj hm
  exact ⟨_, _, _, rfl, hx1.pick [] (by decide) rfl, rfl, rfl⟩
 ·refine a0t 7 rfl hb1 ?_
  refine a0s rfl (a0f (a0a ?_))
  refine a0l ag26 sz26 rfl rfl hx1 rfl (i := 0) rfl rfl ?_
  obtain ⟨v2, hv2, hm⟩ := bind_some hm
  refine a0i ent61 rfl rfl rfl rfl hx1 (b4y _ _ _ hv2 hx1.sat hs1) ?_
  rintro _ Fx1 _ wx2 hF1 hx2 ⟨rfl, rfl⟩
  refine a4g rfl rfl rfl (a0b rfl rfl rfl (a0c (a0d ?_)))
  rcases a0g hm with ⟨hb2, hm⟩ | ⟨hb2, hm⟩
  ·refine a0t 11 rfl hb2 ?_
   refine a0y rfl (a0f (a0a (a0b rfl rfl rfl (a0c (a0d (a1d (a0x (a0k ?_))))))))
   refine a1l rfl rfl ?_
   obtain rfl := Option.some.inj hm
   exact ⟨_, _, _, rfl, hx2.pick [] (by decide) rfl, rfl, rfl⟩
  ·refine a0t 11 rfl hb2 ?_
   refine a0s rfl (a1e (a1m (a0d (a0f (a0a ?_)))))
   refine a0h fa26_1 rfl rfl rfl ?_
   refine a2m (cs' := [.int .i64 t1.Fee.Op, .int .i64 t1.Fee.N, vs t1.Fee.Name, .slice as1 ns1 cs1]) ag24 sz24 rfl rfl hx2 rfl (i := 0) rfl rfl rfl ?_
   refine a0e rfl rfl rfl ?_
   obtain ⟨v3, hv3, hm⟩ := bind_some hm
   refine a0i ent51 rfl rfl rfl rfl hx2 (b3i _ _ _ _ hv3 hx2.sat (hs1.mono hF1) (hs2.mono hF1)) ?_
   rintro _ Fx2 _ wx3 hF2 hx3 ⟨rfl, rfl⟩
   refine a0e rfl rfl rfl (a0j rfl rfl rfl rfl (a0j rfl rfl rfl rfl (a0b rfl rfl rfl (a0b rfl rfl rfl (a0c (a0d (a0f (a0f (a0a (a0e rfl rfl rfl ?_))))))))))
   refine a0u rfl rfl rfl rfl rfl ?_
   refine a0e rfl rfl rfl ?_
   obtain ⟨v4, hb3, hm⟩ := bind_some hm
   refine a2r 3 (fun a w' => wx3 = w' ∧ Has 29 a [(6, .int .i64 v3.2), (27, .bool v4)]) ?_ ?_
   ·rintro a wx4 ⟨rfl, hax1⟩
    refine a1f hax1 ?_
    refine a0c (a0d ?_)
    rcases a0g hm with ⟨hb4, hm⟩ | ⟨hb4, hm⟩
    ·refine a0t 27 rfl hb4 ?_
     refine a0y rfl (a0f (a0a (a0b rfl rfl rfl (a0c (a0d (a1d (a0k ?_)))))))
     refine a1l rfl rfl ?_
     obtain rfl := Option.some.inj hm
     exact ⟨_, _, _, rfl, hx3.pick [] (by decide) rfl, rfl, rfl⟩
    ·refine a0t 27 rfl hb4 ?_
     refine a0s rfl (a1e (a0d (a0f (a0a (a0e rfl rfl rfl (a0b rfl rfl rfl (a0c (a0d (a1d ?_)))))))))
     refine a1l rfl rfl ?_
     obtain rfl := Option.some.inj hm
     exact ⟨_, _, _, rfl, hx3.pick [] (by decide) rfl, rfl, rfl⟩
   ·clear hm
    rcases a0g hb3 with ⟨hb5, hb3⟩ | ⟨hb5, hb3⟩
    ·refine a1j 24 rfl hb5 ?_
     refine a0e rfl rfl rfl ?_
     refine a0u rfl rfl rfl rfl rfl ?_
     refine a0q rfl rfl rfl rfl (a0c ?_)
     refine a0n (fun a ha => ?_)
     cases hb3
     exact ⟨rfl, ha.cut (l := [6, 27]) rfl⟩
    ·refine a1j 24 rfl hb5 ?_
     refine a0z rfl (by decide) rfl (a0z rfl (by decide) rfl (a0m rfl rfl rfl rfl (a0c ?_)))
     refine a0n (fun a ha => ?_)
     cases hb3
     exact ⟨rfl, ha.cut (l := [6, 27]) rfl⟩
def a7y (n : Nat) (x1 : Expr) (names1 : (List Bs)) : Option (Int × Int) :=
 (a9m n names1).bind fun v1 =>
 bif !v1 then
  some (0, 1)
 else
  (a9b n x1).bind fun v2 =>
  bif !v2 then
   some (0, 2)
  else
   (tariff_typed n x1 names1).bind fun v3 =>
   some (v3.1, v3.2)
set_option maxHeartbeats 1000000 in
set_option maxRecDepth 1000000 in
theorem b8s (n : Nat) (x1 : Expr) (names1 : (List Bs)) (r : (Int × Int)) (hm : a7y n x1 names1 = some r) {w : World} {F : Frz} (hs : Sat F w) {as1 : Option Addr} {ns1 : Nat} {cs1 : Nat} {as2 : Option Addr} {ns2 : Nat} {cs2 : Nat} (hs1 : SlR rp_Expr F as1 ns1 cs1 x1.Args) (hs2 : SlR Rp.str F as2 ns2 cs2 names1) :
  Calls Tryz.prog 18 #[.agg #[.int .i64 x1.Op, .int .i64 x1.N, vs x1.Name, .slice as1 ns1 cs1], .slice as2 ns2 cs2] w fun e w' => ∃ v F' O', e = .returned v ∧ HS F w [] F' O' w' ∧ (v = .tuple #[.int .i64 r.1, .int .i64 r.2] ∧ O' = []) := by
 unfold a7y at hm
 have h := HS.init hs
 refine a1a 19 Tryz.func18 rfl rfl rfl ?_
 refine a0f (a0a ?_)
 refine a2t rfl rfl rfl rfl h ?_
 intro b1 wx1 hx1
 refine a0b rfl rfl rfl (a0b rfl rfl rfl (a0c (a0d (a0f (a1g (a0f (a0a (a0e rfl rfl rfl ?_))))))))
 obtain ⟨v1, hv1, hm⟩ := bind_some hm
 refine a3m ent49 rfl rfl rfl rfl (b2r _ _ _ hv1 hx1.sat hs2) ?_
 refine a4g rfl rfl rfl (a0b rfl rfl rfl (a0c (a0d ?_)))
 rcases a0g hm with ⟨hb1, hm⟩ | ⟨hb1, hm⟩
 ·refine a0t 6 rfl hb1 ?_
  refine a0y rfl (a0f (a0a (a0b rfl rfl rfl (a0b rfl rfl rfl (a0c (a0d (a1d (a0x (a0k ?_)))))))))
  refine a1v (vl := [.int .i64 0, .int .i64 1]) rfl ⟨a1z rfl, a1z rfl, trivial⟩ (by simp) ?_
  obtain rfl := Option.some.inj hm
  exact ⟨_, _, _, rfl, hx1.pick [] (by decide) rfl, rfl, rfl⟩
 ·refine a0t 6 rfl hb1 ?_
  refine a0s rfl (a0f (a0a ?_))
  refine a0l ag24 sz24 rfl rfl hx1 rfl (i := 0) rfl rfl ?_
  obtain ⟨v2, hv2, hm⟩ := bind_some hm
  refine a0i ent50 rfl rfl rfl rfl hx1 (b3s _ _ _ hv2 hx1.sat hs1) ?_
  rintro _ Fx1 _ wx2 hF1 hx2 ⟨rfl, rfl⟩
  refine a4g rfl rfl rfl (a0b rfl rfl rfl (a0c (a0d ?_)))
  rcases a0g hm with ⟨hb2, hm⟩ | ⟨hb2, hm⟩
  ·refine a0t 10 rfl hb2 ?_
   refine a0y rfl (a0f (a0a (a0b rfl rfl rfl (a0b rfl rfl rfl (a0c (a0d (a1d (a0x (a0k ?_)))))))))
   refine a1v (vl := [.int .i64 0, .int .i64 2]) rfl ⟨a1z rfl, a1z rfl, trivial⟩ (by simp) ?_
   obtain rfl := Option.some.inj hm
   exact ⟨_, _, _, rfl, hx2.pick [] (by decide) rfl, rfl, rfl⟩
  ·refine a0t 10 rfl hb2 ?_
   refine a0s rfl (a1e (a1m (a0d (a0f (a0a ?_)))))
   refine a0l ag24 sz24 rfl rfl hx2 rfl (i := 0) rfl rfl ?_
   refine a0e rfl rfl rfl ?_
   obtain ⟨v3, hv3, hm⟩ := bind_some hm
   refine a0i ent51 rfl rfl rfl rfl hx2 (b3i _ _ _ _ hv3 hx2.sat (hs1.mono hF1) (hs2.mono hF1)) ?_
   rintro _ Fx2 _ wx3 hF2 hx3 ⟨rfl, rfl⟩
   refine a0j rfl rfl rfl rfl (a0j rfl rfl rfl rfl (a0b rfl rfl rfl (a0b rfl rfl rfl (a0c (a0d (a1d ?_))))))
   refine a1v (vl := [.int .i64 v3.1, .int .i64 v3.2]) rfl ⟨a1z rfl, a1z rfl, trivial⟩ (by simp) ?_
   obtain rfl := Option.some.inj hm
   exact ⟨_, _, _, rfl, hx3.pick [] (by decide) rfl, rfl, rfl⟩
end Go.Proofs.YtknpjecpcmajiaaGreat.M

