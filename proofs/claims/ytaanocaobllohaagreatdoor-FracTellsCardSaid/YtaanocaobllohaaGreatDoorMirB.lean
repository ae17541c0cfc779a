/-
  THE MIRRORS of the fractions' and the big integers' functions, of their references and of the laws, and that each call returns what its mirror says. Printed by gen.py.
-/
import Derived.Test.YtaanocaobllohaaGreatDoorRows
import Derived.Test.YtaanocaobllohaaGreatDoorTrim
import Derived.Test.YtaanocaobllohaaGreatDoorExtC
import Derived.Test.YtaanocaobllohaaGreatDoorRtX
import Derived.Test.YtaanocaobllohaaGreatDoorMirA
namespace Go.Proofs.YtaanocaobllohaaGreatDoor.M
open Go Go.RowKit Rt
theorem ent99 : Ent Tryz.prog 99 := fun _ _ => by kernel_rfl
theorem ent77 : Ent Tryz.prog 77 := fun _ _ => by kernel_rfl
theorem ent115 : Ent Tryz.prog 115 := fun _ _ => by kernel_rfl
def a7s (n : Nat) (v6 : (List Int)) (i1 : Int) (l5 : List Int) (kont2 : Int → Option ((List Int) × (List Int))) : Nat → Int → Int → Option ((List Int) × (List Int))
 | 0, _, _ => none
 | mx2 + 1, guess1, rest1 =>
  (bif decide (1048576 ≤ guess1) then
   some true
  else
   (bif decide (rest1 < 1048576) then
    (ix v6 (isub .i64 (v6.length : Int) 2)).bind fun ex8 =>
    (shl .i64 rest1 20).bind fun q4 =>
    (ix l5 (isub .i64 (iadd .i64 i1 (v6.length : Int)) 2)).bind fun ex9 =>
    some (decide ((ior .i64 q4 ex9) < (imul .i64 guess1 ex8)))
   else
    some false).bind fun v12 =>
   some v12).bind fun v11 =>
  bif v11 then
   (ix v6 (isub .i64 (v6.length : Int) 1)).bind fun ex7 =>
   a7s n v6 i1 l5 kont2 mx2 (isub .i64 guess1 1) (iadd .i64 rest1 ex7)
  else
   kont2 guess1
theorem b0w (n : Nat) (v6 : (List Int)) (i1 : Int) (l5 : List Int) (kont2 : Int → Option ((List Int) × (List Int))) (mx2 : Nat) (guess1 : Int) (rest1 : Int) : a7s n v6 i1 l5 kont2 (mx2 + 1) guess1 rest1 =
  (bif decide (1048576 ≤ guess1) then
   some true
  else
   (bif decide (rest1 < 1048576) then
    (ix v6 (isub .i64 (v6.length : Int) 2)).bind fun ex8 =>
    (shl .i64 rest1 20).bind fun q4 =>
    (ix l5 (isub .i64 (iadd .i64 i1 (v6.length : Int)) 2)).bind fun ex9 =>
    some (decide ((ior .i64 q4 ex9) < (imul .i64 guess1 ex8)))
   else
    some false).bind fun v12 =>
   some v12).bind fun v11 =>
  bif v11 then
   (ix v6 (isub .i64 (v6.length : Int) 1)).bind fun ex7 =>
   a7s n v6 i1 l5 kont2 mx2 (isub .i64 guess1 1) (iadd .i64 rest1 ex7)
  else
   kont2 guess1 := rfl
def a6x (n : Nat) (v6 : (List Int)) (kont1 : (List Int) → (List Int) → Option ((List Int) × (List Int))) : Nat → Int → (List Int) → (List Int) → Option ((List Int) × (List Int))
 | 0, _, _, _ => none
 | mx1 + 1, i1, l4, l5 =>
  bif decide (0 ≤ i1) then
   (ix l5 (iadd .i64 i1 (v6.length : Int))).bind fun ex2 =>
   (shl .i64 ex2 20).bind fun q1 =>
   (ix l5 (isub .i64 (iadd .i64 i1 (v6.length : Int)) 1)).bind fun ex3 =>
   (ix v6 (isub .i64 (v6.length : Int) 1)).bind fun ex4 =>
   (quo .i64 (ior .i64 q1 ex3) ex4).bind fun q2 =>
   (ix v6 (isub .i64 (v6.length : Int) 1)).bind fun ex5 =>
   (rem (ior .i64 q1 ex3) ex5).bind fun q3 =>
   a7s n v6 i1 l5 (fun (guess2 : Int) =>
    (lsl l5 i1 (iadd .i64 (iadd .i64 i1 (v6.length : Int)) 1)).bind fun l8 =>
    (a7t n l8 v6 guess2).bind fun v10 =>
    (ix l4 i1).bind fun _ =>
    (lset l4 i1 v10.2).bind fun l9 =>
    a6x n v6 kont1 mx1 (isub .i64 i1 1) l9 (lput l5 i1 v10.1 (iadd .i64 (iadd .i64 i1 (v6.length : Int)) 1))) n q2 q3
  else
   kont1 l4 l5
theorem b2j (n : Nat) (v6 : (List Int)) (kont1 : (List Int) → (List Int) → Option ((List Int) × (List Int))) (mx1 : Nat) (i1 : Int) (l4 : List Int) (l5 : List Int) : a6x n v6 kont1 (mx1 + 1) i1 l4 l5 =
  bif decide (0 ≤ i1) then
   (ix l5 (iadd .i64 i1 (v6.length : Int))).bind fun ex2 =>
   (shl .i64 ex2 20).bind fun q1 =>
   (ix l5 (isub .i64 (iadd .i64 i1 (v6.length : Int)) 1)).bind fun ex3 =>
   (ix v6 (isub .i64 (v6.length : Int) 1)).bind fun ex4 =>
   (quo .i64 (ior .i64 q1 ex3) ex4).bind fun q2 =>
   (ix v6 (isub .i64 (v6.length : Int) 1)).bind fun ex5 =>
   (rem (ior .i64 q1 ex3) ex5).bind fun q3 =>
   a7s n v6 i1 l5 (fun (guess2 : Int) =>
    (lsl l5 i1 (iadd .i64 (iadd .i64 i1 (v6.length : Int)) 1)).bind fun l8 =>
    (a7t n l8 v6 guess2).bind fun v10 =>
    (ix l4 i1).bind fun _ =>
    (lset l4 i1 v10.2).bind fun l9 =>
    a6x n v6 kont1 mx1 (isub .i64 i1 1) l9 (lput l5 i1 v10.1 (iadd .i64 (iadd .i64 i1 (v6.length : Int)) 1))) n q2 q3
  else
   kont1 l4 l5 := rfl
def a8p (n : Nat) (b1 : (List Int)) (kont3 : Int → Option ((List Int) × (List Int))) : Nat → Int → Option ((List Int) × (List Int))
 | 0, _ => none
 | mx3 + 1, shift1 =>
  (ix b1 (isub .i64 (b1.length : Int) 1)).bind fun ex10 =>
  bif decide ((imul .i64 ex10 shift1) < 524288) then
   a8p n b1 kont3 mx3 (imul .i64 shift1 2)
  else
   kont3 shift1
theorem b0x (n : Nat) (b1 : (List Int)) (kont3 : Int → Option ((List Int) × (List Int))) (mx3 : Nat) (shift1 : Int) : a8p n b1 kont3 (mx3 + 1) shift1 =
  (ix b1 (isub .i64 (b1.length : Int) 1)).bind fun ex10 =>
  bif decide ((imul .i64 ex10 shift1) < 524288) then
   a8p n b1 kont3 mx3 (imul .i64 shift1 2)
  else
   kont3 shift1 := rfl
def b3b (n : Nat) (ax1 : (List Int)) (b1 : (List Int)) : Option ((List Int) × (List Int)) :=
 (a6p n ax1 b1).bind fun v1 =>
 bif decide (v1 < 0) then
  (a1v n ax1).bind fun v2 =>
  some ([], v2)
 else
  bif (b1.length : Int) == 1 then
   (ix b1 0).bind fun ex1 =>
   (a5s n ax1 ex1).bind fun v3 =>
   (a2u n [v3.2]).bind fun v4 =>
   some (v3.1, v4)
  else
   a8p n b1 (fun (shift2 : Int) =>
    (a8o n ax1 [shift2]).bind fun v5 =>
    (app 8 v5 [0]).bind fun l1 =>
    (a8o n b1 [shift2]).bind fun v6 =>
    (bif (l1.length : Int) == (ax1.length : Int) then
     (app 8 l1 [0]).bind fun l10 =>
     some l10
    else
     some l1).bind fun l2 =>
    (mks 8 0 (isub .i64 (l2.length : Int) (v6.length : Int))).bind fun l3 =>
    a6x n v6 (fun (l6 : List Int) (l7 : List Int) =>
     (a2u n l7).bind fun v7 =>
     (a5s n v7 shift2).bind fun v8 =>
     (a2u n l6).bind fun v9 =>
     some (v9, v8.1)) n (isub .i64 (l3.length : Int) 1) l3 l2) n 1
set_option maxHeartbeats 1000000 in
set_option maxRecDepth 1000000 in
theorem b9d (n : Nat) (ax1 : (List Int)) (b1 : (List Int)) (r : ((List Int) × (List Int))) (hm : b3b n ax1 b1 = some r) {w : World} {F : Frz} (hs : Sat F w) {as1 : Option Addr} {ns1 : Nat} {cs1 : Nat} {as2 : Option Addr} {ns2 : Nat} {cs2 : Nat} (hs1 : SlR (Rp.int .i64) F as1 ns1 cs1 ax1) (hs2 : SlR (Rp.int .i64) F as2 ns2 cs2 b1) :
  Calls Tryz.prog 93 #[.slice as1 ns1 cs1, .slice as2 ns2 cs2] w fun e w' => ∃ v F' O', e = .returned v ∧ HS F w [] F' O' w' ∧ (∃ (a0_0 : Option Addr) (n0_0 : Nat) (c0_0 : Nat) (a1_0 : Option Addr) (n1_0 : Nat) (c1_0 : Nat) (xs1_0 : List Value), v = .tuple #[.slice a0_0 n0_0 c0_0, .slice a1_0 n1_0 c1_0] ∧ O' = [.row 3 1 a1_0 n1_0 c1_0 xs1_0] ∧ SlR (Rp.int .i64) F' a0_0 n0_0 c0_0 r.1 ∧ RowN (Rp.int .i64) F' n1_0 xs1_0 r.2) := by
 unfold b3b at hm
 have h := HS.init hs
 refine a0x 170 Tryz.func93 rfl rfl rfl ?_
 refine a0f (a0a (a0b rfl rfl rfl (a0b rfl rfl rfl (a0c (a0d (a0f (a0f (a0a (a0e rfl rfl rfl (a0e rfl rfl rfl ?_))))))))))
 obtain ⟨v1, hv1, hm⟩ := bind_some hm
 refine a0g ent80 rfl rfl rfl rfl h (b1k _ _ _ _ hv1 h.sat hs1 hs2) ?_
 rintro _ Fx1 _ wx1 hF1 hx1 ⟨rfl, rfl⟩
 refine a0v rfl rfl rfl rfl rfl ?_
 refine a0c (a0d ?_)
 rcases a0i hm with ⟨hb1, hm⟩ | ⟨hb1, hm⟩
 ·refine a0u 22 rfl hb1 ?_
  refine a0z rfl (a0f (a0a (a0e rfl rfl rfl ?_)))
  obtain ⟨v2, hv2, hm⟩ := bind_some hm
  refine a0g ent82 rfl rfl rfl rfl hx1 (a3y _ _ _ hv2 hx1.sat (hs1.mono hF1)) ?_
  rintro _ Fx2 _ wx2 hF2 hx2 ⟨as3, ns3, cs3, xss3, rfl, rfl, hs3⟩
  refine a0b rfl rfl rfl (a0b rfl rfl rfl (a0c (a0d (a1d (a0n ?_)))))
  refine a1k (vl := [.slice none 0 0, .slice as3 ns3 cs3]) rfl ⟨a1w rfl, a1w rfl, trivial⟩ (by simp) ?_
  obtain rfl := Option.some.inj hm
  exact ⟨_, _, _, rfl, hx2.pick [0] (by decide) rfl, none, 0, 0, as3, ns3, cs3, xss3, rfl, rfl, SlR.nil _ _, hs3⟩
 refine a0u 22 rfl hb1 ?_
 refine a0s rfl (a1b (a0d (a0f (a0f (a0a (a0e rfl rfl rfl ?_))))))
 refine a1z hs2.len u22 rfl rfl rfl ?_
 refine a0v rfl rfl rfl rfl rfl ?_
 refine a0c (a0d ?_)
 rcases a0i hm with ⟨hb2, hm⟩ | ⟨hb2, hm⟩
 ·refine a0u 27 rfl hb2 ?_
  refine a0z rfl (a0f (a0a (a0e rfl rfl rfl (a0e rfl rfl rfl ?_))))
  obtain ⟨ex1, he1, hm⟩ := bind_some hm
  refine a3w (r := (Rp.int .i64)) u22 sz3 rfl rfl rfl rfl (hs2.mono hF1) he1 ?_
  intro b2 o1 cs1 hf1 hr1
  have hc1 : cs1 = [.int .i64 ex1] := hr1
  subst hc1
  refine a2h (j := 0) ag3 rfl rfl hx1 hf1 rfl rfl ?_
  obtain ⟨v3, hv3, hm⟩ := bind_some hm
  refine a0g ent99 rfl rfl rfl rfl hx1 (b2n _ _ _ _ hv3 hx1.sat (hs1.mono hF1)) ?_
  rintro _ Fx3 _ wx3 hF3 hx3 ⟨as4, ns4, cs4, xss4, rfl, rfl, hs4⟩
  refine a0e rfl rfl rfl (a0j rfl rfl rfl rfl (a0j rfl rfl rfl rfl (a0b rfl rfl rfl (a0b rfl rfl rfl (a0c (a0d (a0f (a0a (a0e rfl rfl rfl (a0e rfl rfl rfl ?_))))))))))
  refine a1x (e := 3) (cs := [.int .i64 v3.2]) (q := 1) rfl rfl hx3 rfl (fun _ => by kernel_rfl) rfl rfl ?_
  intro b3 wx4 hx4
  obtain ⟨v4, hv4, hm⟩ := bind_some hm
  refine b1w ent91 rfl rfl rfl rfl (a6f _ _ _ hv4 (a7l _) (hx4.viewRow (p := 0) rfl rfl ((show RowN (Rp.int .i64) Fx3 1 [.int .i64 v3.2] [v3.2] from ⟨rfl, ⟨_, _, rfl, rfl, (rfl : RowR (Rp.int .i64) _ [] [])⟩⟩)))) ?_
  intro ns5 hles5 hvs5
  obtain ⟨hx5, hr2⟩ := hx4.cutN (p := 0) rfl ((show RowN (Rp.int .i64) Fx3 1 [.int .i64 v3.2] [v3.2] from ⟨rfl, ⟨_, _, rfl, rfl, (rfl : RowR (Rp.int .i64) _ [] [])⟩⟩)) hles5
  rw [← hvs5] at hr2
  refine a0b rfl rfl rfl (a0b rfl rfl rfl (a0c (a0d (a1d (a0n ?_)))))
  obtain ⟨Fx4, hF4, hx6, hsx1⟩ := a1g hx5 (i := 1) rfl hs4
  refine a1k (vl := [.slice as4 ns4 cs4, .slice (some ⟨b3, 0, none⟩) ns5 1]) rfl ⟨a1w rfl, a1w rfl, trivial⟩ (by simp) ?_
  obtain rfl := Option.some.inj hm
  exact ⟨_, _, _, rfl, hx6.pick [0] (by decide) rfl, as4, ns4, cs4, (some ⟨b3, 0, none⟩), ns5, 1, ([.int .i64 v3.2].take (ns5 * ((Rp.int .i64)).k)), rfl, rfl, hsx1, (hr2.mono hF4)⟩
 refine a0u 27 rfl hb2 ?_
 refine a0s rfl (a1b (a0d (a0f (a0a (a0b rfl rfl rfl (a0c (a0d (a0f (a1i ?_)))))))))
 intro a hax16
 obtain ⟨kont3, hkont3⟩ : ∃ kont3 : Int → Option ((List Int) × (List Int)), kont3 = (fun (shift2 : Int) =>
     (a8o n ax1 [shift2]).bind fun v5 =>
     (app 8 v5 [0]).bind fun l1 =>
     (a8o n b1 [shift2]).bind fun v6 =>
     (bif (l1.length : Int) == (ax1.length : Int) then
      (app 8 l1 [0]).bind fun l10 =>
      some l10
     else
      some l1).bind fun l2 =>
     (mks 8 0 (isub .i64 (l2.length : Int) (v6.length : Int))).bind fun l3 =>
     a6x n v6 (fun (l6 : List Int) (l7 : List Int) =>
      (a2u n l7).bind fun v7 =>
      (a5s n v7 shift2).bind fun v8 =>
      (a2u n l6).bind fun v9 =>
      some (v9, v8.1)) n (isub .i64 (l3.length : Int) 1) l3 l2) := ⟨_, rfl⟩
 replace hm : (fun m (s : Int) => a8p n b1 kont3 m s) n 1 = some r := by rw [hkont3]; exact hm
 refine a5u (id := 0) (fun m (s : Int) => a8p n b1 kont3 m s) (fun (y : Int) => kont3 y) r (fun (s : Int) a w' => wx1 = w' ∧ Has 170 a [(0, .slice as1 ns1 cs1), (1, .slice as2 ns2 cs2), (8, .int .i64 s)]) (fun (y : Int) a w' => wx1 = w' ∧ Has 170 a [(0, .slice as1 ns1 cs1), (1, .slice as2 ns2 cs2), (8, .int .i64 y)]) (fun _ => rfl) ?_ ?_ hm ⟨rfl, hax16.cut (l := [0, 1, 8]) rfl⟩
 ·clear hm; rintro shift2 a wx5 hm ⟨rfl, hax1⟩
  rw [hkont3] at hm
  replace hm := hm
  refine a2d (e := .exit 0) hax1 ?_
  refine a1j (a0d (a0f (a0a (a0e rfl rfl rfl (a0e rfl rfl rfl ?_)))))
  refine a1x (e := 3) (cs := [.int .i64 shift2]) (q := 1) rfl rfl hx1 rfl (fun _ => by kernel_rfl) rfl rfl ?_
  intro b4 wx6 hx7
  obtain ⟨Fx5, hF5, hx8, hsx2⟩ := a1g hx7 (i := 0) rfl ((show RowN (Rp.int .i64) Fx1 1 [.int .i64 shift2] [shift2] from ⟨rfl, ⟨_, _, rfl, rfl, (rfl : RowR (Rp.int .i64) _ [] [])⟩⟩))
  obtain ⟨v5, hv5, hm⟩ := bind_some hm
  refine a0g ent77 rfl rfl rfl rfl hx8 (b3t _ _ _ _ hv5 hx8.sat ((hs1.mono hF1).mono hF5) hsx2) ?_
  rintro _ Fx6 _ wx7 hF6 hx9 ⟨as6, ns6, cs6, xss6, rfl, rfl, hs6⟩
  refine a1x (e := 3) (cs := [.int .i64 0]) (q := 1) rfl rfl hx9 rfl (fun _ => by kernel_rfl) rfl rfl ?_
  intro b5 wx8 hx10
  obtain ⟨l1, hr3, hm⟩ := bind_some hm
  refine a9q (r := (Rp.int .i64)) ap22 rfl rfl hx10 rfl rfl (i := 1) (j := 0) rfl rfl hs6 ((show RowN (Rp.int .i64) Fx6 1 [.int .i64 0] [0] from ⟨rfl, ⟨_, _, rfl, rfl, (rfl : RowR (Rp.int .i64) _ [] [])⟩⟩)) hr3 ?_
  intro as7 cs7 wx9 hx11 hs7
  refine a0e rfl rfl rfl (a0e rfl rfl rfl ?_)
  refine a1x (e := 3) (cs := [.int .i64 shift2]) (q := 1) rfl rfl hx11 rfl (fun _ => by kernel_rfl) rfl rfl ?_
  intro b6 wx10 hx12
  obtain ⟨Fx7, hF7, hx13, hsx3⟩ := a1g hx12 (i := 0) rfl ((show RowN (Rp.int .i64) Fx6 1 [.int .i64 shift2] [shift2] from ⟨rfl, ⟨_, _, rfl, rfl, (rfl : RowR (Rp.int .i64) _ [] [])⟩⟩))
  have hG1 := ((hF1.trans hF5).trans hF6).trans hF7
  obtain ⟨v6, hv6, hm⟩ := bind_some hm
  refine a0g ent77 rfl rfl rfl rfl hx13 (b3t _ _ _ _ hv6 hx13.sat (hs2.mono hG1) hsx3) ?_
  rintro _ Fx8 _ wx11 hF8 hx14 ⟨as8, ns8, cs8, xss8, rfl, rfl, hs8⟩
  refine a0b rfl rfl rfl (a0b rfl rfl rfl (a0c (a0d (a0f (a0f (a0a (a0e rfl rfl rfl ?_)))))))
  refine a1z hs7.len u22 rfl rfl rfl ?_
  refine a0e rfl rfl rfl ?_
  refine a1z hs1.len u22 rfl rfl rfl ?_
  refine a0v rfl rfl rfl rfl rfl ?_
  refine a0c (a0d ?_)
  obtain ⟨l2, hb3, hm⟩ := bind_some hm
  refine b0q (fun a w' => ∃ (Fx9 : Frz) (as9 : Option Addr) (ns9 : Nat) (cs9 : Nat) (xss9 : List Value), Frz.le Fx8 Fx9 ∧ HS F w [] Fx9 [.row 3 1 as8 ns8 cs8 xss8, .row 3 1 (some ⟨b5, 0, none⟩) 1 1 [.int .i64 0], .row 3 1 as9 ns9 cs9 xss9] w' ∧ (RowN (Rp.int .i64) Fx9 ns9 xss9 l2) ∧ Has 170 a [(8, .int .i64 shift2), (9, .slice as9 ns9 cs9), (10, .slice as8 ns8 cs8)]) ?_ ?_
  ·rintro a wx12 ⟨Fx9, as9, ns9, cs9, xss9, hF9, hx15, hs9, hax2⟩
   refine a1l hax2 ?_
   refine a0f (a0a (a0e rfl rfl rfl ?_))
   refine a1z hs8.len u22 rfl rfl rfl ?_
   refine a0b rfl rfl rfl (a0c (a0d (a0f (a0a (a0e rfl rfl rfl ?_)))))
   refine a1z hs9.len u22 rfl rfl rfl ?_
   refine a0e rfl rfl rfl ?_
   refine a0v rfl rfl rfl rfl rfl ?_
   obtain ⟨l3, hl1, hm⟩ := bind_some hm
   refine b6x (r := (Rp.int .i64)) ap22 zi3 (fun _ => rfl) rfl rfl rfl hx15 rfl rfl hl1 ?_
   intro b7 wx13 xs1 hx16 hr4
   refine a0b rfl rfl rfl (a0c (a0d (a0f (a0f (a0a (a0e rfl rfl rfl ?_))))))
   refine a1z hr4.len u22 rfl rfl rfl ?_
   refine a0v rfl rfl rfl rfl rfl ?_
   refine a0b rfl rfl rfl (a0c (a0d (a1i ?_)))
   obtain ⟨Fx10, hF10, hx17, hsx4⟩ := a1g hx16 (i := 1) rfl (hs8.mono hF9)
   intro a hax14
   obtain ⟨kont1, hkont1⟩ : ∃ kont1 : (List Int) → (List Int) → Option ((List Int) × (List Int)), kont1 = (fun (l6 : List Int) (l7 : List Int) =>
     (a2u n l7).bind fun v7 =>
     (a5s n v7 shift2).bind fun v8 =>
     (a2u n l6).bind fun v9 =>
     some (v9, v8.1)) := ⟨_, rfl⟩
   replace hm : (fun m (s : Int × List Int × List Int) => a6x n v6 kont1 m s.1 s.2.1 s.2.2) n ((isub .i64 (l3.length : Int) 1), l3, l2) = some r := by rw [hkont1]; exact hm
   refine a5u (id := 2) (fun m (s : Int × List Int × List Int) => a6x n v6 kont1 m s.1 s.2.1 s.2.2) (fun (y : List Int × List Int) => kont1 y.1 y.2) r (fun (s : Int × List Int × List Int) a w' => ∃ (Fx11 : Frz) (as10 : Option Addr) (ns10 : Nat) (cs10 : Nat) (xss10 : List Value) (as11 : Option Addr) (ns11 : Nat) (cs11 : Nat) (xss11 : List Value), Frz.le Fx10 Fx11 ∧ HS F w [] Fx11 [.row 3 1 as10 ns10 cs10 xss10, .row 3 1 as11 ns11 cs11 xss11] w' ∧ (RowN (Rp.int .i64) Fx11 ns10 xss10 s.2.1) ∧ (RowN (Rp.int .i64) Fx11 ns11 xss11 s.2.2) ∧ Has 170 a [(8, .int .i64 shift2), (9, .slice as11 ns11 cs11), (10, .slice as8 ns8 cs8), (11, .int .i64 (v6.length : Int)), (12, .slice as10 ns10 cs10), (13, .int .i64 s.1)]) (fun (y : List Int × List Int) a w' => ∃ (Fx12 : Frz) (as12 : Option Addr) (ns12 : Nat) (cs12 : Nat) (xss12 : List Value) (as13 : Option Addr) (ns13 : Nat) (cs13 : Nat) (xss13 : List Value), Frz.le Fx10 Fx12 ∧ HS F w [] Fx12 [.row 3 1 as12 ns12 cs12 xss12, .row 3 1 as13 ns13 cs13 xss13] w' ∧ (RowN (Rp.int .i64) Fx12 ns12 xss12 y.1) ∧ (RowN (Rp.int .i64) Fx12 ns13 xss13 y.2) ∧ Has 170 a [(8, .int .i64 shift2), (9, .slice as13 ns13 cs13), (12, .slice as12 ns12 cs12)]) (fun _ => rfl) ?_ ?_ hm ⟨_, (some ⟨b7, 0, none⟩), ((isub .i64 (l2.length : Int) (v6.length : Int)).toNat), ((isub .i64 (l2.length : Int) (v6.length : Int)).toNat), xs1, as9, ns9, cs9, xss9, Frz.refl _, hx17.pick [0, 2] (by decide) rfl, (hr4.mono hF10), (hs9.mono hF10), hax14.cut (l := [8, 9, 10, 11, 12, 13]) rfl⟩
   ·clear hm; rintro ⟨l6, l7⟩ a wx14 hm ⟨Fx12, as12, ns12, cs12, xss12, as13, ns13, cs13, xss13, hF12, hx19, hs12, hs13, hax3⟩
    rw [hkont1] at hm
    replace hm := hm
    refine a2d (e := .exit 2) hax3 ?_
    refine a1j (a0d (a0f (a0a (a0e rfl rfl rfl ?_))))
    obtain ⟨v7, hv7, hm⟩ := bind_some hm
    refine b1w ent91 rfl rfl rfl rfl (a6f _ _ _ hv7 (a7l _) (hx19.viewRow (p := 1) rfl rfl hs13)) ?_
    intro ns14 hles14 hvs14
    obtain ⟨hx20, hr5⟩ := hx19.cutN (p := 1) rfl hs13 hles14
    rw [← hvs14] at hr5
    refine a0e rfl rfl rfl ?_
    obtain ⟨Fx13, hF13, hx21, hsx5⟩ := a1g hx20 (i := 1) rfl hr5
    obtain ⟨v8, hv8, hm⟩ := bind_some hm
    refine a0g ent99 rfl rfl rfl rfl hx21 (b2n _ _ _ _ hv8 hx21.sat hsx5) ?_
    rintro _ Fx14 _ wx15 hF14 hx22 ⟨as15, ns15, cs15, xss15, rfl, rfl, hs15⟩
    refine a0e rfl rfl rfl (a0j rfl rfl rfl rfl (a0j rfl rfl rfl rfl (a0b rfl rfl rfl (a0b rfl rfl rfl (a0c (a0d (a0f (a0a (a0e rfl rfl rfl ?_)))))))))
    obtain ⟨v9, hv9, hm⟩ := bind_some hm
    refine b1w ent91 rfl rfl rfl rfl (a6f _ _ _ hv9 (a7l _) (hx22.viewRow (p := 1) rfl rfl ((hs12.mono hF13).mono hF14))) ?_
    intro ns16 hles16 hvs16
    obtain ⟨hx23, hr6⟩ := hx22.cutN (p := 1) rfl ((hs12.mono hF13).mono hF14) hles16
    rw [← hvs16] at hr6
    refine a0e rfl rfl rfl (a0b rfl rfl rfl (a0b rfl rfl rfl (a0c (a0d (a1d ?_)))))
    obtain ⟨Fx15, hF15, hx24, hsx6⟩ := a1g hx23 (i := 1) rfl hr6
    refine a1k (vl := [.slice as12 ns16 cs12, .slice as15 ns15 cs15]) rfl ⟨a1w rfl, a1w rfl, trivial⟩ (by simp) ?_
    obtain rfl := Option.some.inj hm
    exact ⟨_, _, _, rfl, hx24.pick [0] (by decide) rfl, as12, ns16, cs12, as15, ns15, cs15, xss15, rfl, rfl, hsx6, (hs15.mono hF15)⟩
   clear hm hkont1; intro hk1 mx1 K ihx1
   rintro ⟨i1, l4, l5⟩ a wx16 hm ⟨Fx11, as10, ns10, cs10, xss10, as11, ns11, cs11, xss11, hF11, hx18, hs10, hs11, hax4⟩
   simp only [b2j] at hm
   refine a1l hax4 ?_
   refine a0f (a0f (a0a (a0e rfl rfl rfl ?_)))
   refine a0v rfl rfl rfl rfl rfl ?_
   refine a0c (a0d ?_)
   rcases a0i hm with ⟨hb4, hm⟩ | ⟨hb4, hm⟩
   ·refine a0u 80 rfl hb4 ?_
    refine a0z rfl (a1b (a0d (a0f (a1i (a0f ?_)))))
    refine a4s (by kernel_rfl) (by kernel_rfl) hx18 ?_
    refine a1h rfl rfl rfl rfl (fun _ _ _ _ => a0e rfl rfl rfl (a0c (qq rfl))) ?_
    refine a1h rfl rfl rfl rfl (fun _ _ _ _ => a0e rfl rfl rfl (a0c (qq rfl))) ?_
    refine a1h rfl rfl rfl rfl (fun _ _ _ _ => a0e rfl rfl rfl (a0c (qq rfl))) ?_
    refine a1h rfl rfl rfl rfl (fun _ _ _ _ => a0v rfl rfl rfl rfl rfl (a0c (qq rfl))) ?_
    obtain ⟨ex2, he2, hm⟩ := bind_some hm
    obtain ⟨b8, o2, cs2, hax5, ho1, hr7, hp1, hrun1⟩ := a7j (P := Tryz.prog) (r := (Rp.int .i64)) u22 sz3 hx18 (p := 1) rfl rfl hs11 he2
    have hc2 : cs2 = [.int .i64 ex2] := hr7
    subst hc2
    refine a4v rfl rfl rfl rfl hrun1 ?_
    refine a1h rfl rfl rfl rfl (fun _ _ _ hq => a6z (j := 0) ag3 rfl rfl hq rfl (p := 1) rfl rfl hax5 ho1 hp1 rfl (a0c (qq rfl))) ?_
    obtain ⟨q1, hq1, hm⟩ := bind_some hm
    refine a1h rfl rfl rfl rfl (fun _ _ _ _ => c6x rfl rfl rfl rfl hq1 (a0c (qq rfl))) ?_
    refine a1h rfl rfl rfl rfl (fun _ _ _ _ => a0e rfl rfl rfl (a0c (qq rfl))) ?_
    refine a1h rfl rfl rfl rfl (fun _ _ _ _ => a0e rfl rfl rfl (a0c (qq rfl))) ?_
    refine a1h rfl rfl rfl rfl (fun _ _ _ _ => a0e rfl rfl rfl (a0c (qq rfl))) ?_
    refine a1h rfl rfl rfl rfl (fun _ _ _ _ => a0v rfl rfl rfl rfl rfl (a0c (qq rfl))) ?_
    refine a1h rfl rfl rfl rfl (fun _ _ _ _ => a0v rfl rfl rfl rfl rfl (a0c (qq rfl))) ?_
    obtain ⟨ex3, he3, hm⟩ := bind_some hm
    obtain ⟨b9, o3, cs3, hax6, ho2, hr8, hp2, hrun2⟩ := a7j (P := Tryz.prog) (r := (Rp.int .i64)) u22 sz3 hx18 (p := 1) rfl rfl hs11 he3
    have hc3 : cs3 = [.int .i64 ex3] := hr8
    subst hc3
    refine a4v rfl rfl rfl rfl hrun2 ?_
    refine a1h rfl rfl rfl rfl (fun _ _ _ hq => a6z (j := 0) ag3 rfl rfl hq rfl (p := 1) rfl rfl hax6 ho2 hp2 rfl (a0c (qq rfl))) ?_
    refine a1h rfl rfl rfl rfl (fun _ _ _ _ => a0v rfl rfl rfl rfl rfl (a0c (qq rfl))) ?_
    refine a1h rfl rfl rfl rfl (fun _ _ _ _ => a0b rfl rfl rfl (a0c (qq rfl))) ?_
    refine b3x ?_
    rintro wx17 ⟨Fx16, hF16, hx25⟩
    refine a0d (a0f ?_)
    refine a4s (by kernel_rfl) (by kernel_rfl) hx25 ?_
    refine a1h rfl rfl rfl rfl (fun _ _ _ _ => a0e rfl rfl rfl (a0c (qq rfl))) ?_
    refine a1h rfl rfl rfl rfl (fun _ _ _ _ => a0e rfl rfl rfl (a0c (qq rfl))) ?_
    refine a1h rfl rfl rfl rfl (fun _ _ _ _ => a0e rfl rfl rfl (a0c (qq rfl))) ?_
    refine a1h rfl rfl rfl rfl (fun _ _ _ _ => a0v rfl rfl rfl rfl rfl (a0c (qq rfl))) ?_
    obtain ⟨ex4, he4, hm⟩ := bind_some hm
    obtain ⟨b10, o4, cs4, hf2, hr9, hrun3⟩ := a5c (P := Tryz.prog) (r := (Rp.int .i64)) u22 sz3 ((hsx4.mono hF11).mono hF16) he4
    have hc4 : cs4 = [.int .i64 ex4] := hr9
    subst hc4
    refine a4v rfl rfl rfl rfl hrun3 ?_
    refine a1h rfl rfl rfl rfl (fun _ _ hleq hq => a2h (j := 0) ag3 rfl rfl hq (hf2.mono hleq) rfl rfl (a0c (qq rfl))) ?_
    obtain ⟨q2, hq2, hm⟩ := bind_some hm
    refine a1h rfl rfl rfl rfl (fun _ _ _ _ => c2b rfl rfl rfl rfl hq2 (a0c (qq rfl))) ?_
    refine a1h rfl rfl rfl rfl (fun _ _ _ _ => a0e rfl rfl rfl (a0c (qq rfl))) ?_
    refine a1h rfl rfl rfl rfl (fun _ _ _ _ => a0e rfl rfl rfl (a0c (qq rfl))) ?_
    refine a1h rfl rfl rfl rfl (fun _ _ _ _ => a0e rfl rfl rfl (a0c (qq rfl))) ?_
    refine a1h rfl rfl rfl rfl (fun _ _ _ _ => a0v rfl rfl rfl rfl rfl (a0c (qq rfl))) ?_
    obtain ⟨ex5, he5, hm⟩ := bind_some hm
    obtain ⟨b11, o5, cs5, hf3, hr10, hrun4⟩ := a5c (P := Tryz.prog) (r := (Rp.int .i64)) u22 sz3 ((hsx4.mono hF11).mono hF16) he5
    have hc5 : cs5 = [.int .i64 ex5] := hr10
    subst hc5
    refine a4v rfl rfl rfl rfl hrun4 ?_
    refine a1h rfl rfl rfl rfl (fun _ _ hleq hq => a2h (j := 0) ag3 rfl rfl hq (hf3.mono hleq) rfl rfl (a0c (qq rfl))) ?_
    obtain ⟨q3, hq3, hm⟩ := bind_some hm
    refine a1h rfl rfl rfl rfl (fun _ _ _ _ => c3i rfl rfl rfl rfl hq3 (a0c (qq rfl))) ?_
    refine a1h rfl rfl rfl rfl (fun _ _ _ _ => a0b rfl rfl rfl (a0c (qq rfl))) ?_
    refine a1h rfl rfl rfl rfl (fun _ _ _ _ => a0b rfl rfl rfl (a0c (qq rfl))) ?_
    refine b3x ?_
    rintro wx18 ⟨Fx17, hF17, hx26⟩
    refine a0d (a0f (a1i ?_))
    intro a hax13
    obtain ⟨kont2, hkont2⟩ : ∃ kont2 : Int → Option ((List Int) × (List Int)), kont2 = (fun (guess2 : Int) =>
    (lsl l5 i1 (iadd .i64 (iadd .i64 i1 (v6.length : Int)) 1)).bind fun l8 =>
    (a7t n l8 v6 guess2).bind fun v10 =>
    (ix l4 i1).bind fun ex6 =>
    (lset l4 i1 v10.2).bind fun l9 =>
    a6x n v6 kont1 mx1 (isub .i64 i1 1) l9 (lput l5 i1 v10.1 (iadd .i64 (iadd .i64 i1 (v6.length : Int)) 1))) := ⟨_, rfl⟩
    replace hm : (fun m (s : Int × Int) => a7s n v6 i1 l5 kont2 m s.1 s.2) n (q2, q3) = some r := by rw [hkont2]; exact hm
    refine a5u (id := 4) (fun m (s : Int × Int) => a7s n v6 i1 l5 kont2 m s.1 s.2) (fun (y : Int) => kont2 y) r (fun (s : Int × Int) a w' => ∃ (Fx18 : Frz), Frz.le Fx17 Fx18 ∧ HS F w [] Fx18 [.row 3 1 as10 ns10 cs10 xss10, .row 3 1 as11 ns11 cs11 xss11] w' ∧ Has 170 a [(8, .int .i64 shift2), (9, .slice as11 ns11 cs11), (10, .slice as8 ns8 cs8), (11, .int .i64 (v6.length : Int)), (12, .slice as10 ns10 cs10), (13, .int .i64 i1), (15, .int .i64 s.1), (16, .int .i64 s.2)]) (fun (y : Int) a w' => ∃ (Fx19 : Frz), Frz.le Fx17 Fx19 ∧ HS F w [] Fx19 [.row 3 1 as10 ns10 cs10 xss10, .row 3 1 as11 ns11 cs11 xss11] w' ∧ Has 170 a [(8, .int .i64 shift2), (9, .slice as11 ns11 cs11), (10, .slice as8 ns8 cs8), (11, .int .i64 (v6.length : Int)), (12, .slice as10 ns10 cs10), (13, .int .i64 i1), (15, .int .i64 y)]) (fun _ => rfl) ?_ ?_ hm ⟨_, Frz.refl _, hx26.pick [0, 1] (by decide) rfl, hax13.cut (l := [8, 9, 10, 11, 12, 13, 15, 16]) rfl⟩
    ·clear hm; rintro guess2 a wx19 hm ⟨Fx19, hF19, hx28, hax7⟩
     rw [hkont2] at hm
     replace hm := hm
     refine a2d (e := .exit 4) hax7 ?_
     refine a1j (a0d (a0a (a0e rfl rfl rfl (a0e rfl rfl rfl (a0e rfl rfl rfl (a0e rfl rfl rfl (a0e rfl rfl rfl (a0e rfl rfl rfl ?_))))))))
     refine a0v rfl rfl rfl rfl rfl ?_
     refine a0v rfl rfl rfl rfl rfl ?_
     obtain ⟨l8, hc6, hm⟩ := bind_some hm
     refine c6i u22 (r := (Rp.int .i64)) sz3 rfl rfl hx28 rfl rfl rfl (p := 1) rfl rfl (((hs11.mono hF16).mono hF17).mono hF19) hc6 ?_
     intro as17 ns17 cs17 hs17
     refine a0e rfl rfl rfl (a0e rfl rfl rfl ?_)
     have hG2 := ((hF11.trans hF16).trans hF17).trans hF19
     obtain ⟨v10, hv10, hm⟩ := bind_some hm
     refine c4a (r := (Rp.int .i64)) ent115 rfl rfl rfl rfl hx28 (p := 1) rfl rfl (((hs11.mono hF16).mono hF17).mono hF19) hs17 (fun pre1 mid1 post1 hw1 hwf1 hwr1 => b9q _ _ _ _ _ hv10 hx28.sat hw1 hwf1 (by rw [show l8 = _ from (b3s hc6).2.2.2]; exact hwr1) (hsx4.mono hG2)) ?_
     rintro _ Fx20 _ _ wx20 xs2 hF20 hx29 hxx1 ⟨rfl, rfl, hr11⟩
     obtain ⟨ex6, he6, hm⟩ := bind_some hm
     refine a5h (r := (Rp.int .i64)) u22 sz3 rfl rfl hx29 rfl rfl (p := 0) rfl rfl ((((hs10.mono hF16).mono hF17).mono hF19).mono hF20) he6 ?_
     intro b12 o6 cs6 hax8 ho3 hr12 hp3
     have hc7 : cs6 = [.int .i64 ex6] := hr12
     subst hc7
     obtain ⟨l9, hl2, hm⟩ := bind_some hm
     refine a4r (r := (Rp.int .i64)) sz3 rfl hx29 rfl rfl rfl rfl rfl (p := 0) rfl rfl hax8 ho3 ((((hs10.mono hF16).mono hF17).mono hF19).mono hF20) rfl rfl hl2 ?_
     intro wx21 xs3 hx30 hr13
     refine a0c (a2a (a0d (a0a (a0e rfl rfl rfl ?_))))
     refine a0v rfl rfl rfl rfl rfl ?_
     refine a0b rfl rfl rfl (a0c ?_)
     refine a0p (fun a ha => ihx1 ((isub .i64 i1 1), l9, (lput l5 i1 v10.1 (iadd .i64 (iadd .i64 i1 (v6.length : Int)) 1))) a _ hm ?_)
     exact ⟨_, as10, ns10, cs10, xs3, as11, ns11, cs11, xs2, ((((hF11.trans hF16).trans hF17).trans hF19).trans hF20), hx30.pick [0, 1] (by decide) rfl, hr13, ((hxx1 _ hr11)), ha.cut (l := [8, 9, 10, 11, 12, 13]) rfl⟩
    clear hm hkont2; intro hk2 mx2 K ihx2
    rintro ⟨guess1, rest1⟩ a wx22 hm ⟨Fx18, hF18, hx27, hax9⟩
    simp only [b0w] at hm
    refine a1l hax9 ?_
    refine a0f (a0f ?_)
    refine a4s (by kernel_rfl) (by kernel_rfl) hx27 ?_
    refine a1h rfl rfl rfl rfl (fun _ _ _ _ => a0e rfl rfl rfl (a0c (qq rfl))) ?_
    refine a1h rfl rfl rfl rfl (fun _ _ _ _ => a0v rfl rfl rfl rfl rfl (a0c (qq rfl))) ?_
    refine a1h rfl rfl rfl rfl (fun _ _ _ _ => a0e rfl rfl rfl (a0c (qq rfl))) ?_
    obtain ⟨v11, hb5, hm⟩ := bind_some hm
    refine c3l 23 (fun a => Has 170 a [(8, .int .i64 shift2), (9, .slice as11 ns11 cs11), (10, .slice as8 ns8 cs8), (11, .int .i64 (v6.length : Int)), (12, .slice as10 ns10 cs10), (13, .int .i64 i1), (15, .int .i64 guess1), (16, .int .i64 rest1), (137, .bool v11)]) ?_ ?_
    ·intro a hax10
     refine b3n hax10 ?_
     refine b3x ?_
     rintro wx24 ⟨Fx21, hF21, hx31⟩
     refine a0d ?_
     rcases a0i hm with ⟨hb6, hm⟩ | ⟨hb6, hm⟩
     ·refine a0u 137 rfl hb6 ?_
      refine a0z rfl (a1b (a0d (a1i (a0f (a0a (a0e rfl rfl rfl ?_))))))
      refine a0v rfl rfl rfl rfl rfl ?_
      refine a0b rfl rfl rfl (a0c (a0d (a0a (a0e rfl rfl rfl (a0e rfl rfl rfl (a0e rfl rfl rfl ?_))))))
      refine a0v rfl rfl rfl rfl rfl ?_
      obtain ⟨ex7, he7, hm⟩ := bind_some hm
      refine a3w (r := (Rp.int .i64)) u22 sz3 rfl rfl rfl rfl (((((hsx4.mono hF11).mono hF16).mono hF17).mono hF18).mono hF21) he7 ?_
      intro b13 o7 cs7 hf4 hr14
      have hc8 : cs7 = [.int .i64 ex7] := hr14
      subst hc8
      refine a2h (j := 0) ag3 rfl rfl hx31 hf4 rfl rfl ?_
      refine a0v rfl rfl rfl rfl rfl ?_
      refine a0b rfl rfl rfl (a0c (a2a ?_))
      refine a0p (fun a ha => ihx2 ((isub .i64 guess1 1), (iadd .i64 rest1 ex7)) a _ hm ?_)
      exact ⟨_, (hF18.trans hF21), hx31.pick [0, 1] (by decide) rfl, ha.cut (l := [8, 9, 10, 11, 12, 13, 15, 16]) rfl⟩
     refine a0u 137 rfl hb6 ?_
     refine a0s rfl (a3l (a0q (a0q ?_)))
     refine fun a ha => hk2 guess1 a _ hm ?_
     exact ⟨_, (hF18.trans hF21), hx31.pick [0, 1] (by decide) rfl, ha.cut (l := [8, 9, 10, 11, 12, 13, 15]) rfl⟩
    clear hm
    rcases a0i hb5 with ⟨hb7, hb5⟩ | ⟨hb7, hb5⟩
    ·refine b6i 114 rfl hb7 ?_
     refine a3t rfl rfl rfl (a3t rfl rfl rfl (a3t rfl rfl rfl (a3t rfl rfl rfl (a3t rfl rfl rfl (a3t rfl rfl rfl (a3t rfl rfl rfl (a3t rfl rfl rfl (a3t rfl rfl rfl (a3t rfl rfl rfl (a3t rfl rfl rfl (a3t rfl rfl rfl (a3t rfl rfl rfl (a3t rfl rfl rfl (a3t rfl rfl rfl (a3t rfl rfl rfl (a3t rfl rfl rfl (a3t rfl rfl rfl (a3t rfl rfl rfl (a3t rfl rfl rfl (a3t rfl rfl rfl (a3t rfl rfl rfl ?_)))))))))))))))))))))
     refine a1h rfl rfl rfl rfl (fun _ _ _ _ => a0m rfl rfl rfl rfl (a0c (qq rfl))) ?_
     refine b6e (fun a ha => ?_)
     cases hb5
     exact ha.cut (l := [8, 9, 10, 11, 12, 13, 15, 16, 137]) rfl
    refine b6i 114 rfl hb7 ?_
    refine a1h rfl rfl rfl rfl (fun _ _ _ _ => a0e rfl rfl rfl (a0c (qq rfl))) ?_
    refine a1h rfl rfl rfl rfl (fun _ _ _ _ => a0v rfl rfl rfl rfl rfl (a0c (qq rfl))) ?_
    refine a1h rfl rfl rfl rfl (fun _ _ _ _ => a0e rfl rfl rfl (a0c (qq rfl))) ?_
    obtain ⟨v12, hb8, hb5⟩ := bind_some hb5
    refine c3l 19 (fun a => Has 170 a [(8, .int .i64 shift2), (9, .slice as11 ns11 cs11), (10, .slice as8 ns8 cs8), (11, .int .i64 (v6.length : Int)), (12, .slice as10 ns10 cs10), (13, .int .i64 i1), (15, .int .i64 guess1), (16, .int .i64 rest1), (114, .bool false), (136, .bool v12)]) ?_ ?_
    ·intro a hax11
     refine b3n hax11 ?_
     refine a1h rfl rfl rfl rfl (fun _ _ _ _ => a0l rfl rfl rfl rfl (a0c (qq rfl))) ?_
     refine b6e (fun a ha => ?_)
     cases hb5
     exact ha.cut (l := [8, 9, 10, 11, 12, 13, 15, 16, 137]) rfl
    clear hb5
    rcases a0i hb8 with ⟨hb9, hb8⟩ | ⟨hb9, hb8⟩
    ·refine b6i 117 rfl hb9 ?_
     refine a1h rfl rfl rfl rfl (fun _ _ _ _ => a0e rfl rfl rfl (a0c (qq rfl))) ?_
     refine a1h rfl rfl rfl rfl (fun _ _ _ _ => a0e rfl rfl rfl (a0c (qq rfl))) ?_
     refine a1h rfl rfl rfl rfl (fun _ _ _ _ => a0e rfl rfl rfl (a0c (qq rfl))) ?_
     refine a1h rfl rfl rfl rfl (fun _ _ _ _ => a0v rfl rfl rfl rfl rfl (a0c (qq rfl))) ?_
     obtain ⟨ex8, he8, hb8⟩ := bind_some hb8
     obtain ⟨b14, o8, cs8, hf5, hr15, hrun5⟩ := a5c (P := Tryz.prog) (r := (Rp.int .i64)) u22 sz3 ((((hsx4.mono hF11).mono hF16).mono hF17).mono hF18) he8
     have hc9 : cs8 = [.int .i64 ex8] := hr15
     subst hc9
     refine a4v rfl rfl rfl rfl hrun5 ?_
     refine a1h rfl rfl rfl rfl (fun _ _ hleq hq => a2h (j := 0) ag3 rfl rfl hq (hf5.mono hleq) rfl rfl (a0c (qq rfl))) ?_
     refine a1h rfl rfl rfl rfl (fun _ _ _ _ => a0v rfl rfl rfl rfl rfl (a0c (qq rfl))) ?_
     refine a1h rfl rfl rfl rfl (fun _ _ _ _ => a0e rfl rfl rfl (a0c (qq rfl))) ?_
     obtain ⟨q4, hq4, hb8⟩ := bind_some hb8
     refine a1h rfl rfl rfl rfl (fun _ _ _ _ => c6x rfl rfl rfl rfl hq4 (a0c (qq rfl))) ?_
     refine a1h rfl rfl rfl rfl (fun _ _ _ _ => a0e rfl rfl rfl (a0c (qq rfl))) ?_
     refine a1h rfl rfl rfl rfl (fun _ _ _ _ => a0e rfl rfl rfl (a0c (qq rfl))) ?_
     refine a1h rfl rfl rfl rfl (fun _ _ _ _ => a0e rfl rfl rfl (a0c (qq rfl))) ?_
     refine a1h rfl rfl rfl rfl (fun _ _ _ _ => a0v rfl rfl rfl rfl rfl (a0c (qq rfl))) ?_
     refine a1h rfl rfl rfl rfl (fun _ _ _ _ => a0v rfl rfl rfl rfl rfl (a0c (qq rfl))) ?_
     obtain ⟨ex9, he9, hb8⟩ := bind_some hb8
     obtain ⟨b15, o9, cs9, hax12, ho4, hr16, hp4, hrun6⟩ := a7j (P := Tryz.prog) (r := (Rp.int .i64)) u22 sz3 hx27 (p := 1) rfl rfl (((hs11.mono hF16).mono hF17).mono hF18) he9
     have hc10 : cs9 = [.int .i64 ex9] := hr16
     subst hc10
     refine a4v rfl rfl rfl rfl hrun6 ?_
     refine a1h rfl rfl rfl rfl (fun _ _ _ hq => a6z (j := 0) ag3 rfl rfl hq rfl (p := 1) rfl rfl hax12 ho4 hp4 rfl (a0c (qq rfl))) ?_
     refine a1h rfl rfl rfl rfl (fun _ _ _ _ => a0v rfl rfl rfl rfl rfl (a0c (qq rfl))) ?_
     refine a1h rfl rfl rfl rfl (fun _ _ _ _ => a0v rfl rfl rfl rfl rfl (a0c (qq rfl))) ?_
     refine a1h rfl rfl rfl rfl (fun _ _ _ _ => a0m rfl rfl rfl rfl (a0c (qq rfl))) ?_
     refine b6e (fun a ha => ?_)
     cases hb8
     exact ha.cut (l := [8, 9, 10, 11, 12, 13, 15, 16, 114, 136]) rfl
    refine b6i 117 rfl hb9 ?_
    refine a3t rfl rfl rfl (a3t rfl rfl rfl (a3t rfl rfl rfl (a3t rfl rfl rfl (a3t rfl rfl rfl (a3t rfl rfl rfl (a3t rfl rfl rfl (a3t rfl rfl rfl (a3t rfl rfl rfl (a3t rfl rfl rfl (a3t rfl rfl rfl (a3t rfl rfl rfl (a3t rfl rfl rfl (a3t rfl rfl rfl (a3t rfl rfl rfl (a3t rfl rfl rfl (a3t rfl rfl rfl (a3t rfl rfl rfl ?_)))))))))))))))))
    refine a1h rfl rfl rfl rfl (fun _ _ _ _ => a0l rfl rfl rfl rfl (a0c (qq rfl))) ?_
    refine b6e (fun a ha => ?_)
    cases hb8
    exact ha.cut (l := [8, 9, 10, 11, 12, 13, 15, 16, 114, 136]) rfl
   refine a0u 80 rfl hb4 ?_
   refine a0s rfl (a3l (a0q (a0q ?_)))
   refine fun a ha => hk1 (l4, l5) a _ hm ?_
   exact ⟨_, as10, ns10, cs10, xss10, as11, ns11, cs11, xss11, hF11, hx18.pick [0, 1] (by decide) rfl, hs10, hs11, ha.cut (l := [8, 9, 12]) rfl⟩
  clear hm
  rcases a0i hb3 with ⟨hb10, hb3⟩ | ⟨hb10, hb3⟩
  ·refine a0u 65 rfl hb10 ?_
   refine a0z rfl (a0a (a0e rfl rfl rfl ?_))
   refine a1x (e := 3) (cs := [.int .i64 0]) (q := 1) rfl rfl hx14 rfl (fun _ => by kernel_rfl) rfl rfl ?_
   intro b16 wx26 hx32
   obtain ⟨l10, hr17, hb3⟩ := bind_some hb3
   refine a9q (r := (Rp.int .i64)) ap22 rfl rfl hx32 rfl rfl (i := 3) (j := 0) rfl rfl ((hs7.mono hF7).mono hF8) ((show RowN (Rp.int .i64) Fx8 1 [.int .i64 0] [0] from ⟨rfl, ⟨_, _, rfl, rfl, (rfl : RowR (Rp.int .i64) _ [] [])⟩⟩)) hr17 ?_
   intro as18 cs18 wx27 hx33 hs18
   refine a0b rfl rfl rfl (a0c ?_)
   refine a0p (fun a ha => ?_)
   cases hb3
   exact ⟨_, as18, ((ns6 + 1) + 1), cs18, ((xss6 ++ [.int .i64 0]) ++ [.int .i64 0]), Frz.refl _, hx33.pick [1, 2, 3] (by decide) rfl, hs18, ha.cut (l := [8, 9, 10]) rfl⟩
  refine a0u 65 rfl hb10 ?_
  refine a0s rfl (a1b ?_)
  refine a0p (fun a ha => ?_)
  cases hb3
  exact ⟨_, as7, (ns6 + 1), cs7, (xss6 ++ [.int .i64 0]), Frz.refl _, hx14.pick [0, 1, 2] (by decide) rfl, ((hs7.mono hF7).mono hF8), ha.cut (l := [8, 9, 10]) rfl⟩
 clear hm hkont3; intro hk3 mx3 K ihx3
 rintro shift1 a wx28 hm ⟨rfl, hax15⟩
 simp only [b0x] at hm
 refine a1l hax15 ?_
 refine a0f (a0f (a0a (a0e rfl rfl rfl (a0e rfl rfl rfl ?_))))
 refine a1z hs2.len u22 rfl rfl rfl ?_
 refine a0v rfl rfl rfl rfl rfl ?_
 obtain ⟨ex10, he10, hm⟩ := bind_some hm
 refine a3w (r := (Rp.int .i64)) u22 sz3 rfl rfl rfl rfl (hs2.mono hF1) he10 ?_
 intro b17 o10 cs10 hf6 hr18
 have hc11 : cs10 = [.int .i64 ex10] := hr18
 subst hc11
 refine a2h (j := 0) ag3 rfl rfl hx1 hf6 rfl rfl ?_
 refine a0e rfl rfl rfl ?_
 refine a0v rfl rfl rfl rfl rfl ?_
 refine a0v rfl rfl rfl rfl rfl ?_
 refine a0c (a0d ?_)
 rcases a0i hm with ⟨hb11, hm⟩ | ⟨hb11, hm⟩
 ·refine a0u 48 rfl hb11 ?_
  refine a0z rfl (a1b (a0d (a1i (a0a (a0e rfl rfl rfl ?_)))))
  refine a0v rfl rfl rfl rfl rfl ?_
  refine a0b rfl rfl rfl (a0c (a2a ?_))
  refine a0p (fun a ha => ihx3 (imul .i64 shift1 2) a _ hm ?_)
  exact ⟨rfl, ha.cut (l := [0, 1, 8]) rfl⟩
 refine a0u 48 rfl hb11 ?_
 refine a0s rfl (a3l (a0q (a0q ?_)))
 refine fun a ha => hk3 shift1 a _ hm ?_
 exact ⟨rfl, ha.cut (l := [0, 1, 8]) rfl⟩
def a4p (_n : Nat) (right1 : Bool) (c1 : Big) : Option (Big × Int) :=
 bif !right1 then
  some ((⟨0, []⟩ : Big), 1)
 else
  some (c1, 0)
set_option maxHeartbeats 1000000 in
set_option maxRecDepth 1000000 in
theorem a5a (n : Nat) (right1 : Bool) (c1 : Big) (r : (Big × Int)) (hm : a4p n right1 c1 = some r) {w : World} {F : Frz} (hs : Sat F w) {as1 : Option Addr} {ns1 : Nat} {cs1 : Nat} (hs1 : SlR (Rp.int .i64) F as1 ns1 cs1 c1.Digits) :
  Calls Tryz.prog 75 #[.bool right1, .agg #[.int .i64 c1.Sign, .slice as1 ns1 cs1]] w fun e w' => ∃ v F' O', e = .returned v ∧ HS F w [] F' O' w' ∧ (∃ (a0_1 : Option Addr) (n0_1 : Nat) (c0_1 : Nat), v = .tuple #[.agg #[.int .i64 r.1.Sign, .slice a0_1 n0_1 c0_1], .int .i64 r.2] ∧ O' = [] ∧ SlR (Rp.int .i64) F' a0_1 n0_1 c0_1 r.1.Digits) := by
 unfold a4p at hm
 have h := HS.init hs
 refine a0x 10 Tryz.func75 rfl rfl rfl ?_
 refine a0f (a0a ?_)
 refine a2o rfl rfl rfl rfl h ?_
 intro b1 wx1 hx1
 refine a0y ze24 rfl rfl rfl hx1 ?_
 intro b2 wx2 hx2
 refine a0b rfl rfl rfl (a0c (a0d (a0f (a0f (a0a (a0e rfl rfl rfl (a2x rfl rfl rfl (a0c (a0d ?_)))))))))
 rcases a0i hm with ⟨hb1, hm⟩ | ⟨hb1, hm⟩
 ·refine a0u 7 rfl hb1 ?_
  refine a0z rfl (a0f (a0a ?_))
  refine a1r (v := .agg #[.int .i64 0, .slice none 0 0]) rfl rfl rfl (fun _ => by kernel_rfl) ?_
  refine a0o sz24 rfl hx2 rfl rfl rfl rfl (i := 0) rfl rfl rfl rfl ?_
  intro wx3 hx3
  refine a0b rfl rfl rfl (a0c (a0d (a1d (a0n ?_))))
  refine a1k (vl := [.agg #[.int .i64 0, .slice none 0 0], .int .i64 1]) rfl ⟨a1q ag24 sz24 rfl hx3 rfl (i := 0) rfl, a1w rfl, trivial⟩ (by simp) ?_
  obtain rfl := Option.some.inj hm
  exact ⟨_, _, _, rfl, hx3.pick [] (by decide) rfl, none, 0, 0, rfl, rfl, SlR.nil _ _⟩
 refine a0u 7 rfl hb1 ?_
 refine a0s rfl (a1b (a0d (a0f (a0a ?_))))
 refine a0k ag24 sz24 rfl rfl hx2 rfl (i := 1) rfl rfl ?_
 refine a0o sz24 rfl hx2 rfl rfl rfl rfl (i := 0) rfl rfl rfl rfl ?_
 intro wx4 hx4
 refine a0b rfl rfl rfl (a0c (a0d (a1d ?_)))
 refine a1k (vl := [.agg #[.int .i64 c1.Sign, .slice as1 ns1 cs1], .int .i64 0]) rfl ⟨a1q ag24 sz24 rfl hx4 rfl (i := 0) rfl, a1w rfl, trivial⟩ (by simp) ?_
 obtain rfl := Option.some.inj hm
 exact ⟨_, _, _, rfl, hx4.pick [] (by decide) rfl, as1, ns1, cs1, rfl, rfl, hs1⟩
def a7d (n : Nat) (vals1 : (List Int)) (kont1 : Option Int) : Nat → Int → Option Int
 | 0, _ => none
 | mx1 + 1, i1 =>
  bif decide (i1 < (vals1.length : Int)) then
   (ix vals1 i1).bind fun ex1 =>
   bif ex1 != 0 then
    some ex1
   else
    a7d n vals1 kont1 mx1 (iadd .i64 i1 1)
  else
   kont1
theorem a8i (n : Nat) (vals1 : (List Int)) (kont1 : Option Int) (mx1 : Nat) (i1 : Int) : a7d n vals1 kont1 (mx1 + 1) i1 =
  bif decide (i1 < (vals1.length : Int)) then
   (ix vals1 i1).bind fun ex1 =>
   bif ex1 != 0 then
    some ex1
   else
    a7d n vals1 kont1 mx1 (iadd .i64 i1 1)
  else
   kont1 := rfl
def b1t (n : Nat) (vals1 : (List Int)) : Option Int :=
 a7d n vals1 (
  some 0) n 0
set_option maxHeartbeats 1000000 in
set_option maxRecDepth 1000000 in
theorem b9n (n : Nat) (vals1 : (List Int)) (r : Int) (hm : b1t n vals1 = some r) {w : World} {F : Frz} (hs : Sat F w) {as1 : Option Addr} {ns1 : Nat} {cs1 : Nat} (hs1 : SlR (Rp.int .i64) F as1 ns1 cs1 vals1) :
  Calls Tryz.prog 78 #[.slice as1 ns1 cs1] w fun e w' => e = .returned (.int .i64 r) ∧ w' = w := by
 unfold b1t at hm
 have h := HS.init hs
 refine a0x 18 Tryz.func78 rfl rfl rfl ?_
 refine a0f (a0a (a0b rfl rfl rfl (a0c (a0d (a0f (a0a (a0b rfl rfl rfl (a0c (a0d (a0f (a0f (a0a (a0e rfl rfl rfl ?_)))))))))))))
 refine a1z hs1.len u22 rfl rfl rfl ?_
 refine a0e rfl rfl rfl (a0c (a0d (a1i ?_)))
 intro a hax3
 obtain ⟨kont1, hkont1⟩ : ∃ kont1 : Option Int, kont1 = (
       some 0) := ⟨_, rfl⟩
 replace hm : (fun m (s : Int) => a7d n vals1 kont1 m s) n 0 = some r := by rw [hkont1]; exact hm
 refine a5u (id := 0) (fun m (s : Int) => a7d n vals1 kont1 m s) (fun (y : Unit) => kont1) r (fun (s : Int) a w' => w = w' ∧ Has 18 a [(3, .int .i64 0), (6, .slice as1 ns1 cs1), (7, .int .i64 (vals1.length : Int)), (8, .int .i64 s)]) (fun (y : Unit) a w' => w = w' ∧ Has 18 a [(3, .int .i64 0)]) (fun _ => rfl) ?_ ?_ hm ⟨rfl, hax3.cut (l := [3, 6, 7, 8]) rfl⟩
 ·clear hm; rintro _u a wx1 hm ⟨rfl, hax1⟩
  rw [hkont1] at hm
  refine a2d (e := .exit 0) hax1 ?_
  refine a1j (a0d (a0f (a0a (a0e rfl rfl rfl (a0b rfl rfl rfl (a0c (a0d (a1d ?_))))))))
  refine a1p rfl rfl ?_
  obtain rfl := Option.some.inj hm
  exact ⟨rfl, rfl⟩
 clear hm hkont1; intro hk1 mx1 K ihx1
 rintro i1 a wx2 hm ⟨rfl, hax2⟩
 simp only [a8i] at hm
 refine a1l hax2 ?_
 refine a0f (a0a ?_)
 refine a0v rfl rfl rfl rfl rfl ?_
 refine a0c (a0d (a0f ?_))
 rcases a0i hm with ⟨hb1, hm⟩ | ⟨hb1, hm⟩
 ·refine a0u 9 rfl hb1 ?_
  refine a0z rfl (a1b (a0d (a0f (a1i (a0f (a0a ?_))))))
  obtain ⟨ex1, he1, hm⟩ := bind_some hm
  refine a3w (r := (Rp.int .i64)) u22 sz3 rfl rfl rfl rfl hs1 he1 ?_
  intro b1 o1 cs1 hf1 hr1
  have hc1 : cs1 = [.int .i64 ex1] := hr1
  subst hc1
  refine a2h (j := 0) ag3 rfl rfl h hf1 rfl rfl ?_
  refine a0b rfl rfl rfl (a0c (a0d (a0f (a0a (a0e rfl rfl rfl (a0e rfl rfl rfl ?_))))))
  refine a0v rfl rfl rfl rfl rfl ?_
  refine a0c (a0d ?_)
  rcases a0i hm with ⟨hb2, hm⟩ | ⟨hb2, hm⟩
  ·refine a0u 14 rfl hb2 ?_
   refine a0z rfl (a0f (a0a (a0e rfl rfl rfl (a0b rfl rfl rfl (a0c (a0d (a1d (a1n (a0n (a0n (a1n (a0n ?_))))))))))))
   refine a1p rfl rfl ?_
   obtain rfl := Option.some.inj hm
   exact ⟨rfl, rfl⟩
  refine a0u 14 rfl hb2 ?_
  refine a0s rfl (a1b (a2a (a0d (a0a ?_))))
  refine a0v rfl rfl rfl rfl rfl ?_
  refine a0e rfl rfl rfl (a0c ?_)
  refine a0p (fun a ha => ihx1 (iadd .i64 i1 1) a _ hm ?_)
  exact ⟨rfl, ha.cut (l := [3, 6, 7, 8]) rfl⟩
 refine a0u 9 rfl hb1 ?_
 refine a0s rfl (a3l (a0q (a0q ?_)))
 refine fun a ha => hk1 () a _ hm ?_
 exact ⟨rfl, ha.cut (l := [3]) rfl⟩
theorem ent75 : Ent Tryz.prog 75 := fun _ _ => by kernel_rfl
theorem ent78 : Ent Tryz.prog 78 := fun _ _ => by kernel_rfl
theorem ent79 : Ent Tryz.prog 79 := fun _ _ => by kernel_rfl
theorem ent81 : Ent Tryz.prog 81 := fun _ _ => by kernel_rfl
def b6y (n : Nat) (ax1 : Big) (b1 : Big) : Option (Big × Int) :=
 (a3a n ax1).bind fun v1 =>
 (bif !v1 then
  some true
 else
  (a3a n b1).bind fun v15 =>
  some (!v15)).bind fun v2 =>
 bif v2 then
  (a4p n false (⟨0, []⟩ : Big)).bind fun v3 =>
  some (v3.1, v3.2)
 else
  bif decide (0 ≤ (imul .i64 ax1.Sign b1.Sign)) then
   (b1t n [ax1.Sign, b1.Sign]).bind fun v4 =>
   (b1j n ax1.Digits b1.Digits).bind fun v5 =>
   (a1y n v4 v5).bind fun v6 =>
   (a4p n true v6).bind fun v7 =>
   some (v7.1, v7.2)
  else
   (a6p n ax1.Digits b1.Digits).bind fun v8 =>
   bif decide (v8 < 0) then
    (b3c n b1.Digits ax1.Digits).bind fun v9 =>
    (a1y n b1.Sign v9).bind fun v10 =>
    (a4p n true v10).bind fun v11 =>
    some (v11.1, v11.2)
   else
    (b3c n ax1.Digits b1.Digits).bind fun v12 =>
    (a1y n ax1.Sign v12).bind fun v13 =>
    (a4p n true v13).bind fun v14 =>
    some (v14.1, v14.2)
set_option maxHeartbeats 1000000 in
set_option maxRecDepth 1000000 in
theorem b3p (n : Nat) (ax1 : Big) (b1 : Big) (r : (Big × Int)) (hm : b6y n ax1 b1 = some r) {w : World} {F : Frz} (hs : Sat F w) {as1 : Option Addr} {ns1 : Nat} {cs1 : Nat} {as2 : Option Addr} {ns2 : Nat} {cs2 : Nat} (hs1 : SlR (Rp.int .i64) F as1 ns1 cs1 ax1.Digits) (hs2 : SlR (Rp.int .i64) F as2 ns2 cs2 b1.Digits) :
  Calls Tryz.prog 49 #[.agg #[.int .i64 ax1.Sign, .slice as1 ns1 cs1], .agg #[.int .i64 b1.Sign, .slice as2 ns2 cs2]] w fun e w' => ∃ v F' O', e = .returned v ∧ HS F w [] F' O' w' ∧ (∃ (a0_1 : Option Addr) (n0_1 : Nat) (c0_1 : Nat), v = .tuple #[.agg #[.int .i64 r.1.Sign, .slice a0_1 n0_1 c0_1], .int .i64 r.2] ∧ O' = [] ∧ SlR (Rp.int .i64) F' a0_1 n0_1 c0_1 r.1.Digits) := by
 unfold b6y at hm
 have h := HS.init hs
 refine a0x 69 Tryz.func49 rfl rfl rfl ?_
 refine a0f (a0a ?_)
 refine a2o rfl rfl rfl rfl h ?_
 intro b2 wx1 hx1
 refine a2o rfl rfl rfl rfl hx1 ?_
 intro b3 wx2 hx2
 refine a0y ze24 rfl rfl rfl hx2 ?_
 intro b4 wx3 hx3
 refine a0b rfl rfl rfl (a0c (a0d (a0f (a0f (a0a ?_)))))
 refine a0k ag24 sz24 rfl rfl hx3 rfl (i := 2) rfl rfl ?_
 obtain ⟨v1, hv1, hm⟩ := bind_some hm
 refine a0g ent60 rfl rfl rfl rfl hx3 (a2s _ _ _ hv1 hx3.sat hs1) ?_
 rintro _ Fx1 _ wx4 hF1 hx4 ⟨rfl, rfl⟩
 refine a2x rfl rfl rfl (a0e rfl rfl rfl ?_)
 obtain ⟨v2, hb1, hm⟩ := bind_some hm
 refine a2k 4 (fun a w' => ∃ (Fx2 : Frz), Frz.le Fx1 Fx2 ∧ HS F w [] Fx2 [.box b4 24 [.int .i64 0, .slice none 0 0], .box b3 24 [.int .i64 b1.Sign, .slice as2 ns2 cs2], .box b2 24 [.int .i64 ax1.Sign, .slice as1 ns1 cs1]] w' ∧ Has 69 a [(2, .pointer (some ⟨b2, 0, none⟩)), (3, .pointer (some ⟨b3, 0, none⟩)), (4, .pointer (some ⟨b4, 0, none⟩)), (13, .bool v2)]) ?_ ?_
 ·rintro a wx5 ⟨Fx2, hF2, hx5, hax1⟩
  refine a1a hax1 ?_
  refine a0c (a0d ?_)
  rcases a0i hm with ⟨hb2, hm⟩ | ⟨hb2, hm⟩
  ·refine a0u 13 rfl hb2 ?_
   refine a0z rfl (a0f (a0a ?_))
   refine a1r (v := .agg #[.int .i64 0, .slice none 0 0]) rfl rfl rfl (fun _ => by kernel_rfl) ?_
   obtain ⟨v3, hv2, hm⟩ := bind_some hm
   refine a0g ent75 rfl rfl rfl rfl hx5 (a5a _ _ _ _ hv2 hx5.sat (SlR.nil _ _)) ?_
   rintro _ Fx3 _ wx6 hF3 hx6 ⟨as3, ns3, cs3, rfl, rfl, hs3⟩
   refine a0j rfl rfl rfl rfl (a0j rfl rfl rfl rfl ?_)
   refine a0o sz24 rfl hx6 rfl rfl rfl rfl (i := 0) rfl rfl rfl rfl ?_
   intro wx7 hx7
   refine a0b rfl rfl rfl (a0c (a0d (a1d (a0n ?_))))
   refine a1k (vl := [.agg #[.int .i64 v3.1.Sign, .slice as3 ns3 cs3], .int .i64 v3.2]) rfl ⟨a1q ag24 sz24 rfl hx7 rfl (i := 0) rfl, a1w rfl, trivial⟩ (by simp) ?_
   obtain rfl := Option.some.inj hm
   exact ⟨_, _, _, rfl, hx7.pick [] (by decide) rfl, as3, ns3, cs3, rfl, rfl, hs3⟩
  refine a0u 13 rfl hb2 ?_
  refine a0s rfl (a1b (a0d (a0f (a1i (a0f (a0a ?_))))))
  refine a0h fa24_0 rfl rfl rfl ?_
  refine a0t ag3 rfl rfl hx5 rfl (i := 2) rfl rfl ?_
  refine a0h fa24_0 rfl rfl rfl ?_
  refine a0t ag3 rfl rfl hx5 rfl (i := 1) rfl rfl ?_
  refine a0v rfl rfl rfl rfl rfl ?_
  refine a0v rfl rfl rfl rfl rfl ?_
  refine a0b rfl rfl rfl (a0c (a0d ?_))
  rcases a0i hm with ⟨hb3, hm⟩ | ⟨hb3, hm⟩
  ·refine a0u 18 rfl hb3 ?_
   refine a0z rfl (a0f ?_)
   refine a2m (SH Fx2 [.box b3 24 [.int .i64 b1.Sign, .slice as2 ns2 cs2], .box b2 24 [.int .i64 ax1.Sign, .slice as1 ns1 cs1]]) 17 rfl (by kernel_rfl) hx5 ?_
   intro wx8 hx8
   refine d_tk 0 rfl (by kernel_rfl) rfl rfl rfl rfl (hx8.sh (Frz.refl _) [1, 2] (by decide) rfl) (fun _ _ _ _ _ => a0h fa24_0 rfl rfl rfl (a0c (qq rfl))) ?_
   refine d_tk 1 rfl (by kernel_rfl) rfl rfl rfl rfl (hx8.sh (Frz.refl _) [1, 2] (by decide) rfl) (fun _ _ _ _ hq => a0t ag3 rfl rfl hq rfl (i := 1) rfl rfl (a0c (qq rfl))) ?_
   refine d_tk 2 rfl (by kernel_rfl) rfl rfl rfl rfl (hx8.sh (Frz.refl _) [1, 2] (by decide) rfl) (fun _ _ _ _ _ => a0h fa24_0 rfl rfl rfl (a0c (qq rfl))) ?_
   refine d_tk 3 rfl (by kernel_rfl) rfl rfl rfl rfl (hx8.sh (Frz.refl _) [1, 2] (by decide) rfl) (fun _ _ _ _ hq => a0t ag3 rfl rfl hq rfl (i := 0) rfl rfl (a0c (qq rfl))) ?_
   refine d_tk 6 rfl (by kernel_rfl) rfl rfl rfl rfl (hx8.sh (Frz.refl _) [1, 2] (by decide) rfl) (fun _ _ _ _ _ => a0h fa24_1 rfl rfl rfl (a0c (qq rfl))) ?_
   refine d_tk 7 rfl (by kernel_rfl) rfl rfl rfl rfl (hx8.sh (Frz.refl _) [1, 2] (by decide) rfl) (fun _ _ _ _ hq => a0t ag22 rfl rfl hq rfl (i := 1) rfl rfl (a0c (qq rfl))) ?_
   refine d_tk 8 rfl (by kernel_rfl) rfl rfl rfl rfl (hx8.sh (Frz.refl _) [1, 2] (by decide) rfl) (fun _ _ _ _ _ => a0h fa24_1 rfl rfl rfl (a0c (qq rfl))) ?_
   refine d_tk 9 rfl (by kernel_rfl) rfl rfl rfl rfl (hx8.sh (Frz.refl _) [1, 2] (by decide) rfl) (fun _ _ _ _ hq => a0t ag22 rfl rfl hq rfl (i := 0) rfl rfl (a0c (qq rfl))) ?_
   refine a1c 4 rfl (by kernel_rfl) ?_
   refine a1x (e := 3) (cs := [.int .i64 ax1.Sign, .int .i64 b1.Sign]) (q := 1) rfl rfl hx8 rfl (fun _ => by kernel_rfl) rfl rfl ?_
   intro b5 wx9 hx9
   refine a0w (hx9.sh (Frz.refl _) [2, 3] (by decide) rfl) ?_
   refine a1c 5 rfl (by kernel_rfl) ?_
   obtain ⟨v4, hv3, hm⟩ := bind_some hm
   refine a4e ent78 rfl rfl rfl rfl (b9n _ _ _ hv3 (a7l _) (hx9.viewRow (p := 0) rfl rfl ((show RowN (Rp.int .i64) Fx2 2 [.int .i64 ax1.Sign, .int .i64 b1.Sign] [ax1.Sign, b1.Sign] from ⟨rfl, ⟨_, _, rfl, rfl, ⟨_, _, rfl, rfl, (rfl : RowR (Rp.int .i64) _ [] [])⟩⟩⟩)))) ?_
   refine a0w (hx9.sh (Frz.refl _) [2, 3] (by decide) rfl) ?_
   refine a1c 10 rfl (by kernel_rfl) ?_
   obtain ⟨v5, hv4, hm⟩ := bind_some hm
   refine a0g ent79 rfl rfl rfl rfl hx9 (b5e _ _ _ _ hv4 hx9.sat ((hs1.mono hF1).mono hF2) ((hs2.mono hF1).mono hF2)) ?_
   rintro _ Fx4 _ wx10 hF4 hx10 ⟨as4, ns4, cs4, xss4, rfl, rfl, hs4⟩
   refine a0w (hx10.sh hF4 [3, 4] (by decide) rfl) ?_
   refine a1c 11 rfl (by kernel_rfl) ?_
   obtain ⟨Fx5, hF5, hx11, hsx1⟩ := a1g hx10 (i := 0) rfl hs4
   obtain ⟨v6, hv5, hm⟩ := bind_some hm
   refine a0g ent76 rfl rfl rfl rfl hx11 (a3d _ _ _ _ hv5 hx11.sat hsx1) ?_
   rintro _ Fx6 _ wx11 hF6 hx12 ⟨as5, ns5, cs5, rfl, rfl, hs5⟩
   refine a0w (hx12.sh ((hF4.trans hF5).trans hF6) [2, 3] (by decide) rfl) ?_
   refine a1c 12 rfl (by kernel_rfl) ?_
   obtain ⟨v7, hv6, hm⟩ := bind_some hm
   refine a0g ent75 rfl rfl rfl rfl hx12 (a5a _ _ _ _ hv6 hx12.sat hs5) ?_
   rintro _ Fx7 _ wx12 hF7 hx13 ⟨as6, ns6, cs6, rfl, rfl, hs6⟩
   refine a0w (hx13.sh (((hF4.trans hF5).trans hF6).trans hF7) [2, 3] (by decide) rfl) ?_
   refine d_tk 13 rfl (by kernel_rfl) rfl rfl rfl rfl (hx13.sh (((hF4.trans hF5).trans hF6).trans hF7) [2, 3] (by decide) rfl) (fun _ _ _ _ _ => a0j rfl rfl rfl rfl (a0c (qq rfl))) ?_
   refine d_tk 14 rfl (by kernel_rfl) rfl rfl rfl rfl (hx13.sh (((hF4.trans hF5).trans hF6).trans hF7) [2, 3] (by decide) rfl) (fun _ _ _ _ _ => a0j rfl rfl rfl rfl (a0c (qq rfl))) ?_
   refine a1c 15 rfl (by kernel_rfl) ?_
   refine a0o sz24 rfl hx13 rfl rfl rfl rfl (i := 1) rfl rfl rfl rfl ?_
   intro wx13 hx14
   refine a0w (hx14.sh (((hF4.trans hF5).trans hF6).trans hF7) [2, 3] (by decide) rfl) ?_
   refine d_tk 16 rfl (by kernel_rfl) rfl rfl rfl rfl (hx14.sh (((hF4.trans hF5).trans hF6).trans hF7) [2, 3] (by decide) rfl) (fun _ _ _ _ _ => a0b rfl rfl rfl (a0c (qq rfl))) ?_
   refine a3v (by kernel_rfl) ?_
   refine a0d (a1d (a1n (a0n ?_)))
   refine a1k (vl := [.agg #[.int .i64 v7.1.Sign, .slice as6 ns6 cs6], .int .i64 v7.2]) rfl ⟨a1q ag24 sz24 rfl hx14 rfl (i := 1) rfl, a1w rfl, trivial⟩ (by simp) ?_
   obtain rfl := Option.some.inj hm
   exact ⟨_, _, _, rfl, hx14.pick [] (by decide) rfl, as6, ns6, cs6, rfl, rfl, hs6⟩
  refine a0u 18 rfl hb3 ?_
  refine a0s rfl (a0f (a0a ?_))
  refine a0h fa24_1 rfl rfl rfl ?_
  refine a0t ag22 rfl rfl hx5 rfl (i := 2) rfl rfl ?_
  refine a0h fa24_1 rfl rfl rfl ?_
  refine a0t ag22 rfl rfl hx5 rfl (i := 1) rfl rfl ?_
  obtain ⟨v8, hv7, hm⟩ := bind_some hm
  refine a0g ent80 rfl rfl rfl rfl hx5 (b1k _ _ _ _ hv7 hx5.sat ((hs1.mono hF1).mono hF2) ((hs2.mono hF1).mono hF2)) ?_
  rintro _ Fx8 _ wx14 hF8 hx15 ⟨rfl, rfl⟩
  refine a0v rfl rfl rfl rfl rfl ?_
  refine a0b rfl rfl rfl (a0c (a0d ?_))
  rcases a0i hm with ⟨hb4, hm⟩ | ⟨hb4, hm⟩
  ·refine a0u 40 rfl hb4 ?_
   refine a0z rfl (a0f ?_)
   refine a2m (SH Fx8 [.box b3 24 [.int .i64 b1.Sign, .slice as2 ns2 cs2], .box b2 24 [.int .i64 ax1.Sign, .slice as1 ns1 cs1]]) 13 rfl (by kernel_rfl) hx15 ?_
   intro wx15 hx16
   refine d_tk 0 rfl (by kernel_rfl) rfl rfl rfl rfl (hx16.sh (Frz.refl _) [1, 2] (by decide) rfl) (fun _ _ _ _ _ => a0h fa24_0 rfl rfl rfl (a0c (qq rfl))) ?_
   refine d_tk 1 rfl (by kernel_rfl) rfl rfl rfl rfl (hx16.sh (Frz.refl _) [1, 2] (by decide) rfl) (fun _ _ _ _ hq => a0t ag3 rfl rfl hq rfl (i := 0) rfl rfl (a0c (qq rfl))) ?_
   refine d_tk 2 rfl (by kernel_rfl) rfl rfl rfl rfl (hx16.sh (Frz.refl _) [1, 2] (by decide) rfl) (fun _ _ _ _ _ => a0h fa24_1 rfl rfl rfl (a0c (qq rfl))) ?_
   refine d_tk 3 rfl (by kernel_rfl) rfl rfl rfl rfl (hx16.sh (Frz.refl _) [1, 2] (by decide) rfl) (fun _ _ _ _ hq => a0t ag22 rfl rfl hq rfl (i := 0) rfl rfl (a0c (qq rfl))) ?_
   refine d_tk 4 rfl (by kernel_rfl) rfl rfl rfl rfl (hx16.sh (Frz.refl _) [1, 2] (by decide) rfl) (fun _ _ _ _ _ => a0h fa24_1 rfl rfl rfl (a0c (qq rfl))) ?_
   refine d_tk 5 rfl (by kernel_rfl) rfl rfl rfl rfl (hx16.sh (Frz.refl _) [1, 2] (by decide) rfl) (fun _ _ _ _ hq => a0t ag22 rfl rfl hq rfl (i := 1) rfl rfl (a0c (qq rfl))) ?_
   refine a1c 6 rfl (by kernel_rfl) ?_
   obtain ⟨v9, hv8, hm⟩ := bind_some hm
   refine a0g ent81 rfl rfl rfl rfl hx16 (b5n _ _ _ _ hv8 hx16.sat (((hs2.mono hF1).mono hF2).mono hF8) (((hs1.mono hF1).mono hF2).mono hF8)) ?_
   rintro _ Fx9 _ wx16 hF9 hx17 ⟨as7, ns7, cs7, xss7, rfl, rfl, hs7⟩
   refine a0w (hx17.sh hF9 [2, 3] (by decide) rfl) ?_
   refine a1c 7 rfl (by kernel_rfl) ?_
   obtain ⟨Fx10, hF10, hx18, hsx2⟩ := a1g hx17 (i := 0) rfl hs7
   obtain ⟨v10, hv9, hm⟩ := bind_some hm
   refine a0g ent76 rfl rfl rfl rfl hx18 (a3d _ _ _ _ hv9 hx18.sat hsx2) ?_
   rintro _ Fx11 _ wx17 hF11 hx19 ⟨as8, ns8, cs8, rfl, rfl, hs8⟩
   refine a0w (hx19.sh ((hF9.trans hF10).trans hF11) [1, 2] (by decide) rfl) ?_
   refine a1c 8 rfl (by kernel_rfl) ?_
   obtain ⟨v11, hv10, hm⟩ := bind_some hm
   refine a0g ent75 rfl rfl rfl rfl hx19 (a5a _ _ _ _ hv10 hx19.sat hs8) ?_
   rintro _ Fx12 _ wx18 hF12 hx20 ⟨as9, ns9, cs9, rfl, rfl, hs9⟩
   refine a0w (hx20.sh (((hF9.trans hF10).trans hF11).trans hF12) [1, 2] (by decide) rfl) ?_
   refine d_tk 9 rfl (by kernel_rfl) rfl rfl rfl rfl (hx20.sh (((hF9.trans hF10).trans hF11).trans hF12) [1, 2] (by decide) rfl) (fun _ _ _ _ _ => a0j rfl rfl rfl rfl (a0c (qq rfl))) ?_
   refine d_tk 10 rfl (by kernel_rfl) rfl rfl rfl rfl (hx20.sh (((hF9.trans hF10).trans hF11).trans hF12) [1, 2] (by decide) rfl) (fun _ _ _ _ _ => a0j rfl rfl rfl rfl (a0c (qq rfl))) ?_
   refine a1c 11 rfl (by kernel_rfl) ?_
   refine a0o sz24 rfl hx20 rfl rfl rfl rfl (i := 0) rfl rfl rfl rfl ?_
   intro wx19 hx21
   refine a0w (hx21.sh (((hF9.trans hF10).trans hF11).trans hF12) [1, 2] (by decide) rfl) ?_
   refine d_tk 12 rfl (by kernel_rfl) rfl rfl rfl rfl (hx21.sh (((hF9.trans hF10).trans hF11).trans hF12) [1, 2] (by decide) rfl) (fun _ _ _ _ _ => a0b rfl rfl rfl (a0c (qq rfl))) ?_
   refine a3v (by kernel_rfl) ?_
   refine a0d (a1d (a1n (a0n ?_)))
   refine a1k (vl := [.agg #[.int .i64 v11.1.Sign, .slice as9 ns9 cs9], .int .i64 v11.2]) rfl ⟨a1q ag24 sz24 rfl hx21 rfl (i := 0) rfl, a1w rfl, trivial⟩ (by simp) ?_
   obtain rfl := Option.some.inj hm
   exact ⟨_, _, _, rfl, hx21.pick [] (by decide) rfl, as9, ns9, cs9, rfl, rfl, hs9⟩
  refine a0u 40 rfl hb4 ?_
  refine a0s rfl (a1b (a2a (a0d (a0f ?_))))
  refine a2m (SH Fx8 [.box b3 24 [.int .i64 b1.Sign, .slice as2 ns2 cs2], .box b2 24 [.int .i64 ax1.Sign, .slice as1 ns1 cs1]]) 13 rfl (by kernel_rfl) hx15 ?_
  intro wx20 hx22
  refine d_tk 0 rfl (by kernel_rfl) rfl rfl rfl rfl (hx22.sh (Frz.refl _) [1, 2] (by decide) rfl) (fun _ _ _ _ _ => a0h fa24_0 rfl rfl rfl (a0c (qq rfl))) ?_
  refine d_tk 1 rfl (by kernel_rfl) rfl rfl rfl rfl (hx22.sh (Frz.refl _) [1, 2] (by decide) rfl) (fun _ _ _ _ hq => a0t ag3 rfl rfl hq rfl (i := 1) rfl rfl (a0c (qq rfl))) ?_
  refine d_tk 2 rfl (by kernel_rfl) rfl rfl rfl rfl (hx22.sh (Frz.refl _) [1, 2] (by decide) rfl) (fun _ _ _ _ _ => a0h fa24_1 rfl rfl rfl (a0c (qq rfl))) ?_
  refine d_tk 3 rfl (by kernel_rfl) rfl rfl rfl rfl (hx22.sh (Frz.refl _) [1, 2] (by decide) rfl) (fun _ _ _ _ hq => a0t ag22 rfl rfl hq rfl (i := 1) rfl rfl (a0c (qq rfl))) ?_
  refine d_tk 4 rfl (by kernel_rfl) rfl rfl rfl rfl (hx22.sh (Frz.refl _) [1, 2] (by decide) rfl) (fun _ _ _ _ _ => a0h fa24_1 rfl rfl rfl (a0c (qq rfl))) ?_
  refine d_tk 5 rfl (by kernel_rfl) rfl rfl rfl rfl (hx22.sh (Frz.refl _) [1, 2] (by decide) rfl) (fun _ _ _ _ hq => a0t ag22 rfl rfl hq rfl (i := 0) rfl rfl (a0c (qq rfl))) ?_
  refine a1c 6 rfl (by kernel_rfl) ?_
  obtain ⟨v12, hv11, hm⟩ := bind_some hm
  refine a0g ent81 rfl rfl rfl rfl hx22 (b5n _ _ _ _ hv11 hx22.sat (((hs1.mono hF1).mono hF2).mono hF8) (((hs2.mono hF1).mono hF2).mono hF8)) ?_
  rintro _ Fx13 _ wx21 hF13 hx23 ⟨as10, ns10, cs10, xss10, rfl, rfl, hs10⟩
  refine a0w (hx23.sh hF13 [2, 3] (by decide) rfl) ?_
  refine a1c 7 rfl (by kernel_rfl) ?_
  obtain ⟨Fx14, hF14, hx24, hsx3⟩ := a1g hx23 (i := 0) rfl hs10
  obtain ⟨v13, hv12, hm⟩ := bind_some hm
  refine a0g ent76 rfl rfl rfl rfl hx24 (a3d _ _ _ _ hv12 hx24.sat hsx3) ?_
  rintro _ Fx15 _ wx22 hF15 hx25 ⟨as11, ns11, cs11, rfl, rfl, hs11⟩
  refine a0w (hx25.sh ((hF13.trans hF14).trans hF15) [1, 2] (by decide) rfl) ?_
  refine a1c 8 rfl (by kernel_rfl) ?_
  obtain ⟨v14, hv13, hm⟩ := bind_some hm
  refine a0g ent75 rfl rfl rfl rfl hx25 (a5a _ _ _ _ hv13 hx25.sat hs11) ?_
  rintro _ Fx16 _ wx23 hF16 hx26 ⟨as12, ns12, cs12, rfl, rfl, hs12⟩
  refine a0w (hx26.sh (((hF13.trans hF14).trans hF15).trans hF16) [1, 2] (by decide) rfl) ?_
  refine d_tk 9 rfl (by kernel_rfl) rfl rfl rfl rfl (hx26.sh (((hF13.trans hF14).trans hF15).trans hF16) [1, 2] (by decide) rfl) (fun _ _ _ _ _ => a0j rfl rfl rfl rfl (a0c (qq rfl))) ?_
  refine d_tk 10 rfl (by kernel_rfl) rfl rfl rfl rfl (hx26.sh (((hF13.trans hF14).trans hF15).trans hF16) [1, 2] (by decide) rfl) (fun _ _ _ _ _ => a0j rfl rfl rfl rfl (a0c (qq rfl))) ?_
  refine a1c 11 rfl (by kernel_rfl) ?_
  refine a0o sz24 rfl hx26 rfl rfl rfl rfl (i := 0) rfl rfl rfl rfl ?_
  intro wx24 hx27
  refine a0w (hx27.sh (((hF13.trans hF14).trans hF15).trans hF16) [1, 2] (by decide) rfl) ?_
  refine d_tk 12 rfl (by kernel_rfl) rfl rfl rfl rfl (hx27.sh (((hF13.trans hF14).trans hF15).trans hF16) [1, 2] (by decide) rfl) (fun _ _ _ _ _ => a0b rfl rfl rfl (a0c (qq rfl))) ?_
  refine a3v (by kernel_rfl) ?_
  refine a0d (a1d ?_)
  refine a1k (vl := [.agg #[.int .i64 v14.1.Sign, .slice as12 ns12 cs12], .int .i64 v14.2]) rfl ⟨a1q ag24 sz24 rfl hx27 rfl (i := 0) rfl, a1w rfl, trivial⟩ (by simp) ?_
  obtain rfl := Option.some.inj hm
  exact ⟨_, _, _, rfl, hx27.pick [] (by decide) rfl, as12, ns12, cs12, rfl, rfl, hs12⟩
 clear hm
 rcases a0i hb1 with ⟨hb5, hb1⟩ | ⟨hb5, hb1⟩
 ·refine a1e 9 rfl hb5 ?_
  refine a0r rfl (by decide) rfl (a0r rfl (by decide) rfl (a0r rfl (by decide) rfl (a0m rfl rfl rfl rfl (a0c ?_))))
  refine a0p (fun a ha => ?_)
  cases hb1
  exact ⟨_, Frz.refl _, hx4.pick [0, 1, 2] (by decide) rfl, ha.cut (l := [2, 3, 4, 13]) rfl⟩
 refine a1e 9 rfl hb5 ?_
 refine a0k ag24 sz24 rfl rfl hx4 rfl (i := 1) rfl rfl ?_
 obtain ⟨v15, hv14, hb1⟩ := bind_some hb1
 refine a0g ent60 rfl rfl rfl rfl hx4 (a2s _ _ _ hv14 hx4.sat (hs2.mono hF1)) ?_
 rintro _ Fx17 _ wx25 hF17 hx28 ⟨rfl, rfl⟩
 refine a2x rfl rfl rfl (a0l rfl rfl rfl rfl (a0c ?_))
 refine a0p (fun a ha => ?_)
 cases hb1
 exact ⟨_, hF17, hx28.pick [0, 1, 2] (by decide) rfl, ha.cut (l := [2, 3, 4, 13]) rfl⟩
def b8m (n : Nat) (ax1 : Big) (b1 : Big) : Option (Big × Int) :=
 (a3a n ax1).bind fun v1 =>
 (bif !v1 then
  some true
 else
  (a3a n b1).bind fun v7 =>
  some (!v7)).bind fun v2 =>
 bif v2 then
  (a4p n false (⟨0, []⟩ : Big)).bind fun v3 =>
  some (v3.1, v3.2)
 else
  (a8o n ax1.Digits b1.Digits).bind fun v4 =>
  (a1y n (imul .i64 ax1.Sign b1.Sign) v4).bind fun v5 =>
  (a4p n true v5).bind fun v6 =>
  some (v6.1, v6.2)
set_option maxHeartbeats 1000000 in
set_option maxRecDepth 1000000 in
theorem c3v (n : Nat) (ax1 : Big) (b1 : Big) (r : (Big × Int)) (hm : b8m n ax1 b1 = some r) {w : World} {F : Frz} (hs : Sat F w) {as1 : Option Addr} {ns1 : Nat} {cs1 : Nat} {as2 : Option Addr} {ns2 : Nat} {cs2 : Nat} (hs1 : SlR (Rp.int .i64) F as1 ns1 cs1 ax1.Digits) (hs2 : SlR (Rp.int .i64) F as2 ns2 cs2 b1.Digits) :
  Calls Tryz.prog 47 #[.agg #[.int .i64 ax1.Sign, .slice as1 ns1 cs1], .agg #[.int .i64 b1.Sign, .slice as2 ns2 cs2]] w fun e w' => ∃ v F' O', e = .returned v ∧ HS F w [] F' O' w' ∧ (∃ (a0_1 : Option Addr) (n0_1 : Nat) (c0_1 : Nat), v = .tuple #[.agg #[.int .i64 r.1.Sign, .slice a0_1 n0_1 c0_1], .int .i64 r.2] ∧ O' = [] ∧ SlR (Rp.int .i64) F' a0_1 n0_1 c0_1 r.1.Digits) := by
 unfold b8m at hm
 have h := HS.init hs
 refine a0x 32 Tryz.func47 rfl rfl rfl ?_
 refine a0f (a0a ?_)
 refine a2o rfl rfl rfl rfl h ?_
 intro b2 wx1 hx1
 refine a2o rfl rfl rfl rfl hx1 ?_
 intro b3 wx2 hx2
 refine a0y ze24 rfl rfl rfl hx2 ?_
 intro b4 wx3 hx3
 refine a0b rfl rfl rfl (a0c (a0d (a0f (a0f (a0a ?_)))))
 refine a0k ag24 sz24 rfl rfl hx3 rfl (i := 2) rfl rfl ?_
 obtain ⟨v1, hv1, hm⟩ := bind_some hm
 refine a0g ent60 rfl rfl rfl rfl hx3 (a2s _ _ _ hv1 hx3.sat hs1) ?_
 rintro _ Fx1 _ wx4 hF1 hx4 ⟨rfl, rfl⟩
 refine a2x rfl rfl rfl (a0e rfl rfl rfl ?_)
 obtain ⟨v2, hb1, hm⟩ := bind_some hm
 refine a2k 4 (fun a w' => ∃ (Fx2 : Frz), Frz.le Fx1 Fx2 ∧ HS F w [] Fx2 [.box b4 24 [.int .i64 0, .slice none 0 0], .box b3 24 [.int .i64 b1.Sign, .slice as2 ns2 cs2], .box b2 24 [.int .i64 ax1.Sign, .slice as1 ns1 cs1]] w' ∧ Has 32 a [(2, .pointer (some ⟨b2, 0, none⟩)), (3, .pointer (some ⟨b3, 0, none⟩)), (4, .pointer (some ⟨b4, 0, none⟩)), (13, .bool v2)]) ?_ ?_
 ·rintro a wx5 ⟨Fx2, hF2, hx5, hax1⟩
  refine a1a hax1 ?_
  refine a0c (a0d ?_)
  rcases a0i hm with ⟨hb2, hm⟩ | ⟨hb2, hm⟩
  ·refine a0u 13 rfl hb2 ?_
   refine a0z rfl (a0f (a0a ?_))
   refine a1r (v := .agg #[.int .i64 0, .slice none 0 0]) rfl rfl rfl (fun _ => by kernel_rfl) ?_
   obtain ⟨v3, hv2, hm⟩ := bind_some hm
   refine a0g ent75 rfl rfl rfl rfl hx5 (a5a _ _ _ _ hv2 hx5.sat (SlR.nil _ _)) ?_
   rintro _ Fx3 _ wx6 hF3 hx6 ⟨as3, ns3, cs3, rfl, rfl, hs3⟩
   refine a0j rfl rfl rfl rfl (a0j rfl rfl rfl rfl ?_)
   refine a0o sz24 rfl hx6 rfl rfl rfl rfl (i := 0) rfl rfl rfl rfl ?_
   intro wx7 hx7
   refine a0b rfl rfl rfl (a0c (a0d (a1d (a0n ?_))))
   refine a1k (vl := [.agg #[.int .i64 v3.1.Sign, .slice as3 ns3 cs3], .int .i64 v3.2]) rfl ⟨a1q ag24 sz24 rfl hx7 rfl (i := 0) rfl, a1w rfl, trivial⟩ (by simp) ?_
   obtain rfl := Option.some.inj hm
   exact ⟨_, _, _, rfl, hx7.pick [] (by decide) rfl, as3, ns3, cs3, rfl, rfl, hs3⟩
  refine a0u 13 rfl hb2 ?_
  refine a0s rfl (a1b (a0d (a0f ?_)))
  refine a2m (SH Fx2 [.box b3 24 [.int .i64 b1.Sign, .slice as2 ns2 cs2], .box b2 24 [.int .i64 ax1.Sign, .slice as1 ns1 cs1]]) 16 rfl (by kernel_rfl) hx5 ?_
  intro wx8 hx8
  refine d_tk 0 rfl (by kernel_rfl) rfl rfl rfl rfl (hx8.sh (Frz.refl _) [1, 2] (by decide) rfl) (fun _ _ _ _ _ => a0h fa24_0 rfl rfl rfl (a0c (qq rfl))) ?_
  refine d_tk 1 rfl (by kernel_rfl) rfl rfl rfl rfl (hx8.sh (Frz.refl _) [1, 2] (by decide) rfl) (fun _ _ _ _ hq => a0t ag3 rfl rfl hq rfl (i := 1) rfl rfl (a0c (qq rfl))) ?_
  refine d_tk 2 rfl (by kernel_rfl) rfl rfl rfl rfl (hx8.sh (Frz.refl _) [1, 2] (by decide) rfl) (fun _ _ _ _ _ => a0h fa24_0 rfl rfl rfl (a0c (qq rfl))) ?_
  refine d_tk 3 rfl (by kernel_rfl) rfl rfl rfl rfl (hx8.sh (Frz.refl _) [1, 2] (by decide) rfl) (fun _ _ _ _ hq => a0t ag3 rfl rfl hq rfl (i := 0) rfl rfl (a0c (qq rfl))) ?_
  refine d_tk 4 rfl (by kernel_rfl) rfl rfl rfl rfl (hx8.sh (Frz.refl _) [1, 2] (by decide) rfl) (fun _ _ _ _ _ => a0v rfl rfl rfl rfl rfl (a0c (qq rfl))) ?_
  refine d_tk 5 rfl (by kernel_rfl) rfl rfl rfl rfl (hx8.sh (Frz.refl _) [1, 2] (by decide) rfl) (fun _ _ _ _ _ => a0h fa24_1 rfl rfl rfl (a0c (qq rfl))) ?_
  refine d_tk 6 rfl (by kernel_rfl) rfl rfl rfl rfl (hx8.sh (Frz.refl _) [1, 2] (by decide) rfl) (fun _ _ _ _ hq => a0t ag22 rfl rfl hq rfl (i := 1) rfl rfl (a0c (qq rfl))) ?_
  refine d_tk 7 rfl (by kernel_rfl) rfl rfl rfl rfl (hx8.sh (Frz.refl _) [1, 2] (by decide) rfl) (fun _ _ _ _ _ => a0h fa24_1 rfl rfl rfl (a0c (qq rfl))) ?_
  refine d_tk 8 rfl (by kernel_rfl) rfl rfl rfl rfl (hx8.sh (Frz.refl _) [1, 2] (by decide) rfl) (fun _ _ _ _ hq => a0t ag22 rfl rfl hq rfl (i := 0) rfl rfl (a0c (qq rfl))) ?_
  refine a1c 9 rfl (by kernel_rfl) ?_
  obtain ⟨v4, hv3, hm⟩ := bind_some hm
  refine a0g ent77 rfl rfl rfl rfl hx8 (b3t _ _ _ _ hv3 hx8.sat ((hs1.mono hF1).mono hF2) ((hs2.mono hF1).mono hF2)) ?_
  rintro _ Fx4 _ wx9 hF4 hx9 ⟨as4, ns4, cs4, xss4, rfl, rfl, hs4⟩
  refine a0w (hx9.sh hF4 [2, 3] (by decide) rfl) ?_
  refine a1c 10 rfl (by kernel_rfl) ?_
  obtain ⟨Fx5, hF5, hx10, hsx1⟩ := a1g hx9 (i := 0) rfl hs4
  obtain ⟨v5, hv4, hm⟩ := bind_some hm
  refine a0g ent76 rfl rfl rfl rfl hx10 (a3d _ _ _ _ hv4 hx10.sat hsx1) ?_
  rintro _ Fx6 _ wx10 hF6 hx11 ⟨as5, ns5, cs5, rfl, rfl, hs5⟩
  refine a0w (hx11.sh ((hF4.trans hF5).trans hF6) [1, 2] (by decide) rfl) ?_
  refine a1c 11 rfl (by kernel_rfl) ?_
  obtain ⟨v6, hv5, hm⟩ := bind_some hm
  refine a0g ent75 rfl rfl rfl rfl hx11 (a5a _ _ _ _ hv5 hx11.sat hs5) ?_
  rintro _ Fx7 _ wx11 hF7 hx12 ⟨as6, ns6, cs6, rfl, rfl, hs6⟩
  refine a0w (hx12.sh (((hF4.trans hF5).trans hF6).trans hF7) [1, 2] (by decide) rfl) ?_
  refine d_tk 12 rfl (by kernel_rfl) rfl rfl rfl rfl (hx12.sh (((hF4.trans hF5).trans hF6).trans hF7) [1, 2] (by decide) rfl) (fun _ _ _ _ _ => a0j rfl rfl rfl rfl (a0c (qq rfl))) ?_
  refine d_tk 13 rfl (by kernel_rfl) rfl rfl rfl rfl (hx12.sh (((hF4.trans hF5).trans hF6).trans hF7) [1, 2] (by decide) rfl) (fun _ _ _ _ _ => a0j rfl rfl rfl rfl (a0c (qq rfl))) ?_
  refine a1c 14 rfl (by kernel_rfl) ?_
  refine a0o sz24 rfl hx12 rfl rfl rfl rfl (i := 0) rfl rfl rfl rfl ?_
  intro wx12 hx13
  refine a0w (hx13.sh (((hF4.trans hF5).trans hF6).trans hF7) [1, 2] (by decide) rfl) ?_
  refine d_tk 15 rfl (by kernel_rfl) rfl rfl rfl rfl (hx13.sh (((hF4.trans hF5).trans hF6).trans hF7) [1, 2] (by decide) rfl) (fun _ _ _ _ _ => a0b rfl rfl rfl (a0c (qq rfl))) ?_
  refine a3v (by kernel_rfl) ?_
  refine a0d (a1d ?_)
  refine a1k (vl := [.agg #[.int .i64 v6.1.Sign, .slice as6 ns6 cs6], .int .i64 v6.2]) rfl ⟨a1q ag24 sz24 rfl hx13 rfl (i := 0) rfl, a1w rfl, trivial⟩ (by simp) ?_
  obtain rfl := Option.some.inj hm
  exact ⟨_, _, _, rfl, hx13.pick [] (by decide) rfl, as6, ns6, cs6, rfl, rfl, hs6⟩
 clear hm
 rcases a0i hb1 with ⟨hb3, hb1⟩ | ⟨hb3, hb1⟩
 ·refine a1e 9 rfl hb3 ?_
  refine a0r rfl (by decide) rfl (a0r rfl (by decide) rfl (a0r rfl (by decide) rfl (a0m rfl rfl rfl rfl (a0c ?_))))
  refine a0p (fun a ha => ?_)
  cases hb1
  exact ⟨_, Frz.refl _, hx4.pick [0, 1, 2] (by decide) rfl, ha.cut (l := [2, 3, 4, 13]) rfl⟩
 refine a1e 9 rfl hb3 ?_
 refine a0k ag24 sz24 rfl rfl hx4 rfl (i := 1) rfl rfl ?_
 obtain ⟨v7, hv6, hb1⟩ := bind_some hb1
 refine a0g ent60 rfl rfl rfl rfl hx4 (a2s _ _ _ hv6 hx4.sat (hs2.mono hF1)) ?_
 rintro _ Fx8 _ wx13 hF8 hx14 ⟨rfl, rfl⟩
 refine a2x rfl rfl rfl (a0l rfl rfl rfl rfl (a0c ?_))
 refine a0p (fun a ha => ?_)
 cases hb1
 exact ⟨_, hF8, hx14.pick [0, 1, 2] (by decide) rfl, ha.cut (l := [2, 3, 4, 13]) rfl⟩
theorem ent93 : Ent Tryz.prog 93 := fun _ _ => by kernel_rfl
def b0g (n : Nat) (ax1 : Big) (b1 : Big) : Option (Big × Big × Int) :=
 (a3a n ax1).bind fun v1 =>
 (bif !v1 then
  some true
 else
  (a3a n b1).bind fun v11 =>
  some (!v11)).bind fun v2 =>
 bif v2 then
  some ((⟨0, []⟩ : Big), (⟨0, []⟩ : Big), 1)
 else
  bif b1.Sign == 0 then
   some ((⟨0, []⟩ : Big), (⟨0, []⟩ : Big), 14)
  else
   (b3b n ax1.Digits b1.Digits).bind fun v3 =>
   (bif decide ((imul .i64 ax1.Sign b1.Sign) < 0) then
    some (decide (0 < (v3.2.length : Int)))
   else
    some false).bind fun v4 =>
   bif v4 then
    (b1j n v3.1 [1]).bind fun v5 =>
    (a1y n (-1) v5).bind fun v6 =>
    (b3c n b1.Digits v3.2).bind fun v7 =>
    (a1y n b1.Sign v7).bind fun v8 =>
    some (v6, v8, 0)
   else
    (a1y n (imul .i64 ax1.Sign b1.Sign) v3.1).bind fun v9 =>
    (a1y n ax1.Sign v3.2).bind fun v10 =>
    some (v9, v10, 0)
set_option maxHeartbeats 1000000 in
set_option maxRecDepth 1000000 in
theorem a7a (n : Nat) (ax1 : Big) (b1 : Big) (r : (Big × Big × Int)) (hm : b0g n ax1 b1 = some r) {w : World} {F : Frz} (hs : Sat F w) {as1 : Option Addr} {ns1 : Nat} {cs1 : Nat} {as2 : Option Addr} {ns2 : Nat} {cs2 : Nat} (hs1 : SlR (Rp.int .i64) F as1 ns1 cs1 ax1.Digits) (hs2 : SlR (Rp.int .i64) F as2 ns2 cs2 b1.Digits) :
  Calls Tryz.prog 62 #[.agg #[.int .i64 ax1.Sign, .slice as1 ns1 cs1], .agg #[.int .i64 b1.Sign, .slice as2 ns2 cs2]] w fun e w' => ∃ v F' O', e = .returned v ∧ HS F w [] F' O' w' ∧ (∃ (a0_1 : Option Addr) (n0_1 : Nat) (c0_1 : Nat) (a1_1 : Option Addr) (n1_1 : Nat) (c1_1 : Nat), v = .tuple #[.agg #[.int .i64 r.1.Sign, .slice a0_1 n0_1 c0_1], .agg #[.int .i64 r.2.1.Sign, .slice a1_1 n1_1 c1_1], .int .i64 r.2.2] ∧ O' = [] ∧ SlR (Rp.int .i64) F' a0_1 n0_1 c0_1 r.1.Digits ∧ SlR (Rp.int .i64) F' a1_1 n1_1 c1_1 r.2.1.Digits) := by
 unfold b0g at hm
 have h := HS.init hs
 refine a0x 67 Tryz.func62 rfl rfl rfl ?_
 refine a0f (a0a ?_)
 refine a2o rfl rfl rfl rfl h ?_
 intro b2 wx1 hx1
 refine a2o rfl rfl rfl rfl hx1 ?_
 intro b3 wx2 hx2
 refine a0y ze24 rfl rfl rfl hx2 ?_
 intro b4 wx3 hx3
 refine a0y ze24 rfl rfl rfl hx3 ?_
 intro b5 wx4 hx4
 refine a0b rfl rfl rfl (a0c (a0d (a0f (a1i (a0f (a0a ?_))))))
 refine a0k ag24 sz24 rfl rfl hx4 rfl (i := 3) rfl rfl ?_
 obtain ⟨v1, hv1, hm⟩ := bind_some hm
 refine a0g ent60 rfl rfl rfl rfl hx4 (a2s _ _ _ hv1 hx4.sat hs1) ?_
 rintro _ Fx1 _ wx5 hF1 hx5 ⟨rfl, rfl⟩
 refine a2x rfl rfl rfl (a0e rfl rfl rfl ?_)
 obtain ⟨v2, hb1, hm⟩ := bind_some hm
 refine a2k 4 (fun a w' => ∃ (Fx2 : Frz), Frz.le Fx1 Fx2 ∧ HS F w [] Fx2 [.box b5 24 [.int .i64 0, .slice none 0 0], .box b4 24 [.int .i64 0, .slice none 0 0], .box b3 24 [.int .i64 b1.Sign, .slice as2 ns2 cs2], .box b2 24 [.int .i64 ax1.Sign, .slice as1 ns1 cs1]] w' ∧ Has 67 a [(2, .pointer (some ⟨b2, 0, none⟩)), (3, .pointer (some ⟨b3, 0, none⟩)), (4, .pointer (some ⟨b4, 0, none⟩)), (5, .pointer (some ⟨b5, 0, none⟩)), (17, .bool v2)]) ?_ ?_
 ·rintro a wx6 ⟨Fx2, hF2, hx6, hax1⟩
  refine a1a hax1 ?_
  refine a0b rfl rfl rfl (a0c (a0d ?_))
  rcases a0i hm with ⟨hb2, hm⟩ | ⟨hb2, hm⟩
  ·refine a0u 9 rfl hb2 ?_
   refine a0z rfl (a0f (a0a ?_))
   refine a1r (v := .agg #[.int .i64 0, .slice none 0 0]) rfl rfl rfl (fun _ => by kernel_rfl) ?_
   refine a1r (v := .agg #[.int .i64 0, .slice none 0 0]) rfl rfl rfl (fun _ => by kernel_rfl) ?_
   refine a0o sz24 rfl hx6 rfl rfl rfl rfl (i := 1) rfl rfl rfl rfl ?_
   intro wx7 hx7
   refine a0o sz24 rfl hx7 rfl rfl rfl rfl (i := 0) rfl rfl rfl rfl ?_
   intro wx8 hx8
   refine a0b rfl rfl rfl (a0c (a0d (a1d (a1n (a0n ?_)))))
   refine a1k (vl := [.agg #[.int .i64 0, .slice none 0 0], .agg #[.int .i64 0, .slice none 0 0], .int .i64 1]) rfl ⟨a1q ag24 sz24 rfl hx8 rfl (i := 1) rfl, a1q ag24 sz24 rfl hx8 rfl (i := 0) rfl, a1w rfl, trivial⟩ (by simp) ?_
   obtain rfl := Option.some.inj hm
   exact ⟨_, _, _, rfl, hx8.pick [] (by decide) rfl, none, 0, 0, none, 0, 0, rfl, rfl, SlR.nil _ _, SlR.nil _ _⟩
  refine a0u 9 rfl hb2 ?_
  refine a0s rfl (a0f (a0a ?_))
  refine a0h fa24_0 rfl rfl rfl ?_
  refine a0t ag3 rfl rfl hx6 rfl (i := 2) rfl rfl ?_
  refine a0v rfl rfl rfl rfl rfl ?_
  refine a0b rfl rfl rfl (a0c (a0d ?_))
  rcases a0i hm with ⟨hb3, hm⟩ | ⟨hb3, hm⟩
  ·refine a0u 20 rfl hb3 ?_
   refine a0z rfl (a0f (a0a ?_))
   refine a1r (v := .agg #[.int .i64 0, .slice none 0 0]) rfl rfl rfl (fun _ => by kernel_rfl) ?_
   refine a1r (v := .agg #[.int .i64 0, .slice none 0 0]) rfl rfl rfl (fun _ => by kernel_rfl) ?_
   refine a0o sz24 rfl hx6 rfl rfl rfl rfl (i := 1) rfl rfl rfl rfl ?_
   intro wx9 hx9
   refine a0o sz24 rfl hx9 rfl rfl rfl rfl (i := 0) rfl rfl rfl rfl ?_
   intro wx10 hx10
   refine a0b rfl rfl rfl (a0c (a0d (a1d (a1n (a0n ?_)))))
   refine a1k (vl := [.agg #[.int .i64 0, .slice none 0 0], .agg #[.int .i64 0, .slice none 0 0], .int .i64 14]) rfl ⟨a1q ag24 sz24 rfl hx10 rfl (i := 1) rfl, a1q ag24 sz24 rfl hx10 rfl (i := 0) rfl, a1w rfl, trivial⟩ (by simp) ?_
   obtain rfl := Option.some.inj hm
   exact ⟨_, _, _, rfl, hx10.pick [] (by decide) rfl, none, 0, 0, none, 0, 0, rfl, rfl, SlR.nil _ _, SlR.nil _ _⟩
  refine a0u 20 rfl hb3 ?_
  refine a0s rfl (a1b (a2a (a0d (a0f (a0a ?_)))))
  refine a0h fa24_1 rfl rfl rfl ?_
  refine a0t ag22 rfl rfl hx6 rfl (i := 3) rfl rfl ?_
  refine a0h fa24_1 rfl rfl rfl ?_
  refine a0t ag22 rfl rfl hx6 rfl (i := 2) rfl rfl ?_
  obtain ⟨v3, hv2, hm⟩ := bind_some hm
  refine a0g ent93 rfl rfl rfl rfl hx6 (b9d _ _ _ _ hv2 hx6.sat ((hs1.mono hF1).mono hF2) ((hs2.mono hF1).mono hF2)) ?_
  rintro _ Fx3 _ wx11 hF3 hx11 ⟨as3, ns3, cs3, as4, ns4, cs4, xss4, rfl, rfl, hs3, hs4⟩
  refine a0e rfl rfl rfl (a0j rfl rfl rfl rfl (a0j rfl rfl rfl rfl (a0b rfl rfl rfl (a0b rfl rfl rfl (a0c (a0d (a0f (a0f (a0a ?_)))))))))
  refine a0h fa24_0 rfl rfl rfl ?_
  refine a0t ag3 rfl rfl hx11 rfl (i := 4) rfl rfl ?_
  refine a0h fa24_0 rfl rfl rfl ?_
  refine a0t ag3 rfl rfl hx11 rfl (i := 3) rfl rfl ?_
  refine a0v rfl rfl rfl rfl rfl ?_
  refine a0v rfl rfl rfl rfl rfl ?_
  refine a0e rfl rfl rfl ?_
  obtain ⟨v4, hb4, hm⟩ := bind_some hm
  refine a2k 4 (fun a w' => wx11 = w' ∧ Has 67 a [(2, .pointer (some ⟨b2, 0, none⟩)), (3, .pointer (some ⟨b3, 0, none⟩)), (4, .pointer (some ⟨b4, 0, none⟩)), (5, .pointer (some ⟨b5, 0, none⟩)), (7, .slice as3 ns3 cs3), (8, .slice as4 ns4 cs4), (44, .bool v4)]) ?_ ?_
  ·rintro a wx12 ⟨rfl, hax2⟩
   refine a1a hax2 ?_
   refine a0c (a0d ?_)
   rcases a0i hm with ⟨hb5, hm⟩ | ⟨hb5, hm⟩
   ·refine a0u 44 rfl hb5 ?_
    refine a0z rfl (a0f ?_)
    refine a2m (SH Fx3 [.box b3 24 [.int .i64 b1.Sign, .slice as2 ns2 cs2], .box b2 24 [.int .i64 ax1.Sign, .slice as1 ns1 cs1]]) 14 rfl (by kernel_rfl) hx11 ?_
    intro wx13 hx12
    refine d_tk 0 rfl (by kernel_rfl) rfl rfl rfl rfl (hx12.sh (Frz.refl _) [3, 4] (by decide) rfl) (fun _ _ _ _ _ => a0e rfl rfl rfl (a0c (qq rfl))) ?_
    refine d_tk 4 rfl (by kernel_rfl) rfl rfl rfl rfl (hx12.sh (Frz.refl _) [3, 4] (by decide) rfl) (fun _ _ _ _ _ => a0h fa24_0 rfl rfl rfl (a0c (qq rfl))) ?_
    refine d_tk 5 rfl (by kernel_rfl) rfl rfl rfl rfl (hx12.sh (Frz.refl _) [3, 4] (by decide) rfl) (fun _ _ _ _ hq => a0t ag3 rfl rfl hq rfl (i := 0) rfl rfl (a0c (qq rfl))) ?_
    refine d_tk 6 rfl (by kernel_rfl) rfl rfl rfl rfl (hx12.sh (Frz.refl _) [3, 4] (by decide) rfl) (fun _ _ _ _ _ => a0h fa24_1 rfl rfl rfl (a0c (qq rfl))) ?_
    refine d_tk 7 rfl (by kernel_rfl) rfl rfl rfl rfl (hx12.sh (Frz.refl _) [3, 4] (by decide) rfl) (fun _ _ _ _ hq => a0t ag22 rfl rfl hq rfl (i := 0) rfl rfl (a0c (qq rfl))) ?_
    refine d_tk 8 rfl (by kernel_rfl) rfl rfl rfl rfl (hx12.sh (Frz.refl _) [3, 4] (by decide) rfl) (fun _ _ _ _ _ => a0e rfl rfl rfl (a0c (qq rfl))) ?_
    refine a1c 1 rfl (by kernel_rfl) ?_
    refine a1x (e := 3) (cs := [.int .i64 1]) (q := 1) rfl rfl hx12 rfl (fun _ => by kernel_rfl) rfl rfl ?_
    intro b6 wx14 hx13
    refine a0w (hx13.sh (Frz.refl _) [4, 5] (by decide) rfl) ?_
    refine a1c 2 rfl (by kernel_rfl) ?_
    obtain ⟨Fx4, hF4, hx14, hsx1⟩ := a1g hx13 (i := 0) rfl ((show RowN (Rp.int .i64) Fx3 1 [.int .i64 1] [1] from ⟨rfl, ⟨_, _, rfl, rfl, (rfl : RowR (Rp.int .i64) _ [] [])⟩⟩))
    obtain ⟨v5, hv3, hm⟩ := bind_some hm
    refine a0g ent79 rfl rfl rfl rfl hx14 (b5e _ _ _ _ hv3 hx14.sat (hs3.mono hF4) hsx1) ?_
    rintro _ Fx5 _ wx15 hF5 hx15 ⟨as5, ns5, cs5, xss5, rfl, rfl, hs5⟩
    refine a0w (hx15.sh (hF4.trans hF5) [4, 5] (by decide) rfl) ?_
    refine a1c 3 rfl (by kernel_rfl) ?_
    obtain ⟨Fx6, hF6, hx16, hsx2⟩ := a1g hx15 (i := 0) rfl hs5
    obtain ⟨v6, hv4, hm⟩ := bind_some hm
    refine a0g ent76 rfl rfl rfl rfl hx16 (a3d _ _ _ _ hv4 hx16.sat hsx2) ?_
    rintro _ Fx7 _ wx16 hF7 hx17 ⟨as6, ns6, cs6, rfl, rfl, hs6⟩
    refine a0w (hx17.sh (((hF4.trans hF5).trans hF6).trans hF7) [3, 4] (by decide) rfl) ?_
    refine a1c 9 rfl (by kernel_rfl) ?_
    obtain ⟨Fx8, hF8, hx18, hsx3⟩ := a1g hx17 (i := 0) rfl ((((hs4.mono hF4).mono hF5).mono hF6).mono hF7)
    have hG1 := ((((((hF1.trans hF2).trans hF3).trans hF4).trans hF5).trans hF6).trans hF7).trans hF8
    obtain ⟨v7, hv5, hm⟩ := bind_some hm
    refine a0g ent81 rfl rfl rfl rfl hx18 (b5n _ _ _ _ hv5 hx18.sat (hs2.mono hG1) hsx3) ?_
    rintro _ Fx9 _ wx17 hF9 hx19 ⟨as7, ns7, cs7, xss7, rfl, rfl, hs7⟩
    refine a0w (hx19.sh (((((hF4.trans hF5).trans hF6).trans hF7).trans hF8).trans hF9) [3, 4] (by decide) rfl) ?_
    refine a1c 10 rfl (by kernel_rfl) ?_
    obtain ⟨Fx10, hF10, hx20, hsx4⟩ := a1g hx19 (i := 0) rfl hs7
    obtain ⟨v8, hv6, hm⟩ := bind_some hm
    refine a0g ent76 rfl rfl rfl rfl hx20 (a3d _ _ _ _ hv6 hx20.sat hsx4) ?_
    rintro _ Fx11 _ wx18 hF11 hx21 ⟨as8, ns8, cs8, rfl, rfl, hs8⟩
    refine a0w (hx21.sh (((((((hF4.trans hF5).trans hF6).trans hF7).trans hF8).trans hF9).trans hF10).trans hF11) [2, 3] (by decide) rfl) ?_
    refine a1c 11 rfl (by kernel_rfl) ?_
    refine a0o sz24 rfl hx21 rfl rfl rfl rfl (i := 1) rfl rfl rfl rfl ?_
    intro wx19 hx22
    refine a0w (hx22.sh (((((((hF4.trans hF5).trans hF6).trans hF7).trans hF8).trans hF9).trans hF10).trans hF11) [2, 3] (by decide) rfl) ?_
    refine a1c 12 rfl (by kernel_rfl) ?_
    refine a0o sz24 rfl hx22 rfl rfl rfl rfl (i := 0) rfl rfl rfl rfl ?_
    intro wx20 hx23
    refine a0w (hx23.sh (((((((hF4.trans hF5).trans hF6).trans hF7).trans hF8).trans hF9).trans hF10).trans hF11) [2, 3] (by decide) rfl) ?_
    refine d_tk 13 rfl (by kernel_rfl) rfl rfl rfl rfl (hx23.sh (((((((hF4.trans hF5).trans hF6).trans hF7).trans hF8).trans hF9).trans hF10).trans hF11) [2, 3] (by decide) rfl) (fun _ _ _ _ _ => a0b rfl rfl rfl (a0c (qq rfl))) ?_
    refine a3v (by kernel_rfl) ?_
    refine a0d (a1d (a0n ?_))
    refine a1k (vl := [.agg #[.int .i64 v6.Sign, .slice as6 ns6 cs6], .agg #[.int .i64 v8.Sign, .slice as8 ns8 cs8], .int .i64 0]) rfl ⟨a1q ag24 sz24 rfl hx23 rfl (i := 1) rfl, a1q ag24 sz24 rfl hx23 rfl (i := 0) rfl, a1w rfl, trivial⟩ (by simp) ?_
    obtain rfl := Option.some.inj hm
    exact ⟨_, _, _, rfl, hx23.pick [] (by decide) rfl, as6, ns6, cs6, as8, ns8, cs8, rfl, rfl, ((((hs6.mono hF8).mono hF9).mono hF10).mono hF11), hs8⟩
   refine a0u 44 rfl hb5 ?_
   refine a0s rfl (a1b (a0d (a0f ?_)))
   refine a2m (SH Fx3 [.box b3 24 [.int .i64 b1.Sign, .slice as2 ns2 cs2], .box b2 24 [.int .i64 ax1.Sign, .slice as1 ns1 cs1]]) 14 rfl (by kernel_rfl) hx11 ?_
   intro wx21 hx24
   refine d_tk 0 rfl (by kernel_rfl) rfl rfl rfl rfl (hx24.sh (Frz.refl _) [3, 4] (by decide) rfl) (fun _ _ _ _ _ => a0h fa24_0 rfl rfl rfl (a0c (qq rfl))) ?_
   refine d_tk 1 rfl (by kernel_rfl) rfl rfl rfl rfl (hx24.sh (Frz.refl _) [3, 4] (by decide) rfl) (fun _ _ _ _ hq => a0t ag3 rfl rfl hq rfl (i := 1) rfl rfl (a0c (qq rfl))) ?_
   refine d_tk 2 rfl (by kernel_rfl) rfl rfl rfl rfl (hx24.sh (Frz.refl _) [3, 4] (by decide) rfl) (fun _ _ _ _ _ => a0h fa24_0 rfl rfl rfl (a0c (qq rfl))) ?_
   refine d_tk 3 rfl (by kernel_rfl) rfl rfl rfl rfl (hx24.sh (Frz.refl _) [3, 4] (by decide) rfl) (fun _ _ _ _ hq => a0t ag3 rfl rfl hq rfl (i := 0) rfl rfl (a0c (qq rfl))) ?_
   refine d_tk 4 rfl (by kernel_rfl) rfl rfl rfl rfl (hx24.sh (Frz.refl _) [3, 4] (by decide) rfl) (fun _ _ _ _ _ => a0v rfl rfl rfl rfl rfl (a0c (qq rfl))) ?_
   refine d_tk 5 rfl (by kernel_rfl) rfl rfl rfl rfl (hx24.sh (Frz.refl _) [3, 4] (by decide) rfl) (fun _ _ _ _ _ => a0e rfl rfl rfl (a0c (qq rfl))) ?_
   refine d_tk 7 rfl (by kernel_rfl) rfl rfl rfl rfl (hx24.sh (Frz.refl _) [3, 4] (by decide) rfl) (fun _ _ _ _ _ => a0h fa24_0 rfl rfl rfl (a0c (qq rfl))) ?_
   refine d_tk 8 rfl (by kernel_rfl) rfl rfl rfl rfl (hx24.sh (Frz.refl _) [3, 4] (by decide) rfl) (fun _ _ _ _ hq => a0t ag3 rfl rfl hq rfl (i := 1) rfl rfl (a0c (qq rfl))) ?_
   refine d_tk 9 rfl (by kernel_rfl) rfl rfl rfl rfl (hx24.sh (Frz.refl _) [3, 4] (by decide) rfl) (fun _ _ _ _ _ => a0e rfl rfl rfl (a0c (qq rfl))) ?_
   refine a1c 6 rfl (by kernel_rfl) ?_
   obtain ⟨v9, hv7, hm⟩ := bind_some hm
   refine a0g ent76 rfl rfl rfl rfl hx24 (a3d _ _ _ _ hv7 hx24.sat hs3) ?_
   rintro _ Fx12 _ wx22 hF12 hx25 ⟨as9, ns9, cs9, rfl, rfl, hs9⟩
   refine a0w (hx25.sh hF12 [3, 4] (by decide) rfl) ?_
   refine a1c 10 rfl (by kernel_rfl) ?_
   obtain ⟨Fx13, hF13, hx26, hsx5⟩ := a1g hx25 (i := 0) rfl (hs4.mono hF12)
   obtain ⟨v10, hv8, hm⟩ := bind_some hm
   refine a0g ent76 rfl rfl rfl rfl hx26 (a3d _ _ _ _ hv8 hx26.sat hsx5) ?_
   rintro _ Fx14 _ wx23 hF14 hx27 ⟨as10, ns10, cs10, rfl, rfl, hs10⟩
   refine a0w (hx27.sh ((hF12.trans hF13).trans hF14) [2, 3] (by decide) rfl) ?_
   refine a1c 11 rfl (by kernel_rfl) ?_
   refine a0o sz24 rfl hx27 rfl rfl rfl rfl (i := 1) rfl rfl rfl rfl ?_
   intro wx24 hx28
   refine a0w (hx28.sh ((hF12.trans hF13).trans hF14) [2, 3] (by decide) rfl) ?_
   refine a1c 12 rfl (by kernel_rfl) ?_
   refine a0o sz24 rfl hx28 rfl rfl rfl rfl (i := 0) rfl rfl rfl rfl ?_
   intro wx25 hx29
   refine a0w (hx29.sh ((hF12.trans hF13).trans hF14) [2, 3] (by decide) rfl) ?_
   refine d_tk 13 rfl (by kernel_rfl) rfl rfl rfl rfl (hx29.sh ((hF12.trans hF13).trans hF14) [2, 3] (by decide) rfl) (fun _ _ _ _ _ => a0b rfl rfl rfl (a0c (qq rfl))) ?_
   refine a3v (by kernel_rfl) ?_
   refine a0d (a1d ?_)
   refine a1k (vl := [.agg #[.int .i64 v9.Sign, .slice as9 ns9 cs9], .agg #[.int .i64 v10.Sign, .slice as10 ns10 cs10], .int .i64 0]) rfl ⟨a1q ag24 sz24 rfl hx29 rfl (i := 1) rfl, a1q ag24 sz24 rfl hx29 rfl (i := 0) rfl, a1w rfl, trivial⟩ (by simp) ?_
   obtain rfl := Option.some.inj hm
   exact ⟨_, _, _, rfl, hx29.pick [] (by decide) rfl, as9, ns9, cs9, as10, ns10, cs10, rfl, rfl, ((hs9.mono hF13).mono hF14), hs10⟩
  clear hm
  rcases a0i hb4 with ⟨hb6, hb4⟩ | ⟨hb6, hb4⟩
  ·refine a1e 40 rfl hb6 ?_
   refine a0e rfl rfl rfl ?_
   refine a1z hs4.len u22 rfl rfl rfl ?_
   refine a0v rfl rfl rfl rfl rfl ?_
   refine a0m rfl rfl rfl rfl (a0c ?_)
   refine a0p (fun a ha => ?_)
   cases hb4
   exact ⟨rfl, ha.cut (l := [2, 3, 4, 5, 7, 8, 44]) rfl⟩
  refine a1e 40 rfl hb6 ?_
  refine a0r rfl (by decide) rfl (a0r rfl (by decide) rfl (a0r rfl (by decide) rfl (a0l rfl rfl rfl rfl (a0c ?_))))
  refine a0p (fun a ha => ?_)
  cases hb4
  exact ⟨rfl, ha.cut (l := [2, 3, 4, 5, 7, 8, 44]) rfl⟩
 clear hm
 rcases a0i hb1 with ⟨hb7, hb1⟩ | ⟨hb7, hb1⟩
 ·refine a1e 13 rfl hb7 ?_
  refine a0r rfl (by decide) rfl (a0r rfl (by decide) rfl (a0r rfl (by decide) rfl (a0m rfl rfl rfl rfl (a0c ?_))))
  refine a0p (fun a ha => ?_)
  cases hb1
  exact ⟨_, Frz.refl _, hx5.pick [0, 1, 2, 3] (by decide) rfl, ha.cut (l := [2, 3, 4, 5, 17]) rfl⟩
 refine a1e 13 rfl hb7 ?_
 refine a0k ag24 sz24 rfl rfl hx5 rfl (i := 2) rfl rfl ?_
 obtain ⟨v11, hv9, hb1⟩ := bind_some hb1
 refine a0g ent60 rfl rfl rfl rfl hx5 (a2s _ _ _ hv9 hx5.sat (hs2.mono hF1)) ?_
 rintro _ Fx15 _ wx26 hF15 hx30 ⟨rfl, rfl⟩
 refine a2x rfl rfl rfl (a0l rfl rfl rfl rfl (a0c ?_))
 refine a0p (fun a ha => ?_)
 cases hb1
 exact ⟨_, hF15, hx30.pick [0, 1, 2, 3] (by decide) rfl, ha.cut (l := [2, 3, 4, 5, 17]) rfl⟩
def a7p (n : Nat) (kont1 : (List Int) → Option (Big × Int)) : Nat → (List Int) → (List Int) → Option (Big × Int)
 | 0, _, _ => none
 | mx1 + 1, x1, y1 =>
  bif decide (0 < (y1.length : Int)) then
   (b3b n x1 y1).bind fun v8 =>
   a7p n kont1 mx1 y1 v8.2
  else
   kont1 x1
theorem b3f (n : Nat) (kont1 : (List Int) → Option (Big × Int)) (mx1 : Nat) (x1 : (List Int)) (y1 : (List Int)) : a7p n kont1 (mx1 + 1) x1 y1 =
  bif decide (0 < (y1.length : Int)) then
   (b3b n x1 y1).bind fun v8 =>
   a7p n kont1 mx1 y1 v8.2
  else
   kont1 x1 := rfl
def b3h (n : Nat) (ax1 : Big) (b1 : Big) : Option (Big × Int) :=
 (a3a n ax1).bind fun v1 =>
 (bif !v1 then
  some true
 else
  (a3a n b1).bind fun v9 =>
  some (!v9)).bind fun v2 =>
 bif v2 then
  (a4p n false (⟨0, []⟩ : Big)).bind fun v3 =>
  some (v3.1, v3.2)
 else
  (a1v n ax1.Digits).bind fun v4 =>
  a7p n (fun (x2 : (List Int)) =>
   (a1v n x2).bind fun v5 =>
   (a1y n 1 v5).bind fun v6 =>
   (a4p n true v6).bind fun v7 =>
   some (v7.1, v7.2)) n v4 b1.Digits
set_option maxHeartbeats 1000000 in
set_option maxRecDepth 1000000 in
theorem b1p (n : Nat) (ax1 : Big) (b1 : Big) (r : (Big × Int)) (hm : b3h n ax1 b1 = some r) {w : World} {F : Frz} (hs : Sat F w) {as1 : Option Addr} {ns1 : Nat} {cs1 : Nat} {as2 : Option Addr} {ns2 : Nat} {cs2 : Nat} (hs1 : SlR (Rp.int .i64) F as1 ns1 cs1 ax1.Digits) (hs2 : SlR (Rp.int .i64) F as2 ns2 cs2 b1.Digits) :
  Calls Tryz.prog 61 #[.agg #[.int .i64 ax1.Sign, .slice as1 ns1 cs1], .agg #[.int .i64 b1.Sign, .slice as2 ns2 cs2]] w fun e w' => ∃ v F' O', e = .returned v ∧ HS F w [] F' O' w' ∧ (∃ (a0_1 : Option Addr) (n0_1 : Nat) (c0_1 : Nat), v = .tuple #[.agg #[.int .i64 r.1.Sign, .slice a0_1 n0_1 c0_1], .int .i64 r.2] ∧ O' = [] ∧ SlR (Rp.int .i64) F' a0_1 n0_1 c0_1 r.1.Digits) := by
 unfold b3h at hm
 have h := HS.init hs
 refine a0x 44 Tryz.func61 rfl rfl rfl ?_
 refine a0f (a0a ?_)
 refine a2o rfl rfl rfl rfl h ?_
 intro b2 wx1 hx1
 refine a2o rfl rfl rfl rfl hx1 ?_
 intro b3 wx2 hx2
 refine a0y ze24 rfl rfl rfl hx2 ?_
 intro b4 wx3 hx3
 refine a0b rfl rfl rfl (a0c (a0d (a0f (a0f (a0a ?_)))))
 refine a0k ag24 sz24 rfl rfl hx3 rfl (i := 2) rfl rfl ?_
 obtain ⟨v1, hv1, hm⟩ := bind_some hm
 refine a0g ent60 rfl rfl rfl rfl hx3 (a2s _ _ _ hv1 hx3.sat hs1) ?_
 rintro _ Fx1 _ wx4 hF1 hx4 ⟨rfl, rfl⟩
 refine a2x rfl rfl rfl (a0e rfl rfl rfl ?_)
 obtain ⟨v2, hb1, hm⟩ := bind_some hm
 refine a2k 4 (fun a w' => ∃ (Fx2 : Frz), Frz.le Fx1 Fx2 ∧ HS F w [] Fx2 [.box b4 24 [.int .i64 0, .slice none 0 0], .box b3 24 [.int .i64 b1.Sign, .slice as2 ns2 cs2], .box b2 24 [.int .i64 ax1.Sign, .slice as1 ns1 cs1]] w' ∧ Has 44 a [(2, .pointer (some ⟨b2, 0, none⟩)), (3, .pointer (some ⟨b3, 0, none⟩)), (4, .pointer (some ⟨b4, 0, none⟩)), (17, .bool v2)]) ?_ ?_
 ·rintro a wx5 ⟨Fx2, hF2, hx5, hax1⟩
  refine a1a hax1 ?_
  refine a0c (a0d ?_)
  rcases a0i hm with ⟨hb2, hm⟩ | ⟨hb2, hm⟩
  ·refine a0u 17 rfl hb2 ?_
   refine a0z rfl (a0f (a0a ?_))
   refine a1r (v := .agg #[.int .i64 0, .slice none 0 0]) rfl rfl rfl (fun _ => by kernel_rfl) ?_
   obtain ⟨v3, hv2, hm⟩ := bind_some hm
   refine a0g ent75 rfl rfl rfl rfl hx5 (a5a _ _ _ _ hv2 hx5.sat (SlR.nil _ _)) ?_
   rintro _ Fx3 _ wx6 hF3 hx6 ⟨as3, ns3, cs3, rfl, rfl, hs3⟩
   refine a0j rfl rfl rfl rfl (a0j rfl rfl rfl rfl ?_)
   refine a0o sz24 rfl hx6 rfl rfl rfl rfl (i := 0) rfl rfl rfl rfl ?_
   intro wx7 hx7
   refine a0b rfl rfl rfl (a0c (a0d (a1d (a0n ?_))))
   refine a1k (vl := [.agg #[.int .i64 v3.1.Sign, .slice as3 ns3 cs3], .int .i64 v3.2]) rfl ⟨a1q ag24 sz24 rfl hx7 rfl (i := 0) rfl, a1w rfl, trivial⟩ (by simp) ?_
   obtain rfl := Option.some.inj hm
   exact ⟨_, _, _, rfl, hx7.pick [] (by decide) rfl, as3, ns3, cs3, rfl, rfl, hs3⟩
  refine a0u 17 rfl hb2 ?_
  refine a0s rfl (a1b (a0d (a0f ?_)))
  refine a2m (SH Fx2 [.box b4 24 [.int .i64 0, .slice none 0 0], .box b3 24 [.int .i64 b1.Sign, .slice as2 ns2 cs2], .box b2 24 [.int .i64 ax1.Sign, .slice as1 ns1 cs1]]) 7 rfl (by kernel_rfl) hx5 ?_
  intro wx8 hx8
  refine d_tk 0 rfl (by kernel_rfl) rfl rfl rfl rfl (hx8.sh (Frz.refl _) [0, 1, 2] (by decide) rfl) (fun _ _ _ _ _ => a0h fa24_1 rfl rfl rfl (a0c (qq rfl))) ?_
  refine d_tk 1 rfl (by kernel_rfl) rfl rfl rfl rfl (hx8.sh (Frz.refl _) [0, 1, 2] (by decide) rfl) (fun _ _ _ _ hq => a0t ag22 rfl rfl hq rfl (i := 2) rfl rfl (a0c (qq rfl))) ?_
  refine d_tk 3 rfl (by kernel_rfl) rfl rfl rfl rfl (hx8.sh (Frz.refl _) [0, 1, 2] (by decide) rfl) (fun _ _ _ _ _ => a0h fa24_1 rfl rfl rfl (a0c (qq rfl))) ?_
  refine d_tk 4 rfl (by kernel_rfl) rfl rfl rfl rfl (hx8.sh (Frz.refl _) [0, 1, 2] (by decide) rfl) (fun _ _ _ _ hq => a0t ag22 rfl rfl hq rfl (i := 1) rfl rfl (a0c (qq rfl))) ?_
  refine a1c 2 rfl (by kernel_rfl) ?_
  obtain ⟨v4, hv3, hm⟩ := bind_some hm
  refine a0g ent82 rfl rfl rfl rfl hx8 (a3y _ _ _ hv3 hx8.sat ((hs1.mono hF1).mono hF2)) ?_
  rintro _ Fx4 _ wx9 hF4 hx9 ⟨as4, ns4, cs4, xss4, rfl, rfl, hs4⟩
  refine a0w (hx9.sh hF4 [1, 2, 3] (by decide) rfl) ?_
  refine d_tk 5 rfl (by kernel_rfl) rfl rfl rfl rfl (hx9.sh hF4 [1, 2, 3] (by decide) rfl) (fun _ _ _ _ _ => a0b rfl rfl rfl (a0c (qq rfl))) ?_
  refine d_tk 6 rfl (by kernel_rfl) rfl rfl rfl rfl (hx9.sh hF4 [1, 2, 3] (by decide) rfl) (fun _ _ _ _ _ => a0b rfl rfl rfl (a0c (qq rfl))) ?_
  refine a3v (by kernel_rfl) ?_
  refine a0d (a0f (a1i ?_))
  obtain ⟨Fx5, hF5, hx10, hsx1⟩ := a1g hx9 (i := 0) rfl hs4
  intro a hax4
  obtain ⟨kont1, hkont1⟩ : ∃ kont1 : (List Int) → Option (Big × Int), kont1 = (fun (x2 : (List Int)) =>
      (a1v n x2).bind fun v5 =>
      (a1y n 1 v5).bind fun v6 =>
      (a4p n true v6).bind fun v7 =>
      some (v7.1, v7.2)) := ⟨_, rfl⟩
  replace hm : (fun m (s : (List Int) × (List Int)) => a7p n kont1 m s.1 s.2) n (v4, b1.Digits) = some r := by rw [hkont1]; exact hm
  refine a5u (id := 0) (fun m (s : (List Int) × (List Int)) => a7p n kont1 m s.1 s.2) (fun (y : (List Int)) => kont1 y) r (fun (s : (List Int) × (List Int)) a w' => ∃ (Fx6 : Frz) (as5 : Option Addr) (ns5 : Nat) (cs5 : Nat) (as6 : Option Addr) (ns6 : Nat) (cs6 : Nat), Frz.le Fx5 Fx6 ∧ HS F w [] Fx6 [.box b4 24 [.int .i64 0, .slice none 0 0]] w' ∧ (SlR (Rp.int .i64) Fx6 as5 ns5 cs5 s.1) ∧ (SlR (Rp.int .i64) Fx6 as6 ns6 cs6 s.2) ∧ Has 44 a [(4, .pointer (some ⟨b4, 0, none⟩)), (6, .slice as5 ns5 cs5), (7, .slice as6 ns6 cs6)]) (fun (y : (List Int)) a w' => ∃ (Fx7 : Frz) (as7 : Option Addr) (ns7 : Nat) (cs7 : Nat), Frz.le Fx5 Fx7 ∧ HS F w [] Fx7 [.box b4 24 [.int .i64 0, .slice none 0 0]] w' ∧ (SlR (Rp.int .i64) Fx7 as7 ns7 cs7 y) ∧ Has 44 a [(4, .pointer (some ⟨b4, 0, none⟩)), (6, .slice as7 ns7 cs7)]) (fun _ => rfl) ?_ ?_ hm ⟨_, as4, ns4, cs4, as2, ns2, cs2, Frz.refl _, hx10.pick [0] (by decide) rfl, hsx1, ((((hs2.mono hF1).mono hF2).mono hF4).mono hF5), hax4.cut (l := [4, 6, 7]) rfl⟩
  ·clear hm; rintro x2 a wx10 hm ⟨Fx7, as7, ns7, cs7, hF7, hx12, hs7, hax2⟩
   rw [hkont1] at hm
   replace hm := hm
   refine a2d (e := .exit 0) hax2 ?_
   refine a1j (a0d (a0f (a0a (a0e rfl rfl rfl ?_))))
   obtain ⟨v5, hv4, hm⟩ := bind_some hm
   refine a0g ent82 rfl rfl rfl rfl hx12 (a3y _ _ _ hv4 hx12.sat hs7) ?_
   rintro _ Fx8 _ wx11 hF8 hx13 ⟨as8, ns8, cs8, xss8, rfl, rfl, hs8⟩
   obtain ⟨Fx9, hF9, hx14, hsx2⟩ := a1g hx13 (i := 0) rfl hs8
   obtain ⟨v6, hv5, hm⟩ := bind_some hm
   refine a0g ent76 rfl rfl rfl rfl hx14 (a3d _ _ _ _ hv5 hx14.sat hsx2) ?_
   rintro _ Fx10 _ wx12 hF10 hx15 ⟨as9, ns9, cs9, rfl, rfl, hs9⟩
   obtain ⟨v7, hv6, hm⟩ := bind_some hm
   refine a0g ent75 rfl rfl rfl rfl hx15 (a5a _ _ _ _ hv6 hx15.sat hs9) ?_
   rintro _ Fx11 _ wx13 hF11 hx16 ⟨as10, ns10, cs10, rfl, rfl, hs10⟩
   refine a0j rfl rfl rfl rfl (a0j rfl rfl rfl rfl ?_)
   refine a0o sz24 rfl hx16 rfl rfl rfl rfl (i := 0) rfl rfl rfl rfl ?_
   intro wx14 hx17
   refine a0b rfl rfl rfl (a0c (a0d (a1d ?_)))
   refine a1k (vl := [.agg #[.int .i64 v7.1.Sign, .slice as10 ns10 cs10], .int .i64 v7.2]) rfl ⟨a1q ag24 sz24 rfl hx17 rfl (i := 0) rfl, a1w rfl, trivial⟩ (by simp) ?_
   obtain rfl := Option.some.inj hm
   exact ⟨_, _, _, rfl, hx17.pick [] (by decide) rfl, as10, ns10, cs10, rfl, rfl, hs10⟩
  clear hm hkont1; intro hk1 mx1 K ihx1
  rintro ⟨x1, y1⟩ a wx15 hm ⟨Fx6, as5, ns5, cs5, as6, ns6, cs6, hF6, hx11, hs5, hs6, hax3⟩
  simp only [b3f] at hm
  refine a1l hax3 ?_
  refine a0f (a0f (a0a (a0e rfl rfl rfl ?_)))
  refine a1z hs6.len u22 rfl rfl rfl ?_
  refine a0v rfl rfl rfl rfl rfl ?_
  refine a0c (a0d ?_)
  rcases a0i hm with ⟨hb3, hm⟩ | ⟨hb3, hm⟩
  ·refine a0u 29 rfl hb3 ?_
   refine a0z rfl (a1b (a0d (a1i (a0f (a0a (a0e rfl rfl rfl (a0e rfl rfl rfl ?_)))))))
   obtain ⟨v8, hv7, hm⟩ := bind_some hm
   refine a0g ent93 rfl rfl rfl rfl hx11 (b9d _ _ _ _ hv7 hx11.sat hs5 hs6) ?_
   rintro _ Fx12 _ wx16 hF12 hx18 ⟨as11, ns11, cs11, as12, ns12, cs12, xss12, rfl, rfl, hs11, hs12⟩
   refine a0e rfl rfl rfl (a0j rfl rfl rfl rfl (a0j rfl rfl rfl rfl (a0b rfl rfl rfl (a0b rfl rfl rfl (a0c (a0d (a0a (a0e rfl rfl rfl (a0e rfl rfl rfl (a0b rfl rfl rfl (a0b rfl rfl rfl (a0c (a2a ?_)))))))))))))
   obtain ⟨Fx13, hF13, hx19, hsx3⟩ := a1g hx18 (i := 0) rfl hs12
   refine a0p (fun a ha => ihx1 (y1, v8.2) a _ hm ?_)
   exact ⟨_, as6, ns6, cs6, as12, ns12, cs12, ((hF6.trans hF12).trans hF13), hx19.pick [0] (by decide) rfl, ((hs6.mono hF12).mono hF13), hsx3, ha.cut (l := [4, 6, 7]) rfl⟩
  refine a0u 29 rfl hb3 ?_
  refine a0s rfl (a3l (a0q (a0q ?_)))
  refine fun a ha => hk1 x1 a _ hm ?_
  exact ⟨_, as5, ns5, cs5, hF6, hx11.pick [0] (by decide) rfl, hs5, ha.cut (l := [4, 6]) rfl⟩
 clear hm
 rcases a0i hb1 with ⟨hb4, hb1⟩ | ⟨hb4, hb1⟩
 ·refine a1e 13 rfl hb4 ?_
  refine a0r rfl (by decide) rfl (a0r rfl (by decide) rfl (a0r rfl (by decide) rfl (a0m rfl rfl rfl rfl (a0c ?_))))
  refine a0p (fun a ha => ?_)
  cases hb1
  exact ⟨_, Frz.refl _, hx4.pick [0, 1, 2] (by decide) rfl, ha.cut (l := [2, 3, 4, 17]) rfl⟩
 refine a1e 13 rfl hb4 ?_
 refine a0k ag24 sz24 rfl rfl hx4 rfl (i := 1) rfl rfl ?_
 obtain ⟨v9, hv8, hb1⟩ := bind_some hb1
 refine a0g ent60 rfl rfl rfl rfl hx4 (a2s _ _ _ hv8 hx4.sat (hs2.mono hF1)) ?_
 rintro _ Fx14 _ wx17 hF14 hx20 ⟨rfl, rfl⟩
 refine a2x rfl rfl rfl (a0l rfl rfl rfl rfl (a0c ?_))
 refine a0p (fun a ha => ?_)
 cases hb1
 exact ⟨_, hF14, hx20.pick [0, 1, 2] (by decide) rfl, ha.cut (l := [2, 3, 4, 17]) rfl⟩
theorem u3 : Tryz.prog.underlying 3 = some (.int .i64) := by kernel_rfl
theorem u67 : Tryz.prog.underlying 67 = some (.int .u64) := by kernel_rfl
def a8h (n : Nat) (kont1 : (List Int) → Option Big) : Nat → Int → (List Int) → Option Big
 | 0, _, _ => none
 | mx1 + 1, u2, l1 =>
  bif decide (0 < u2) then
   (app 8 l1 [IntKind.i64.wrap (iand .u64 u2 1048575)]).bind fun l3 =>
   (shr .u64 u2 20).bind fun q1 =>
   a8h n kont1 mx1 q1 l3
  else
   kont1 l1
theorem b6s (n : Nat) (kont1 : (List Int) → Option Big) (mx1 : Nat) (u2 : Int) (l1 : List Int) : a8h n kont1 (mx1 + 1) u2 l1 =
  bif decide (0 < u2) then
   (app 8 l1 [IntKind.i64.wrap (iand .u64 u2 1048575)]).bind fun l3 =>
   (shr .u64 u2 20).bind fun q1 =>
   a8h n kont1 mx1 q1 l3
  else
   kont1 l1 := rfl
def b0y (n : Nat) (nx1 : Int) : Option Big :=
 (bif decide (nx1 < 0) then
  some ((-1), IntKind.u64.wrap (0 - (IntKind.u64.wrap nx1)))
 else
  some (1, IntKind.u64.wrap nx1)).bind fun (sign1, u1) =>
 a8h n (fun (l2 : List Int) =>
  (a1y n sign1 l2).bind fun v1 =>
  some v1) n u1 ([] : List Int)
set_option maxHeartbeats 1000000 in
set_option maxRecDepth 1000000 in
theorem b2r (n : Nat) (nx1 : Int) (r : Big) (hm : b0y n nx1 = some r) {w : World} {F : Frz} (hs : Sat F w)  :
  Calls Tryz.prog 48 #[.int .i64 nx1] w fun e w' => ∃ v F' O', e = .returned v ∧ HS F w [] F' O' w' ∧ (∃ (a0_1 : Option Addr) (n0_1 : Nat) (c0_1 : Nat), v = .agg #[.int .i64 r.Sign, .slice a0_1 n0_1 c0_1] ∧ O' = [] ∧ SlR (Rp.int .i64) F' a0_1 n0_1 c0_1 r.Digits) := by
 unfold b0y at hm
 have h := HS.init hs
 refine a0x 25 Tryz.func48 rfl rfl rfl ?_
 refine a0f (a0a ?_)
 refine a0y ze24 rfl rfl rfl h ?_
 intro b1 wx1 hx1
 refine a0c (a0d (a0f (a0a (a0e rfl rfl rfl ?_))))
 refine b8h u3 u67 rfl rfl rfl ?_
 refine a0b rfl rfl rfl (a0b rfl rfl rfl (a0c (a0d (a0f (a0f (a0a (a0e rfl rfl rfl ?_)))))))
 refine a0v rfl rfl rfl rfl rfl ?_
 refine a0c (a0d ?_)
 obtain ⟨⟨sign1, u1⟩, hb1, hm⟩ := bind_some hm
 refine b0q (fun a w' => wx1 = w' ∧ Has 25 a [(2, .pointer (some ⟨b1, 0, none⟩)), (3, .int .i64 sign1), (4, .int .u64 u1)]) ?_ ?_
 ·rintro a wx2 ⟨rfl, hax1⟩
  refine a1l hax1 ?_
  refine a0f (a0a (a0b rfl rfl rfl (a0c (a0d (a0f (a1i ?_))))))
  have hx2 := hx1.nilRow 3 1
  intro a hax4
  obtain ⟨kont1, hkont1⟩ : ∃ kont1 : (List Int) → Option Big, kont1 = (fun (l2 : List Int) =>
       (a1y n sign1 l2).bind fun v1 =>
       some v1) := ⟨_, rfl⟩
  replace hm : (fun m (s : Int × List Int) => a8h n kont1 m s.1 s.2) n (u1, ([] : List Int)) = some r := by rw [hkont1]; exact hm
  refine a5u (id := 0) (fun m (s : Int × List Int) => a8h n kont1 m s.1 s.2) (fun (y : List Int) => kont1 y) r (fun (s : Int × List Int) a w' => ∃ (Fx1 : Frz) (as1 : Option Addr) (ns1 : Nat) (cs1 : Nat) (xss1 : List Value), Frz.le F Fx1 ∧ HS F w [] Fx1 [.row 3 1 as1 ns1 cs1 xss1, .box b1 24 [.int .i64 0, .slice none 0 0]] w' ∧ (RowN (Rp.int .i64) Fx1 ns1 xss1 s.2) ∧ Has 25 a [(2, .pointer (some ⟨b1, 0, none⟩)), (3, .int .i64 sign1), (4, .int .u64 s.1), (5, .slice as1 ns1 cs1)]) (fun (y : List Int) a w' => ∃ (Fx2 : Frz) (as2 : Option Addr) (ns2 : Nat) (cs2 : Nat) (xss2 : List Value), Frz.le F Fx2 ∧ HS F w [] Fx2 [.row 3 1 as2 ns2 cs2 xss2, .box b1 24 [.int .i64 0, .slice none 0 0]] w' ∧ (RowN (Rp.int .i64) Fx2 ns2 xss2 y) ∧ Has 25 a [(2, .pointer (some ⟨b1, 0, none⟩)), (3, .int .i64 sign1), (5, .slice as2 ns2 cs2)]) (fun _ => rfl) ?_ ?_ hm ⟨_, none, 0, 0, [], Frz.refl _, hx2.pick [0, 1] (by decide) rfl, ((show RowN (Rp.int .i64) _ 0 [] [] from ⟨rfl, rfl⟩)), hax4.cut (l := [2, 3, 4, 5]) rfl⟩
  ·clear hm; rintro l2 a wx3 hm ⟨Fx2, as2, ns2, cs2, xss2, hF2, hx4, hs2, hax2⟩
   rw [hkont1] at hm
   replace hm := hm
   refine a2d (e := .exit 0) hax2 ?_
   refine a1j (a0d (a0f (a0a (a0e rfl rfl rfl (a0e rfl rfl rfl ?_)))))
   obtain ⟨Fx3, hF3, hx5, hsx1⟩ := a1g hx4 (i := 0) rfl hs2
   obtain ⟨v1, hv1, hm⟩ := bind_some hm
   refine a0g ent76 rfl rfl rfl rfl hx5 (a3d _ _ _ _ hv1 hx5.sat hsx1) ?_
   rintro _ Fx4 _ wx4 hF4 hx6 ⟨as3, ns3, cs3, rfl, rfl, hs3⟩
   refine a0o sz24 rfl hx6 rfl rfl rfl rfl (i := 0) rfl rfl rfl rfl ?_
   intro wx5 hx7
   refine a0c (a0d (a1d ?_))
   refine a6l rfl ag24 sz24 rfl hx7 rfl (i := 0) rfl ?_
   obtain rfl := Option.some.inj hm
   exact ⟨_, _, _, rfl, hx7.pick [] (by decide) rfl, as3, ns3, cs3, rfl, rfl, hs3⟩
  clear hm hkont1; intro hk1 mx1 K ihx1
  rintro ⟨u2, l1⟩ a wx6 hm ⟨Fx1, as1, ns1, cs1, xss1, hF1, hx3, hs1, hax3⟩
  simp only [b6s] at hm
  refine a1l hax3 ?_
  refine a0f (a0f (a0a (a0e rfl rfl rfl ?_)))
  refine a0v rfl rfl rfl rfl rfl ?_
  refine a0c (a0d ?_)
  rcases a0i hm with ⟨hb2, hm⟩ | ⟨hb2, hm⟩
  ·refine a0u 13 rfl hb2 ?_
   refine a0z rfl (a1b (a0d (a0f (a1i (a0a (a0e rfl rfl rfl (a0e rfl rfl rfl ?_)))))))
   refine a0v rfl rfl rfl rfl rfl ?_
   refine b8h u67 u3 rfl rfl rfl ?_
   refine a1x (e := 3) (cs := [.int .i64 (IntKind.i64.wrap (iand .u64 u2 1048575))]) (q := 1) rfl rfl hx3 rfl (fun _ => by kernel_rfl) rfl rfl ?_
   intro b2 wx7 hx8
   obtain ⟨l3, hr1, hm⟩ := bind_some hm
   refine a9q (r := (Rp.int .i64)) ap22 rfl rfl hx8 rfl rfl (i := 1) (j := 0) rfl rfl hs1 ((show RowN (Rp.int .i64) Fx1 1 [.int .i64 (IntKind.i64.wrap (iand .u64 u2 1048575))] [IntKind.i64.wrap (iand .u64 u2 1048575)] from ⟨rfl, ⟨_, _, rfl, rfl, (rfl : RowR (Rp.int .i64) _ [] [])⟩⟩)) hr1 ?_
   intro as4 cs4 wx8 hx9 hs4
   refine a0b rfl rfl rfl (a0c (a2a (a0d (a0a (a0e rfl rfl rfl ?_)))))
   obtain ⟨q1, hq1, hm⟩ := bind_some hm
   refine c3m rfl rfl rfl rfl hq1 ?_
   refine a0b rfl rfl rfl (a0c ?_)
   refine a0p (fun a ha => ihx1 (q1, l3) a _ hm ?_)
   exact ⟨_, as4, (ns1 + 1), cs4, (xss1 ++ [.int .i64 (IntKind.i64.wrap (iand .u64 u2 1048575))]), hF1, hx9.pick [1, 2] (by decide) rfl, hs4, ha.cut (l := [2, 3, 4, 5]) rfl⟩
  refine a0u 13 rfl hb2 ?_
  refine a0s rfl (a3l (a0q (a0q ?_)))
  refine fun a ha => hk1 l1 a _ hm ?_
  exact ⟨_, as1, ns1, cs1, xss1, hF1, hx3.pick [0, 1] (by decide) rfl, hs1, ha.cut (l := [2, 3, 5]) rfl⟩
 clear hm
 rcases a0i hb1 with ⟨hb3, hb1⟩ | ⟨hb3, hb1⟩
 ·refine a0u 9 rfl hb3 ?_
  refine a0z rfl (a0a (a0e rfl rfl rfl ?_))
  refine c3w rfl rfl rfl ?_
  refine a0b rfl rfl rfl (a0b rfl rfl rfl (a0c ?_))
  refine a0p (fun a ha => ?_)
  cases hb1
  exact ⟨rfl, ha.cut (l := [2, 3, 4]) rfl⟩
 refine a0u 9 rfl hb3 ?_
 refine a0s rfl (a1b ?_)
 refine a0p (fun a ha => ?_)
 cases hb1
 exact ⟨rfl, ha.cut (l := [2, 3, 4]) rfl⟩
def a8m (n : Nat) (ax1 : Big) (kont1 : Int → Option (Int × Bool)) : Nat → Int → Int → Option (Int × Bool)
 | 0, _, _ => none
 | mx1 + 1, u1, i1 =>
  bif decide (i1 < (ax1.Digits.length : Int)) then
   (ix ax1.Digits i1).bind fun ex1 =>
   (bif i1 == 3 then
    some (decide (8 < ex1))
   else
    some false).bind fun v5 =>
   bif v5 then
    some (0, false)
   else
    (shl .u64 (IntKind.u64.wrap ex1) (imul .i64 20 i1)).bind fun q1 =>
    a8m n ax1 kont1 mx1 (ior .u64 u1 q1) (iadd .i64 i1 1)
  else
   kont1 u1
theorem b2v (n : Nat) (ax1 : Big) (kont1 : Int → Option (Int × Bool)) (mx1 : Nat) (u1 : Int) (i1 : Int) : a8m n ax1 kont1 (mx1 + 1) u1 i1 =
  bif decide (i1 < (ax1.Digits.length : Int)) then
   (ix ax1.Digits i1).bind fun ex1 =>
   (bif i1 == 3 then
    some (decide (8 < ex1))
   else
    some false).bind fun v5 =>
   bif v5 then
    some (0, false)
   else
    (shl .u64 (IntKind.u64.wrap ex1) (imul .i64 20 i1)).bind fun q1 =>
    a8m n ax1 kont1 mx1 (ior .u64 u1 q1) (iadd .i64 i1 1)
  else
   kont1 u1 := rfl
def b8i (n : Nat) (ax1 : Big) : Option (Int × Bool) :=
 (a3a n ax1).bind fun v1 =>
 (bif !v1 then
  some true
 else
  some (decide (4 < (ax1.Digits.length : Int)))).bind fun v2 =>
 bif v2 then
  some (0, false)
 else
  a8m n ax1 (fun (u2 : Int) =>
   (bif decide (ax1.Sign < 0) then
    some (decide (u2 ≤ 9223372036854775808))
   else
    some false).bind fun v3 =>
   bif v3 then
    some (IntKind.i64.wrap (IntKind.u64.wrap (0 - u2)), true)
   else
    (bif decide (0 ≤ ax1.Sign) then
     some (decide (u2 < 9223372036854775808))
    else
     some false).bind fun v4 =>
    bif v4 then
     some (IntKind.i64.wrap u2, true)
    else
     some (0, false)) n 0 0
set_option maxHeartbeats 1000000 in
set_option maxRecDepth 1000000 in
theorem c3t (n : Nat) (ax1 : Big) (r : (Int × Bool)) (hm : b8i n ax1 = some r) {w : World} {F : Frz} (hs : Sat F w) {as1 : Option Addr} {ns1 : Nat} {cs1 : Nat} (hs1 : SlR (Rp.int .i64) F as1 ns1 cs1 ax1.Digits) :
  Calls Tryz.prog 95 #[.agg #[.int .i64 ax1.Sign, .slice as1 ns1 cs1]] w fun e w' => ∃ v F' O', e = .returned v ∧ HS F w [] F' O' w' ∧ (v = .tuple #[.int .i64 r.1, .bool r.2] ∧ O' = []) := by
 unfold b8i at hm
 have h := HS.init hs
 refine a0x 59 Tryz.func95 rfl rfl rfl ?_
 refine a0f (a0a ?_)
 refine a2o rfl rfl rfl rfl h ?_
 intro b1 wx1 hx1
 refine a0b rfl rfl rfl (a0b rfl rfl rfl (a0c (a0d (a0f (a0f (a0a ?_))))))
 refine a0k ag24 sz24 rfl rfl hx1 rfl (i := 0) rfl rfl ?_
 obtain ⟨v1, hv1, hm⟩ := bind_some hm
 refine a0g ent60 rfl rfl rfl rfl hx1 (a2s _ _ _ hv1 hx1.sat hs1) ?_
 rintro _ Fx1 _ wx2 hF1 hx2 ⟨rfl, rfl⟩
 refine a2x rfl rfl rfl (a0e rfl rfl rfl ?_)
 obtain ⟨v2, hb1, hm⟩ := bind_some hm
 refine a2k 5 (fun a w' => wx2 = w' ∧ Has 59 a [(1, .pointer (some ⟨b1, 0, none⟩)), (15, .bool v2)]) ?_ ?_
 ·rintro a wx3 ⟨rfl, hax1⟩
  refine a1a hax1 ?_
  refine a0c (a0d ?_)
  rcases a0i hm with ⟨hb2, hm⟩ | ⟨hb2, hm⟩
  ·refine a0u 15 rfl hb2 ?_
   refine a0z rfl (a0f (a0a (a0b rfl rfl rfl (a0b rfl rfl rfl (a0c (a0d (a1d (a0n ?_))))))))
   refine a1k (vl := [.int .i64 0, .bool false]) rfl ⟨a1w rfl, a1w rfl, trivial⟩ (by simp) ?_
   obtain rfl := Option.some.inj hm
   exact ⟨_, _, _, rfl, hx2.pick [] (by decide) rfl, rfl, rfl⟩
  refine a0u 15 rfl hb2 ?_
  refine a0s rfl (a1b (a0d (a0f (a0a (a0b rfl rfl rfl (a0c (a0d (a0f (a0f (a0a ?_))))))))))
  refine a0h fa24_1 rfl rfl rfl ?_
  refine a0t ag22 rfl rfl hx2 rfl (i := 0) rfl rfl ?_
  refine a1z hs1.len u22 rfl rfl rfl ?_
  refine a0e rfl rfl rfl (a0c (a0d (a1i ?_)))
  intro a hax7
  obtain ⟨kont1, hkont1⟩ : ∃ kont1 : Int → Option (Int × Bool), kont1 = (fun (u2 : Int) =>
      (bif decide (ax1.Sign < 0) then
       some (decide (u2 ≤ 9223372036854775808))
      else
       some false).bind fun v3 =>
      bif v3 then
       some (IntKind.i64.wrap (IntKind.u64.wrap (0 - u2)), true)
      else
       (bif decide (0 ≤ ax1.Sign) then
        some (decide (u2 < 9223372036854775808))
       else
        some false).bind fun v4 =>
       bif v4 then
        some (IntKind.i64.wrap u2, true)
       else
        some (0, false)) := ⟨_, rfl⟩
  replace hm : (fun m (s : Int × Int) => a8m n ax1 kont1 m s.1 s.2) n (0, 0) = some r := by rw [hkont1]; exact hm
  refine a5u (id := 0) (fun m (s : Int × Int) => a8m n ax1 kont1 m s.1 s.2) (fun (y : Int) => kont1 y) r (fun (s : Int × Int) a w' => wx2 = w' ∧ Has 59 a [(1, .pointer (some ⟨b1, 0, none⟩)), (4, .int .u64 s.1), (17, .slice as1 ns1 cs1), (18, .int .i64 (ax1.Digits.length : Int)), (19, .int .i64 s.2)]) (fun (y : Int) a w' => wx2 = w' ∧ Has 59 a [(1, .pointer (some ⟨b1, 0, none⟩)), (4, .int .u64 y)]) (fun _ => rfl) ?_ ?_ hm ⟨rfl, hax7.cut (l := [1, 4, 17, 18, 19]) rfl⟩
  ·clear hm; rintro u2 a wx4 hm ⟨rfl, hax2⟩
   rw [hkont1] at hm
   replace hm := hm
   refine a2d (e := .exit 0) hax2 ?_
   refine a1j (a0d (a0f (a1i (a0f (a0a ?_)))))
   refine a0h fa24_0 rfl rfl rfl ?_
   refine a0t ag3 rfl rfl hx2 rfl (i := 0) rfl rfl ?_
   refine a0v rfl rfl rfl rfl rfl ?_
   refine a0e rfl rfl rfl ?_
   obtain ⟨v3, hb3, hm⟩ := bind_some hm
   refine a2k 3 (fun a w' => wx2 = w' ∧ Has 59 a [(1, .pointer (some ⟨b1, 0, none⟩)), (4, .int .u64 u2), (45, .bool v3)]) ?_ ?_
   ·rintro a wx5 ⟨rfl, hax3⟩
    refine a1a hax3 ?_
    refine a0b rfl rfl rfl (a0c (a0d ?_))
    rcases a0i hm with ⟨hb4, hm⟩ | ⟨hb4, hm⟩
    ·refine a0u 38 rfl hb4 ?_
     refine a0z rfl (a0f (a0a (a0e rfl rfl rfl ?_)))
     refine c3w rfl rfl rfl ?_
     refine b8h u67 u3 rfl rfl rfl ?_
     refine a0b rfl rfl rfl (a0b rfl rfl rfl (a0c (a0d (a1d (a1n (a0n ?_))))))
     refine a1k (vl := [.int .i64 (IntKind.i64.wrap (IntKind.u64.wrap (0 - u2))), .bool true]) rfl ⟨a1w rfl, a1w rfl, trivial⟩ (by simp) ?_
     obtain rfl := Option.some.inj hm
     exact ⟨_, _, _, rfl, hx2.pick [] (by decide) rfl, rfl, rfl⟩
    refine a0u 38 rfl hb4 ?_
    refine a0s rfl (a0f (a0a ?_))
    refine a0h fa24_0 rfl rfl rfl ?_
    refine a0t ag3 rfl rfl hx2 rfl (i := 0) rfl rfl ?_
    refine a0v rfl rfl rfl rfl rfl ?_
    refine a0e rfl rfl rfl ?_
    obtain ⟨v4, hb5, hm⟩ := bind_some hm
    refine a2k 3 (fun a w' => wx2 = w' ∧ Has 59 a [(4, .int .u64 u2), (56, .bool v4)]) ?_ ?_
    ·rintro a wx6 ⟨rfl, hax4⟩
     refine a1a hax4 ?_
     refine a0b rfl rfl rfl (a0c (a0d ?_))
     rcases a0i hm with ⟨hb6, hm⟩ | ⟨hb6, hm⟩
     ·refine a0u 49 rfl hb6 ?_
      refine a0z rfl (a0f (a0a (a0e rfl rfl rfl ?_)))
      refine b8h u67 u3 rfl rfl rfl ?_
      refine a0b rfl rfl rfl (a0b rfl rfl rfl (a0c (a0d (a1d (a1n (a0n ?_))))))
      refine a1k (vl := [.int .i64 (IntKind.i64.wrap u2), .bool true]) rfl ⟨a1w rfl, a1w rfl, trivial⟩ (by simp) ?_
      obtain rfl := Option.some.inj hm
      exact ⟨_, _, _, rfl, hx2.pick [] (by decide) rfl, rfl, rfl⟩
     refine a0u 49 rfl hb6 ?_
     refine a0s rfl (a1b (a2a (a0d (a0f (a0a (a0b rfl rfl rfl (a0b rfl rfl rfl (a0c (a0d (a1d ?_))))))))))
     refine a1k (vl := [.int .i64 0, .bool false]) rfl ⟨a1w rfl, a1w rfl, trivial⟩ (by simp) ?_
     obtain rfl := Option.some.inj hm
     exact ⟨_, _, _, rfl, hx2.pick [] (by decide) rfl, rfl, rfl⟩
    clear hm
    rcases a0i hb5 with ⟨hb7, hb5⟩ | ⟨hb7, hb5⟩
    ·refine a1e 53 rfl hb7 ?_
     refine a0e rfl rfl rfl ?_
     refine a0v rfl rfl rfl rfl rfl ?_
     refine a0m rfl rfl rfl rfl (a0c ?_)
     refine a0p (fun a ha => ?_)
     cases hb5
     exact ⟨rfl, ha.cut (l := [4, 56]) rfl⟩
    refine a1e 53 rfl hb7 ?_
    refine a0r rfl (by decide) rfl (a0r rfl (by decide) rfl (a0l rfl rfl rfl rfl (a0c ?_)))
    refine a0p (fun a ha => ?_)
    cases hb5
    exact ⟨rfl, ha.cut (l := [4, 56]) rfl⟩
   clear hm
   rcases a0i hb3 with ⟨hb8, hb3⟩ | ⟨hb8, hb3⟩
   ·refine a1e 42 rfl hb8 ?_
    refine a0e rfl rfl rfl ?_
    refine a0v rfl rfl rfl rfl rfl ?_
    refine a0m rfl rfl rfl rfl (a0c ?_)
    refine a0p (fun a ha => ?_)
    cases hb3
    exact ⟨rfl, ha.cut (l := [1, 4, 45]) rfl⟩
   refine a1e 42 rfl hb8 ?_
   refine a0r rfl (by decide) rfl (a0r rfl (by decide) rfl (a0l rfl rfl rfl rfl (a0c ?_)))
   refine a0p (fun a ha => ?_)
   cases hb3
   exact ⟨rfl, ha.cut (l := [1, 4, 45]) rfl⟩
  clear hm hkont1; intro hk1 mx1 K ihx1
  rintro ⟨u1, i1⟩ a wx7 hm ⟨rfl, hax5⟩
  simp only [b2v] at hm
  refine a1l hax5 ?_
  refine a0f (a0a ?_)
  refine a0v rfl rfl rfl rfl rfl ?_
  refine a0c (a0d (a0f ?_))
  rcases a0i hm with ⟨hb9, hm⟩ | ⟨hb9, hm⟩
  ·refine a0u 20 rfl hb9 ?_
   refine a0z rfl (a1b (a0d (a0f (a1i (a0f (a0a (a0e rfl rfl rfl ?_)))))))
   obtain ⟨ex1, he1, hm⟩ := bind_some hm
   refine a3w (r := (Rp.int .i64)) u22 sz3 rfl rfl rfl rfl (hs1.mono hF1) he1 ?_
   intro b2 o1 cs1 hf1 hr1
   have hc1 : cs1 = [.int .i64 ex1] := hr1
   subst hc1
   refine a2h (j := 0) ag3 rfl rfl hx2 hf1 rfl rfl ?_
   refine a0b rfl rfl rfl (a0b rfl rfl rfl (a0c (a0d (a0f (a0f (a0a (a0e rfl rfl rfl ?_)))))))
   refine a0v rfl rfl rfl rfl rfl ?_
   refine a0e rfl rfl rfl ?_
   obtain ⟨v5, hb10, hm⟩ := bind_some hm
   refine a2k 3 (fun a w' => wx2 = w' ∧ Has 59 a [(1, .pointer (some ⟨b1, 0, none⟩)), (4, .int .u64 u1), (5, .int .i64 i1), (6, .int .i64 ex1), (17, .slice as1 ns1 cs1), (18, .int .i64 (ax1.Digits.length : Int)), (19, .int .i64 i1), (29, .bool v5)]) ?_ ?_
   ·rintro a wx8 ⟨rfl, hax6⟩
    refine a1a hax6 ?_
    refine a0c (a0d ?_)
    rcases a0i hm with ⟨hb11, hm⟩ | ⟨hb11, hm⟩
    ·refine a0u 29 rfl hb11 ?_
     refine a0z rfl (a0f (a0a (a0b rfl rfl rfl (a0b rfl rfl rfl (a0c (a0d (a1d (a0n (a1n (a0n (a0n (a1n (a0n ?_)))))))))))))
     refine a1k (vl := [.int .i64 0, .bool false]) rfl ⟨a1w rfl, a1w rfl, trivial⟩ (by simp) ?_
     obtain rfl := Option.some.inj hm
     exact ⟨_, _, _, rfl, hx2.pick [] (by decide) rfl, rfl, rfl⟩
    refine a0u 29 rfl hb11 ?_
    refine a0s rfl (a1b (a0d (a0a (a0e rfl rfl rfl (a0e rfl rfl rfl ?_)))))
    refine b8h u3 u67 rfl rfl rfl ?_
    refine a0e rfl rfl rfl ?_
    refine a0v rfl rfl rfl rfl rfl ?_
    obtain ⟨q1, hq1, hm⟩ := bind_some hm
    refine c6x rfl rfl rfl rfl hq1 ?_
    refine a0v rfl rfl rfl rfl rfl ?_
    refine a0b rfl rfl rfl (a0c (a2a (a0d (a0a ?_))))
    refine a0v rfl rfl rfl rfl rfl ?_
    refine a0e rfl rfl rfl (a0c ?_)
    refine a0p (fun a ha => ihx1 ((ior .u64 u1 q1), (iadd .i64 i1 1)) a _ hm ?_)
    exact ⟨rfl, ha.cut (l := [1, 4, 17, 18, 19]) rfl⟩
   clear hm
   rcases a0i hb10 with ⟨hb12, hb10⟩ | ⟨hb12, hb10⟩
   ·refine a1e 26 rfl hb12 ?_
    refine a0e rfl rfl rfl ?_
    refine a0v rfl rfl rfl rfl rfl ?_
    refine a0m rfl rfl rfl rfl (a0c ?_)
    refine a0p (fun a ha => ?_)
    cases hb10
    exact ⟨rfl, ha.cut (l := [1, 4, 5, 6, 17, 18, 19, 29]) rfl⟩
   refine a1e 26 rfl hb12 ?_
   refine a0r rfl (by decide) rfl (a0r rfl (by decide) rfl (a0l rfl rfl rfl rfl (a0c ?_)))
   refine a0p (fun a ha => ?_)
   cases hb10
   exact ⟨rfl, ha.cut (l := [1, 4, 5, 6, 17, 18, 19, 29]) rfl⟩
  refine a0u 20 rfl hb9 ?_
  refine a0s rfl (a3l (a0q (a0q ?_)))
  refine fun a ha => hk1 u1 a _ hm ?_
  exact ⟨rfl, ha.cut (l := [1, 4]) rfl⟩
 clear hm
 rcases a0i hb1 with ⟨hb13, hb1⟩ | ⟨hb13, hb1⟩
 ·refine a1e 10 rfl hb13 ?_
  refine a0r rfl (by decide) rfl (a0r rfl (by decide) rfl (a0r rfl (by decide) rfl (a0r rfl (by decide) rfl (a0m rfl rfl rfl rfl (a0c ?_)))))
  refine a0p (fun a ha => ?_)
  cases hb1
  exact ⟨rfl, ha.cut (l := [1, 15]) rfl⟩
 refine a1e 10 rfl hb13 ?_
 refine a0h fa24_1 rfl rfl rfl ?_
 refine a0t ag22 rfl rfl hx2 rfl (i := 0) rfl rfl ?_
 refine a1z hs1.len u22 rfl rfl rfl ?_
 refine a0v rfl rfl rfl rfl rfl ?_
 refine a0l rfl rfl rfl rfl (a0c ?_)
 refine a0p (fun a ha => ?_)
 cases hb1
 exact ⟨rfl, ha.cut (l := [1, 15]) rfl⟩
end Go.Proofs.YtaanocaobllohaaGreatDoor.M
