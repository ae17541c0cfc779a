/-
  THE MIRRORS of the fractions' and the big integers' functions, of their references and of the laws, and that each call returns what its mirror says. Printed by gen.py.
-/
import Derived.Test.YtaanocaobllohaaGreatDoorRows
import Derived.Test.YtaanocaobllohaaGreatDoorTrim
import Derived.Test.YtaanocaobllohaaGreatDoorExtC
import Derived.Test.YtaanocaobllohaaGreatDoorRtX
import Derived.Test.YtaanocaobllohaaGreatDoorMirQ
namespace Go.Proofs.YtaanocaobllohaaGreatDoor.M
open Go Go.RowKit Rt
theorem ent8 : Ent Tryz.prog 8 := fun _ _ => by kernel_rfl
theorem ent9 : Ent Tryz.prog 9 := fun _ _ => by kernel_rfl
theorem ent11 : Ent Tryz.prog 11 := fun _ _ => by kernel_rfl
theorem ent13 : Ent Tryz.prog 13 := fun _ _ => by kernel_rfl
theorem ent16 : Ent Tryz.prog 16 := fun _ _ => by kernel_rfl
theorem ent18 : Ent Tryz.prog 18 := fun _ _ => by kernel_rfl
theorem ent22 : Ent Tryz.prog 22 := fun _ _ => by kernel_rfl
theorem ent31 : Ent Tryz.prog 31 := fun _ _ => by kernel_rfl
theorem ent33 : Ent Tryz.prog 33 := fun _ _ => by kernel_rfl
theorem ent44 : Ent Tryz.prog 44 := fun _ _ => by kernel_rfl
theorem ent39 : Ent Tryz.prog 39 := fun _ _ => by kernel_rfl
theorem ent37 : Ent Tryz.prog 37 := fun _ _ => by kernel_rfl
theorem ent35 : Ent Tryz.prog 35 := fun _ _ => by kernel_rfl
def a6q (n : Nat) (ax1 : Frac) (b1 : Frac) (p1 : Int) (q1 : Int) (s5 : Bs) : Option Bool :=
 (a9x n).bind fun v1 =>
 (b1o n ax1 40).bind fun v2 =>
 (bif !v2 then
  some true
 else
  (b1o n b1 40).bind fun v77 =>
  some (!v77)).bind fun v3 =>
 (bif v3 then
  some true
 else
  some (decide (300 < (s5.length : Int)))).bind fun v4 =>
 bif v4 then
  some v1
 else
  (a9i n ax1 b1).bind fun v5 =>
  (a9r n ax1 b1).bind fun v6 =>
  (b0u n ax1 b1).bind fun v7 =>
  (b0b n ax1 b1).bind fun v8 =>
  (bif v5.2 == v6.2 then
   some (v7.2 == v8.2)
  else
   some false).bind fun v9 =>
  (bif v9 then
   (a3j n v5.1 v6.1).bind fun v76 =>
   some v76
  else
   some false).bind fun v10 =>
  (bif v10 then
   (a3j n v7.1 v8.1).bind fun v75 =>
   some v75
  else
   some false).bind fun v11 =>
  (b0v n ax1 b1).bind fun v12 =>
  (a9w n ax1 b1).bind fun v13 =>
  (a8u n ax1 b1).bind fun v14 =>
  (a8j n ax1 b1).bind fun v15 =>
  (bif v12.2 == v13.2 then
   some (v14.2 == v15.2)
  else
   some false).bind fun v16 =>
  (bif v16 then
   (a3j n v12.1 v13.1).bind fun v74 =>
   some v74
  else
   some false).bind fun v17 =>
  (bif v17 then
   (a3j n v14.1 v15.1).bind fun v73 =>
   some v73
  else
   some false).bind fun v18 =>
  (b1c n p1 q1).bind fun v19 =>
  (a9k n p1 q1).bind fun v20 =>
  (b0n n s5).bind fun v21 =>
  (a9m n s5).bind fun v22 =>
  (bif v19.2 == v20.2 then
   some (v21.2 == v22.2)
  else
   some false).bind fun v23 =>
  (bif v23 then
   (a3j n v19.1 v20.1).bind fun v72 =>
   some v72
  else
   some false).bind fun v24 =>
  (bif v24 then
   (a3j n v21.1 v22.1).bind fun v71 =>
   some v71
  else
   some false).bind fun v25 =>
  (a7b n ax1.P b1.P).bind fun v26 =>
  (a5g n ax1.P b1.P).bind fun v27 =>
  (bif v26.2 == v27.2 then
   (a3j n v26.1 v27.1).bind fun v70 =>
   some v70
  else
   some false).bind fun v28 =>
  (bif v28 then
   (a2n n ax1).bind fun v68 =>
   (a2f n ax1).bind fun v69 =>
   some (v68 == v69)
  else
   some false).bind fun v29 =>
  (bif v29 then
   (a5f n ax1 b1).bind fun v66 =>
   (a4w n ax1 b1).bind fun v67 =>
   some (v66 == v67)
  else
   some false).bind fun v30 =>
  (bif v30 then
   (a8g n ax1 b1).bind fun v64 =>
   (a3j n ax1 b1).bind fun v65 =>
   some (v64 == v65)
  else
   some false).bind fun v31 =>
  (b1a n ax1 b1).bind fun v32 =>
  (b0f n ax1 b1).bind fun v33 =>
  (b0t n ax1 b1).bind fun v34 =>
  (a9s n ax1 b1).bind fun v35 =>
  (bif v32.2 == v33.2 then
   some (v34.2 == v35.2)
  else
   some false).bind fun v36 =>
  (bif v36 then
   (a3j n v32.1 v33.1).bind fun v63 =>
   some v63
  else
   some false).bind fun v37 =>
  (bif v37 then
   (a3j n v34.1 v35.1).bind fun v62 =>
   some v62
  else
   some false).bind fun v38 =>
  (bif v38 then
   (a9l n ax1).bind fun v59 =>
   (b0d n ax1).bind fun v60 =>
   (a3j n v59 v60).bind fun v61 =>
   some v61
  else
   some false).bind fun v39 =>
  (bif v39 then
   (a8f n ax1).bind fun v57 =>
   (a8l n ax1).bind fun v58 =>
   some (v57 == v58)
  else
   some false).bind fun v40 =>
  (bif v40 then
   (b3j n p1).bind fun v54 =>
   (b2o n p1).bind fun v55 =>
   (a3j n v54 v55).bind fun v56 =>
   some v56
  else
   some false).bind fun v41 =>
  (bif v1 then
   some v11
  else
   some false).bind fun v42 =>
  (bif v42 then
   some v18
  else
   some false).bind fun v43 =>
  (bif v43 then
   some v25
  else
   some false).bind fun v44 =>
  (bif v44 then
   some v31
  else
   some false).bind fun v45 =>
  (bif v45 then
   some v41
  else
   some false).bind fun v46 =>
  (bif v46 then
   (a5e n ax1).bind fun v52 =>
   (a6h n ax1).bind fun v53 =>
   some (v52 == v53)
  else
   some false).bind fun v47 =>
  (bif v47 then
   (a7r n ax1).bind fun v49 =>
   (a7n n ax1).bind fun v50 =>
   (a5i n v49 v50).bind fun v51 =>
   some v51
  else
   some false).bind fun v48 =>
  some v48
set_option maxHeartbeats 1000000 in
set_option maxRecDepth 1000000 in
theorem law05_FracTells_ok (n : Nat) (ax1 : Frac) (b1 : Frac) (p1 : Int) (q1 : Int) (s5 : Bs) (r : Bool) (hm : a6q n ax1 b1 p1 q1 s5 = some r) {w : World} {F : Frz} (hs : Sat F w) {as1 : Option Addr} {ns1 : Nat} {cs1 : Nat} {as2 : Option Addr} {ns2 : Nat} {cs2 : Nat} {as3 : Option Addr} {ns3 : Nat} {cs3 : Nat} {as4 : Option Addr} {ns4 : Nat} {cs4 : Nat} (hs1 : SlR (Rp.int .i64) F as1 ns1 cs1 ax1.P.Digits) (hs2 : SlR (Rp.int .i64) F as2 ns2 cs2 ax1.Q.Digits) (hs3 : SlR (Rp.int .i64) F as3 ns3 cs3 b1.P.Digits) (hs4 : SlR (Rp.int .i64) F as4 ns4 cs4 b1.Q.Digits) (hg3 : FX F 3 (Lib.pow10Tab.map (Value.int .u64))) :
  Calls Tryz.prog 3 #[.agg #[.int .i64 ax1.P.Sign, .slice as1 ns1 cs1, .int .i64 ax1.Q.Sign, .slice as2 ns2 cs2], .agg #[.int .i64 b1.P.Sign, .slice as3 ns3 cs3, .int .i64 b1.Q.Sign, .slice as4 ns4 cs4], .int .i64 p1, .int .i64 q1, vs s5] w fun e w' => ∃ v F' O', e = .returned v ∧ HS F w [] F' O' w' ∧ (v = .bool r ∧ O' = []) := by
 unfold a6q at hm
 have h := HS.init hs
 refine a0x 306 Tryz.func3 rfl rfl rfl ?_
 refine a0f (a0a ?_)
 refine a2o rfl rfl rfl rfl h ?_
 intro b2 wx1 hx1
 refine a2o rfl rfl rfl rfl hx1 ?_
 intro b3 wx2 hx2
 refine a0b rfl rfl rfl (a0c (a0d (a0f (a0a ?_))))
 obtain ⟨v1, hv1, hm⟩ := bind_some hm
 refine a0g ent8 rfl rfl rfl rfl hx2 (b8s _ _ hv1 hx2.sat hg3) ?_
 rintro _ Fx1 _ wx3 hF1 hx3 ⟨rfl, rfl⟩
 refine a0b rfl rfl rfl (a0c (a0d (a0f (a0f (a0a ?_)))))
 refine a0k ag26 sz26 rfl rfl hx3 rfl (i := 1) rfl rfl ?_
 obtain ⟨v2, hv2, hm⟩ := bind_some hm
 refine a0g ent9 rfl rfl rfl rfl hx3 (b5w _ _ _ _ hv2 hx3.sat (hs1.mono hF1) (hs2.mono hF1)) ?_
 rintro _ Fx2 _ wx4 hF2 hx4 ⟨rfl, rfl⟩
 refine a2x rfl rfl rfl (a0e rfl rfl rfl ?_)
 obtain ⟨v3, hb1, hm⟩ := bind_some hm
 refine a2k 4 (fun a w' => ∃ (Fx3 : Frz), Frz.le Fx2 Fx3 ∧ HS F w [] Fx3 [.box b3 26 [.int .i64 b1.P.Sign, .slice as3 ns3 cs3, .int .i64 b1.Q.Sign, .slice as4 ns4 cs4], .box b2 26 [.int .i64 ax1.P.Sign, .slice as1 ns1 cs1, .int .i64 ax1.Q.Sign, .slice as2 ns2 cs2]] w' ∧ Has 306 a [(2, .int .i64 p1), (3, .int .i64 q1), (4, vs s5), (5, .pointer (some ⟨b2, 0, none⟩)), (6, .pointer (some ⟨b3, 0, none⟩)), (11, .bool v1), (33, .bool v3)]) ?_ ?_
 ·rintro a wx5 ⟨Fx3, hF3, hx5, hax1⟩
  refine a1a hax1 ?_
  refine a0e rfl rfl rfl ?_
  obtain ⟨v4, hb2, hm⟩ := bind_some hm
  refine a2k 4 (fun a w' => wx5 = w' ∧ Has 306 a [(2, .int .i64 p1), (3, .int .i64 q1), (4, vs s5), (5, .pointer (some ⟨b2, 0, none⟩)), (6, .pointer (some ⟨b3, 0, none⟩)), (11, .bool v1), (38, .bool v4)]) ?_ ?_
  ·rintro a wx6 ⟨rfl, hax2⟩
   refine a1a hax2 ?_
   refine a0c (a0d ?_)
   rcases a0i hm with ⟨hb3, hm⟩ | ⟨hb3, hm⟩
   ·refine a0u 38 rfl hb3 ?_
    refine a0z rfl (a0f (a0a (a0e rfl rfl rfl (a0b rfl rfl rfl (a0c (a0d (a1d (a0n ?_))))))))
    refine a1p rfl rfl ?_
    obtain rfl := Option.some.inj hm
    exact ⟨_, _, _, rfl, hx5.pick [] (by decide) rfl, rfl, rfl⟩
   refine a0u 38 rfl hb3 ?_
   refine a0s rfl (a1b (a0d (a0f (a0a ?_))))
   refine a0k ag26 sz26 rfl rfl hx5 rfl (i := 1) rfl rfl ?_
   refine a0k ag26 sz26 rfl rfl hx5 rfl (i := 0) rfl rfl ?_
   obtain ⟨v5, hv3, hm⟩ := bind_some hm
   refine a0g ent10 rfl rfl rfl rfl hx5 (b4m _ _ _ _ hv3 hx5.sat (((hs1.mono hF1).mono hF2).mono hF3) (((hs2.mono hF1).mono hF2).mono hF3) (((hs3.mono hF1).mono hF2).mono hF3) (((hs4.mono hF1).mono hF2).mono hF3)) ?_
   rintro _ Fx4 _ wx7 hF4 hx6 ⟨as6, ns6, cs6, as7, ns7, cs7, rfl, rfl, hs6, hs7⟩
   refine a0e rfl rfl rfl (a0j rfl rfl rfl rfl (a0j rfl rfl rfl rfl ?_))
   refine a0y ze26 rfl rfl rfl hx6 ?_
   intro b4 wx8 hx7
   refine a0o sz26 rfl hx7 rfl rfl rfl rfl (i := 0) rfl rfl rfl rfl ?_
   intro wx9 hx8
   refine a0b rfl rfl rfl (a0c (a0d (a0f (a0a ?_))))
   refine a0k ag26 sz26 rfl rfl hx8 rfl (i := 2) rfl rfl ?_
   refine a0k ag26 sz26 rfl rfl hx8 rfl (i := 1) rfl rfl ?_
   have hG1 := ((hF1.trans hF2).trans hF3).trans hF4
   obtain ⟨v6, hv4, hm⟩ := bind_some hm
   refine a0g ent11 rfl rfl rfl rfl hx8 (c0t _ _ _ _ hv4 hx8.sat (hs1.mono hG1) (hs2.mono hG1) (hs3.mono hG1) (hs4.mono hG1)) ?_
   rintro _ Fx5 _ wx10 hF5 hx9 ⟨as8, ns8, cs8, as9, ns9, cs9, rfl, rfl, hs8, hs9⟩
   refine a0e rfl rfl rfl (a0j rfl rfl rfl rfl (a0j rfl rfl rfl rfl ?_))
   refine a0y ze26 rfl rfl rfl hx9 ?_
   intro b5 wx11 hx10
   refine a0o sz26 rfl hx10 rfl rfl rfl rfl (i := 0) rfl rfl rfl rfl ?_
   intro wx12 hx11
   refine a0b rfl rfl rfl (a0c (a0d (a0f (a0a ?_))))
   refine a0k ag26 sz26 rfl rfl hx11 rfl (i := 3) rfl rfl ?_
   refine a0k ag26 sz26 rfl rfl hx11 rfl (i := 2) rfl rfl ?_
   obtain ⟨v7, hv5, hm⟩ := bind_some hm
   refine a0g ent12 rfl rfl rfl rfl hx11 (b7g _ _ _ _ hv5 hx11.sat ((hs1.mono hG1).mono hF5) ((hs2.mono hG1).mono hF5) ((hs3.mono hG1).mono hF5) ((hs4.mono hG1).mono hF5)) ?_
   rintro _ Fx6 _ wx13 hF6 hx12 ⟨as10, ns10, cs10, as11, ns11, cs11, rfl, rfl, hs10, hs11⟩
   refine a0e rfl rfl rfl (a0j rfl rfl rfl rfl (a0j rfl rfl rfl rfl ?_))
   refine a0y ze26 rfl rfl rfl hx12 ?_
   intro b6 wx14 hx13
   refine a0o sz26 rfl hx13 rfl rfl rfl rfl (i := 0) rfl rfl rfl rfl ?_
   intro wx15 hx14
   refine a0b rfl rfl rfl (a0c (a0d (a0f (a0a ?_))))
   refine a0k ag26 sz26 rfl rfl hx14 rfl (i := 4) rfl rfl ?_
   refine a0k ag26 sz26 rfl rfl hx14 rfl (i := 3) rfl rfl ?_
   obtain ⟨v8, hv6, hm⟩ := bind_some hm
   refine a0g ent13 rfl rfl rfl rfl hx14 (c0y _ _ _ _ hv6 hx14.sat (((hs1.mono hG1).mono hF5).mono hF6) (((hs2.mono hG1).mono hF5).mono hF6) (((hs3.mono hG1).mono hF5).mono hF6) (((hs4.mono hG1).mono hF5).mono hF6)) ?_
   rintro _ Fx7 _ wx16 hF7 hx15 ⟨as12, ns12, cs12, as13, ns13, cs13, rfl, rfl, hs12, hs13⟩
   refine a0e rfl rfl rfl (a0j rfl rfl rfl rfl (a0j rfl rfl rfl rfl ?_))
   refine a0y ze26 rfl rfl rfl hx15 ?_
   intro b7 wx17 hx16
   refine a0o sz26 rfl hx16 rfl rfl rfl rfl (i := 0) rfl rfl rfl rfl ?_
   intro wx18 hx17
   refine a0b rfl rfl rfl (a0c (a0d (a0f (a0a (a0e rfl rfl rfl (a0e rfl rfl rfl ?_))))))
   refine a0v rfl rfl rfl rfl rfl ?_
   refine a0e rfl rfl rfl ?_
   obtain ⟨v9, hb4, hm⟩ := bind_some hm
   refine a2k 4 (fun a w' => wx18 = w' ∧ Has 306 a [(2, .int .i64 p1), (3, .int .i64 q1), (4, vs s5), (5, .pointer (some ⟨b2, 0, none⟩)), (6, .pointer (some ⟨b3, 0, none⟩)), (11, .bool v1), (12, .pointer (some ⟨b4, 0, none⟩)), (14, .pointer (some ⟨b5, 0, none⟩)), (16, .pointer (some ⟨b6, 0, none⟩)), (18, .pointer (some ⟨b7, 0, none⟩)), (71, .bool v9)]) ?_ ?_
   ·rintro a wx19 ⟨rfl, hax3⟩
    refine a1a hax3 ?_
    refine a0e rfl rfl rfl ?_
    obtain ⟨v10, hb5, hm⟩ := bind_some hm
    refine a2k 4 (fun a w' => ∃ (Fx8 : Frz), Frz.le Fx7 Fx8 ∧ HS F w [] Fx8 [.box b7 26 [.int .i64 v8.1.P.Sign, .slice as12 ns12 cs12, .int .i64 v8.1.Q.Sign, .slice as13 ns13 cs13], .box b6 26 [.int .i64 v7.1.P.Sign, .slice as10 ns10 cs10, .int .i64 v7.1.Q.Sign, .slice as11 ns11 cs11], .box b5 26 [.int .i64 v6.1.P.Sign, .slice as8 ns8 cs8, .int .i64 v6.1.Q.Sign, .slice as9 ns9 cs9], .box b4 26 [.int .i64 v5.1.P.Sign, .slice as6 ns6 cs6, .int .i64 v5.1.Q.Sign, .slice as7 ns7 cs7], .box b3 26 [.int .i64 b1.P.Sign, .slice as3 ns3 cs3, .int .i64 b1.Q.Sign, .slice as4 ns4 cs4], .box b2 26 [.int .i64 ax1.P.Sign, .slice as1 ns1 cs1, .int .i64 ax1.Q.Sign, .slice as2 ns2 cs2]] w' ∧ Has 306 a [(2, .int .i64 p1), (3, .int .i64 q1), (4, vs s5), (5, .pointer (some ⟨b2, 0, none⟩)), (6, .pointer (some ⟨b3, 0, none⟩)), (11, .bool v1), (12, .pointer (some ⟨b4, 0, none⟩)), (14, .pointer (some ⟨b5, 0, none⟩)), (16, .pointer (some ⟨b6, 0, none⟩)), (18, .pointer (some ⟨b7, 0, none⟩)), (76, .bool v10)]) ?_ ?_
    ·rintro a wx20 ⟨Fx8, hF8, hx18, hax4⟩
     refine a1a hax4 ?_
     refine a0e rfl rfl rfl ?_
     obtain ⟨v11, hb6, hm⟩ := bind_some hm
     refine a2k 4 (fun a w' => ∃ (Fx9 : Frz), Frz.le Fx8 Fx9 ∧ HS F w [] Fx9 [.box b7 26 [.int .i64 v8.1.P.Sign, .slice as12 ns12 cs12, .int .i64 v8.1.Q.Sign, .slice as13 ns13 cs13], .box b6 26 [.int .i64 v7.1.P.Sign, .slice as10 ns10 cs10, .int .i64 v7.1.Q.Sign, .slice as11 ns11 cs11], .box b5 26 [.int .i64 v6.1.P.Sign, .slice as8 ns8 cs8, .int .i64 v6.1.Q.Sign, .slice as9 ns9 cs9], .box b4 26 [.int .i64 v5.1.P.Sign, .slice as6 ns6 cs6, .int .i64 v5.1.Q.Sign, .slice as7 ns7 cs7], .box b3 26 [.int .i64 b1.P.Sign, .slice as3 ns3 cs3, .int .i64 b1.Q.Sign, .slice as4 ns4 cs4], .box b2 26 [.int .i64 ax1.P.Sign, .slice as1 ns1 cs1, .int .i64 ax1.Q.Sign, .slice as2 ns2 cs2]] w' ∧ Has 306 a [(2, .int .i64 p1), (3, .int .i64 q1), (4, vs s5), (5, .pointer (some ⟨b2, 0, none⟩)), (6, .pointer (some ⟨b3, 0, none⟩)), (11, .bool v1), (12, .pointer (some ⟨b4, 0, none⟩)), (14, .pointer (some ⟨b5, 0, none⟩)), (16, .pointer (some ⟨b6, 0, none⟩)), (18, .pointer (some ⟨b7, 0, none⟩)), (81, .bool v11)]) ?_ ?_
     ·rintro a wx21 ⟨Fx9, hF9, hx19, hax5⟩
      refine a1a hax5 ?_
      refine a0b rfl rfl rfl (a0c (a0d (a0f (a0a ?_))))
      refine a0k ag26 sz26 rfl rfl hx19 rfl (i := 5) rfl rfl ?_
      refine a0k ag26 sz26 rfl rfl hx19 rfl (i := 4) rfl rfl ?_
      have hG2 := ((((hG1.trans hF5).trans hF6).trans hF7).trans hF8).trans hF9
      obtain ⟨v12, hv7, hm⟩ := bind_some hm
      refine a0g ent15 rfl rfl rfl rfl hx19 (b7u _ _ _ _ hv7 hx19.sat (hs1.mono hG2) (hs2.mono hG2) (hs3.mono hG2) (hs4.mono hG2)) ?_
      rintro _ Fx10 _ wx22 hF10 hx20 ⟨as14, ns14, cs14, as15, ns15, cs15, rfl, rfl, hs14, hs15⟩
      refine a0e rfl rfl rfl (a0j rfl rfl rfl rfl (a0j rfl rfl rfl rfl ?_))
      refine a0o sz26 rfl hx20 rfl rfl rfl rfl (i := 3) rfl rfl rfl rfl ?_
      intro wx23 hx21
      refine a0b rfl rfl rfl (a0c (a0d (a0f (a0a ?_))))
      refine a0k ag26 sz26 rfl rfl hx21 rfl (i := 5) rfl rfl ?_
      refine a0k ag26 sz26 rfl rfl hx21 rfl (i := 4) rfl rfl ?_
      obtain ⟨v13, hv8, hm⟩ := bind_some hm
      refine a0g ent16 rfl rfl rfl rfl hx21 (c0x _ _ _ _ hv8 hx21.sat ((hs1.mono hG2).mono hF10) ((hs2.mono hG2).mono hF10) ((hs3.mono hG2).mono hF10) ((hs4.mono hG2).mono hF10)) ?_
      rintro _ Fx11 _ wx24 hF11 hx22 ⟨as16, ns16, cs16, as17, ns17, cs17, rfl, rfl, hs16, hs17⟩
      refine a0e rfl rfl rfl (a0j rfl rfl rfl rfl (a0j rfl rfl rfl rfl ?_))
      refine a0o sz26 rfl hx22 rfl rfl rfl rfl (i := 2) rfl rfl rfl rfl ?_
      intro wx25 hx23
      refine a0b rfl rfl rfl (a0c (a0d (a0f (a0a ?_))))
      refine a0k ag26 sz26 rfl rfl hx23 rfl (i := 5) rfl rfl ?_
      refine a0k ag26 sz26 rfl rfl hx23 rfl (i := 4) rfl rfl ?_
      obtain ⟨v14, hv9, hm⟩ := bind_some hm
      refine a0g ent17 rfl rfl rfl rfl hx23 (b8e _ _ _ _ hv9 hx23.sat (((hs1.mono hG2).mono hF10).mono hF11) (((hs2.mono hG2).mono hF10).mono hF11) (((hs3.mono hG2).mono hF10).mono hF11) (((hs4.mono hG2).mono hF10).mono hF11)) ?_
      rintro _ Fx12 _ wx26 hF12 hx24 ⟨as18, ns18, cs18, as19, ns19, cs19, rfl, rfl, hs18, hs19⟩
      refine a0e rfl rfl rfl (a0j rfl rfl rfl rfl (a0j rfl rfl rfl rfl ?_))
      refine a0o sz26 rfl hx24 rfl rfl rfl rfl (i := 1) rfl rfl rfl rfl ?_
      intro wx27 hx25
      refine a0b rfl rfl rfl (a0c (a0d (a0f (a0a ?_))))
      refine a0k ag26 sz26 rfl rfl hx25 rfl (i := 5) rfl rfl ?_
      refine a0k ag26 sz26 rfl rfl hx25 rfl (i := 4) rfl rfl ?_
      obtain ⟨v15, hv10, hm⟩ := bind_some hm
      refine a0g ent18 rfl rfl rfl rfl hx25 (c0s _ _ _ _ hv10 hx25.sat ((((hs1.mono hG2).mono hF10).mono hF11).mono hF12) ((((hs2.mono hG2).mono hF10).mono hF11).mono hF12) ((((hs3.mono hG2).mono hF10).mono hF11).mono hF12) ((((hs4.mono hG2).mono hF10).mono hF11).mono hF12)) ?_
      rintro _ Fx13 _ wx28 hF13 hx26 ⟨as20, ns20, cs20, as21, ns21, cs21, rfl, rfl, hs20, hs21⟩
      refine a0e rfl rfl rfl (a0j rfl rfl rfl rfl (a0j rfl rfl rfl rfl ?_))
      refine a0o sz26 rfl hx26 rfl rfl rfl rfl (i := 0) rfl rfl rfl rfl ?_
      intro wx29 hx27
      refine a0b rfl rfl rfl (a0c (a0d (a0f (a0a (a0e rfl rfl rfl (a0e rfl rfl rfl ?_))))))
      refine a0v rfl rfl rfl rfl rfl ?_
      refine a0e rfl rfl rfl ?_
      obtain ⟨v16, hb7, hm⟩ := bind_some hm
      refine a2k 4 (fun a w' => wx29 = w' ∧ Has 306 a [(2, .int .i64 p1), (3, .int .i64 q1), (4, vs s5), (5, .pointer (some ⟨b2, 0, none⟩)), (6, .pointer (some ⟨b3, 0, none⟩)), (11, .bool v1), (12, .pointer (some ⟨b4, 0, none⟩)), (14, .pointer (some ⟨b5, 0, none⟩)), (16, .pointer (some ⟨b6, 0, none⟩)), (18, .pointer (some ⟨b7, 0, none⟩)), (20, .bool v11), (113, .bool v16)]) ?_ ?_
      ·rintro a wx30 ⟨rfl, hax6⟩
       refine a1a hax6 ?_
       refine a0e rfl rfl rfl ?_
       obtain ⟨v17, hb8, hm⟩ := bind_some hm
       refine a2k 4 (fun a w' => ∃ (Fx14 : Frz), Frz.le Fx13 Fx14 ∧ HS F w [] Fx14 [.box b7 26 [.int .i64 v15.1.P.Sign, .slice as20 ns20 cs20, .int .i64 v15.1.Q.Sign, .slice as21 ns21 cs21], .box b6 26 [.int .i64 v14.1.P.Sign, .slice as18 ns18 cs18, .int .i64 v14.1.Q.Sign, .slice as19 ns19 cs19], .box b5 26 [.int .i64 v13.1.P.Sign, .slice as16 ns16 cs16, .int .i64 v13.1.Q.Sign, .slice as17 ns17 cs17], .box b4 26 [.int .i64 v12.1.P.Sign, .slice as14 ns14 cs14, .int .i64 v12.1.Q.Sign, .slice as15 ns15 cs15], .box b3 26 [.int .i64 b1.P.Sign, .slice as3 ns3 cs3, .int .i64 b1.Q.Sign, .slice as4 ns4 cs4], .box b2 26 [.int .i64 ax1.P.Sign, .slice as1 ns1 cs1, .int .i64 ax1.Q.Sign, .slice as2 ns2 cs2]] w' ∧ Has 306 a [(2, .int .i64 p1), (3, .int .i64 q1), (4, vs s5), (5, .pointer (some ⟨b2, 0, none⟩)), (6, .pointer (some ⟨b3, 0, none⟩)), (11, .bool v1), (12, .pointer (some ⟨b4, 0, none⟩)), (14, .pointer (some ⟨b5, 0, none⟩)), (16, .pointer (some ⟨b6, 0, none⟩)), (18, .pointer (some ⟨b7, 0, none⟩)), (20, .bool v11), (118, .bool v17)]) ?_ ?_
       ·rintro a wx31 ⟨Fx14, hF14, hx28, hax7⟩
        refine a1a hax7 ?_
        refine a0e rfl rfl rfl ?_
        obtain ⟨v18, hb9, hm⟩ := bind_some hm
        refine a2k 4 (fun a w' => ∃ (Fx15 : Frz), Frz.le Fx14 Fx15 ∧ HS F w [] Fx15 [.box b7 26 [.int .i64 v15.1.P.Sign, .slice as20 ns20 cs20, .int .i64 v15.1.Q.Sign, .slice as21 ns21 cs21], .box b6 26 [.int .i64 v14.1.P.Sign, .slice as18 ns18 cs18, .int .i64 v14.1.Q.Sign, .slice as19 ns19 cs19], .box b5 26 [.int .i64 v13.1.P.Sign, .slice as16 ns16 cs16, .int .i64 v13.1.Q.Sign, .slice as17 ns17 cs17], .box b4 26 [.int .i64 v12.1.P.Sign, .slice as14 ns14 cs14, .int .i64 v12.1.Q.Sign, .slice as15 ns15 cs15], .box b3 26 [.int .i64 b1.P.Sign, .slice as3 ns3 cs3, .int .i64 b1.Q.Sign, .slice as4 ns4 cs4], .box b2 26 [.int .i64 ax1.P.Sign, .slice as1 ns1 cs1, .int .i64 ax1.Q.Sign, .slice as2 ns2 cs2]] w' ∧ Has 306 a [(2, .int .i64 p1), (3, .int .i64 q1), (4, vs s5), (5, .pointer (some ⟨b2, 0, none⟩)), (6, .pointer (some ⟨b3, 0, none⟩)), (11, .bool v1), (12, .pointer (some ⟨b4, 0, none⟩)), (14, .pointer (some ⟨b5, 0, none⟩)), (16, .pointer (some ⟨b6, 0, none⟩)), (18, .pointer (some ⟨b7, 0, none⟩)), (20, .bool v11), (123, .bool v18)]) ?_ ?_
        ·rintro a wx32 ⟨Fx15, hF15, hx29, hax8⟩
         refine a1a hax8 ?_
         refine a0b rfl rfl rfl (a0c (a0d (a0f (a0a (a0e rfl rfl rfl (a0e rfl rfl rfl ?_))))))
         obtain ⟨v19, hv11, hm⟩ := bind_some hm
         refine a0g ent19 rfl rfl rfl rfl hx29 (b5j _ _ _ _ hv11 hx29.sat) ?_
         rintro _ Fx16 _ wx33 hF16 hx30 ⟨as22, ns22, cs22, as23, ns23, cs23, rfl, rfl, hs22, hs23⟩
         refine a0e rfl rfl rfl (a0j rfl rfl rfl rfl (a0j rfl rfl rfl rfl ?_))
         refine a0o sz26 rfl hx30 rfl rfl rfl rfl (i := 3) rfl rfl rfl rfl ?_
         intro wx34 hx31
         refine a0b rfl rfl rfl (a0c (a0d (a0f (a0a (a0e rfl rfl rfl (a0e rfl rfl rfl ?_))))))
         obtain ⟨v20, hv12, hm⟩ := bind_some hm
         refine a0g ent20 rfl rfl rfl rfl hx31 (b7m _ _ _ _ hv12 hx31.sat) ?_
         rintro _ Fx17 _ wx35 hF17 hx32 ⟨as24, ns24, cs24, as25, ns25, cs25, rfl, rfl, hs24, hs25⟩
         refine a0e rfl rfl rfl (a0j rfl rfl rfl rfl (a0j rfl rfl rfl rfl ?_))
         refine a0o sz26 rfl hx32 rfl rfl rfl rfl (i := 2) rfl rfl rfl rfl ?_
         intro wx36 hx33
         refine a0b rfl rfl rfl (a0c (a0d (a0f (a0a (a0e rfl rfl rfl ?_)))))
         have hG3 := (((((((hG2.trans hF10).trans hF11).trans hF12).trans hF13).trans hF14).trans hF15).trans hF16).trans hF17
         obtain ⟨v21, hv13, hm⟩ := bind_some hm
         refine a0g ent21 rfl rfl rfl rfl hx33 (b2l _ _ _ hv13 hx33.sat (hg3.mono hG3)) ?_
         rintro _ Fx18 _ wx37 hF18 hx34 ⟨as26, ns26, cs26, as27, ns27, cs27, rfl, rfl, hs26, hs27⟩
         refine a0e rfl rfl rfl (a0j rfl rfl rfl rfl (a0j rfl rfl rfl rfl ?_))
         refine a0o sz26 rfl hx34 rfl rfl rfl rfl (i := 1) rfl rfl rfl rfl ?_
         intro wx38 hx35
         refine a0b rfl rfl rfl (a0c (a0d (a0f (a0a (a0e rfl rfl rfl ?_)))))
         obtain ⟨v22, hv14, hm⟩ := bind_some hm
         refine a0g ent22 rfl rfl rfl rfl hx35 (b9r _ _ _ hv14 hx35.sat) ?_
         rintro _ Fx19 _ wx39 hF19 hx36 ⟨as28, ns28, cs28, as29, ns29, cs29, rfl, rfl, hs28, hs29⟩
         refine a0e rfl rfl rfl (a0j rfl rfl rfl rfl (a0j rfl rfl rfl rfl ?_))
         refine a0o sz26 rfl hx36 rfl rfl rfl rfl (i := 0) rfl rfl rfl rfl ?_
         intro wx40 hx37
         refine a0b rfl rfl rfl (a0c (a0d (a0f (a0a (a0e rfl rfl rfl (a0e rfl rfl rfl ?_))))))
         refine a0v rfl rfl rfl rfl rfl ?_
         refine a0e rfl rfl rfl ?_
         obtain ⟨v23, hb10, hm⟩ := bind_some hm
         refine a2k 4 (fun a w' => wx40 = w' ∧ Has 306 a [(2, .int .i64 p1), (5, .pointer (some ⟨b2, 0, none⟩)), (6, .pointer (some ⟨b3, 0, none⟩)), (11, .bool v1), (12, .pointer (some ⟨b4, 0, none⟩)), (14, .pointer (some ⟨b5, 0, none⟩)), (16, .pointer (some ⟨b6, 0, none⟩)), (18, .pointer (some ⟨b7, 0, none⟩)), (20, .bool v11), (21, .bool v18), (153, .bool v23)]) ?_ ?_
         ·rintro a wx41 ⟨rfl, hax9⟩
          refine a1a hax9 ?_
          refine a0e rfl rfl rfl ?_
          obtain ⟨v24, hb11, hm⟩ := bind_some hm
          refine a2k 4 (fun a w' => ∃ (Fx20 : Frz), Frz.le Fx19 Fx20 ∧ HS F w [] Fx20 [.box b7 26 [.int .i64 v22.1.P.Sign, .slice as28 ns28 cs28, .int .i64 v22.1.Q.Sign, .slice as29 ns29 cs29], .box b6 26 [.int .i64 v21.1.P.Sign, .slice as26 ns26 cs26, .int .i64 v21.1.Q.Sign, .slice as27 ns27 cs27], .box b5 26 [.int .i64 v20.1.P.Sign, .slice as24 ns24 cs24, .int .i64 v20.1.Q.Sign, .slice as25 ns25 cs25], .box b4 26 [.int .i64 v19.1.P.Sign, .slice as22 ns22 cs22, .int .i64 v19.1.Q.Sign, .slice as23 ns23 cs23], .box b3 26 [.int .i64 b1.P.Sign, .slice as3 ns3 cs3, .int .i64 b1.Q.Sign, .slice as4 ns4 cs4], .box b2 26 [.int .i64 ax1.P.Sign, .slice as1 ns1 cs1, .int .i64 ax1.Q.Sign, .slice as2 ns2 cs2]] w' ∧ Has 306 a [(2, .int .i64 p1), (5, .pointer (some ⟨b2, 0, none⟩)), (6, .pointer (some ⟨b3, 0, none⟩)), (11, .bool v1), (12, .pointer (some ⟨b4, 0, none⟩)), (14, .pointer (some ⟨b5, 0, none⟩)), (16, .pointer (some ⟨b6, 0, none⟩)), (18, .pointer (some ⟨b7, 0, none⟩)), (20, .bool v11), (21, .bool v18), (158, .bool v24)]) ?_ ?_
          ·rintro a wx42 ⟨Fx20, hF20, hx38, hax10⟩
           refine a1a hax10 ?_
           refine a0e rfl rfl rfl ?_
           obtain ⟨v25, hb12, hm⟩ := bind_some hm
           refine a2k 4 (fun a w' => ∃ (Fx21 : Frz), Frz.le Fx20 Fx21 ∧ HS F w [] Fx21 [.box b7 26 [.int .i64 v22.1.P.Sign, .slice as28 ns28 cs28, .int .i64 v22.1.Q.Sign, .slice as29 ns29 cs29], .box b6 26 [.int .i64 v21.1.P.Sign, .slice as26 ns26 cs26, .int .i64 v21.1.Q.Sign, .slice as27 ns27 cs27], .box b5 26 [.int .i64 v20.1.P.Sign, .slice as24 ns24 cs24, .int .i64 v20.1.Q.Sign, .slice as25 ns25 cs25], .box b4 26 [.int .i64 v19.1.P.Sign, .slice as22 ns22 cs22, .int .i64 v19.1.Q.Sign, .slice as23 ns23 cs23], .box b3 26 [.int .i64 b1.P.Sign, .slice as3 ns3 cs3, .int .i64 b1.Q.Sign, .slice as4 ns4 cs4], .box b2 26 [.int .i64 ax1.P.Sign, .slice as1 ns1 cs1, .int .i64 ax1.Q.Sign, .slice as2 ns2 cs2]] w' ∧ Has 306 a [(2, .int .i64 p1), (5, .pointer (some ⟨b2, 0, none⟩)), (6, .pointer (some ⟨b3, 0, none⟩)), (11, .bool v1), (12, .pointer (some ⟨b4, 0, none⟩)), (14, .pointer (some ⟨b5, 0, none⟩)), (16, .pointer (some ⟨b6, 0, none⟩)), (18, .pointer (some ⟨b7, 0, none⟩)), (20, .bool v11), (21, .bool v18), (163, .bool v25)]) ?_ ?_
           ·rintro a wx43 ⟨Fx21, hF21, hx39, hax11⟩
            refine a1a hax11 ?_
            refine a0b rfl rfl rfl (a0c (a0d (a0f (a0a ?_))))
            refine a0h fa26_0 rfl rfl rfl ?_
            refine a1f (cs' := [.int .i64 ax1.P.Sign, .slice as1 ns1 cs1]) ag24 sz24 rfl rfl hx39 rfl (i := 5) rfl rfl rfl ?_
            refine a0h fa26_0 rfl rfl rfl ?_
            refine a1f (cs' := [.int .i64 b1.P.Sign, .slice as3 ns3 cs3]) ag24 sz24 rfl rfl hx39 rfl (i := 4) rfl rfl rfl ?_
            have hG4 := (((hG3.trans hF18).trans hF19).trans hF20).trans hF21
            obtain ⟨v26, hv15, hm⟩ := bind_some hm
            refine a0g ent23 rfl rfl rfl rfl hx39 (b0c _ _ _ _ hv15 hx39.sat (hs1.mono hG4) (hs3.mono hG4)) ?_
            rintro _ Fx22 _ wx44 hF22 hx40 ⟨as30, ns30, cs30, as31, ns31, cs31, rfl, rfl, hs30, hs31⟩
            refine a0e rfl rfl rfl (a0j rfl rfl rfl rfl (a0j rfl rfl rfl rfl ?_))
            refine a0o sz26 rfl hx40 rfl rfl rfl rfl (i := 3) rfl rfl rfl rfl ?_
            intro wx45 hx41
            refine a0b rfl rfl rfl (a0c (a0d (a0f (a0a ?_))))
            refine a0h fa26_0 rfl rfl rfl ?_
            refine a1f (cs' := [.int .i64 ax1.P.Sign, .slice as1 ns1 cs1]) ag24 sz24 rfl rfl hx41 rfl (i := 5) rfl rfl rfl ?_
            refine a0h fa26_0 rfl rfl rfl ?_
            refine a1f (cs' := [.int .i64 b1.P.Sign, .slice as3 ns3 cs3]) ag24 sz24 rfl rfl hx41 rfl (i := 4) rfl rfl rfl ?_
            obtain ⟨v27, hv16, hm⟩ := bind_some hm
            refine a0g ent24 rfl rfl rfl rfl hx41 (a7q _ _ _ _ hv16 hx41.sat ((hs1.mono hG4).mono hF22) ((hs3.mono hG4).mono hF22)) ?_
            rintro _ Fx23 _ wx46 hF23 hx42 ⟨as32, ns32, cs32, as33, ns33, cs33, rfl, rfl, hs32, hs33⟩
            refine a0e rfl rfl rfl (a0j rfl rfl rfl rfl (a0j rfl rfl rfl rfl ?_))
            refine a0o sz26 rfl hx42 rfl rfl rfl rfl (i := 2) rfl rfl rfl rfl ?_
            intro wx47 hx43
            refine a0b rfl rfl rfl (a0c (a0d (a0f ?_)))
            refine a4s (by kernel_rfl) (by kernel_rfl) hx43 ?_
            refine a1h rfl rfl rfl rfl (fun _ _ _ _ => a0e rfl rfl rfl (a0c (qq rfl))) ?_
            refine a1h rfl rfl rfl rfl (fun _ _ _ _ => a0e rfl rfl rfl (a0c (qq rfl))) ?_
            refine a1h rfl rfl rfl rfl (fun _ _ _ _ => a0v rfl rfl rfl rfl rfl (a0c (qq rfl))) ?_
            refine a1h rfl rfl rfl rfl (fun _ _ _ _ => a0e rfl rfl rfl (a0c (qq rfl))) ?_
            obtain ⟨v28, hb13, hm⟩ := bind_some hm
            refine c3l 4 (fun a => Has 306 a [(2, .int .i64 p1), (5, .pointer (some ⟨b2, 0, none⟩)), (6, .pointer (some ⟨b3, 0, none⟩)), (11, .bool v1), (12, .pointer (some ⟨b4, 0, none⟩)), (14, .pointer (some ⟨b5, 0, none⟩)), (16, .pointer (some ⟨b6, 0, none⟩)), (18, .pointer (some ⟨b7, 0, none⟩)), (20, .bool v11), (21, .bool v18), (22, .bool v25), (187, .bool v28)]) ?_ ?_
            ·intro a hax12
             refine b3n hax12 ?_
             refine a1h rfl rfl rfl rfl (fun _ _ _ _ => a0e rfl rfl rfl (a0c (qq rfl))) ?_
             obtain ⟨v29, hb14, hm⟩ := bind_some hm
             refine c3l 6 (fun a => Has 306 a [(2, .int .i64 p1), (5, .pointer (some ⟨b2, 0, none⟩)), (6, .pointer (some ⟨b3, 0, none⟩)), (11, .bool v1), (12, .pointer (some ⟨b4, 0, none⟩)), (14, .pointer (some ⟨b5, 0, none⟩)), (16, .pointer (some ⟨b6, 0, none⟩)), (18, .pointer (some ⟨b7, 0, none⟩)), (20, .bool v11), (21, .bool v18), (22, .bool v25), (194, .bool v29)]) ?_ ?_
             ·intro a hax13
              refine b3n hax13 ?_
              refine a1h rfl rfl rfl rfl (fun _ _ _ _ => a0e rfl rfl rfl (a0c (qq rfl))) ?_
              obtain ⟨v30, hb15, hm⟩ := bind_some hm
              refine c3l 8 (fun a => Has 306 a [(2, .int .i64 p1), (5, .pointer (some ⟨b2, 0, none⟩)), (6, .pointer (some ⟨b3, 0, none⟩)), (11, .bool v1), (12, .pointer (some ⟨b4, 0, none⟩)), (14, .pointer (some ⟨b5, 0, none⟩)), (16, .pointer (some ⟨b6, 0, none⟩)), (18, .pointer (some ⟨b7, 0, none⟩)), (20, .bool v11), (21, .bool v18), (22, .bool v25), (203, .bool v30)]) ?_ ?_
              ·intro a hax14
               refine b3n hax14 ?_
               refine a1h rfl rfl rfl rfl (fun _ _ _ _ => a0e rfl rfl rfl (a0c (qq rfl))) ?_
               obtain ⟨v31, hb16, hm⟩ := bind_some hm
               refine c3l 8 (fun a => Has 306 a [(2, .int .i64 p1), (5, .pointer (some ⟨b2, 0, none⟩)), (6, .pointer (some ⟨b3, 0, none⟩)), (11, .bool v1), (12, .pointer (some ⟨b4, 0, none⟩)), (14, .pointer (some ⟨b5, 0, none⟩)), (16, .pointer (some ⟨b6, 0, none⟩)), (18, .pointer (some ⟨b7, 0, none⟩)), (20, .bool v11), (21, .bool v18), (22, .bool v25), (212, .bool v31)]) ?_ ?_
               ·intro a hax15
                refine b3n hax15 ?_
                refine a1h rfl rfl rfl rfl (fun _ _ _ _ => a0b rfl rfl rfl (a0c (qq rfl))) ?_
                refine b3x ?_
                rintro wx52 ⟨Fx24, hF24, hx44⟩
                refine a0d (a0f (a0a ?_))
                refine a0k ag26 sz26 rfl rfl hx44 rfl (i := 5) rfl rfl ?_
                refine a0k ag26 sz26 rfl rfl hx44 rfl (i := 4) rfl rfl ?_
                obtain ⟨v32, hv17, hm⟩ := bind_some hm
                refine a0g ent30 rfl rfl rfl rfl hx44 (b8g _ _ _ _ hv17 hx44.sat ((((hs1.mono hG4).mono hF22).mono hF23).mono hF24) ((((hs2.mono hG4).mono hF22).mono hF23).mono hF24) ((((hs3.mono hG4).mono hF22).mono hF23).mono hF24) ((((hs4.mono hG4).mono hF22).mono hF23).mono hF24)) ?_
                rintro _ Fx25 _ wx53 hF25 hx45 ⟨as34, ns34, cs34, as35, ns35, cs35, rfl, rfl, hs34, hs35⟩
                refine a0e rfl rfl rfl (a0j rfl rfl rfl rfl (a0j rfl rfl rfl rfl ?_))
                refine a0o sz26 rfl hx45 rfl rfl rfl rfl (i := 3) rfl rfl rfl rfl ?_
                intro wx54 hx46
                refine a0b rfl rfl rfl (a0c (a0d (a0f (a0a ?_))))
                refine a0k ag26 sz26 rfl rfl hx46 rfl (i := 5) rfl rfl ?_
                refine a0k ag26 sz26 rfl rfl hx46 rfl (i := 4) rfl rfl ?_
                have hG5 := (((hG4.trans hF22).trans hF23).trans hF24).trans hF25
                obtain ⟨v33, hv18, hm⟩ := bind_some hm
                refine a0g ent31 rfl rfl rfl rfl hx46 (c0j _ _ _ _ hv18 hx46.sat (hs1.mono hG5) (hs2.mono hG5) (hs3.mono hG5) (hs4.mono hG5)) ?_
                rintro _ Fx26 _ wx55 hF26 hx47 ⟨as36, ns36, cs36, as37, ns37, cs37, rfl, rfl, hs36, hs37⟩
                refine a0e rfl rfl rfl (a0j rfl rfl rfl rfl (a0j rfl rfl rfl rfl ?_))
                refine a0o sz26 rfl hx47 rfl rfl rfl rfl (i := 2) rfl rfl rfl rfl ?_
                intro wx56 hx48
                refine a0b rfl rfl rfl (a0c (a0d (a0f (a0a ?_))))
                refine a0k ag26 sz26 rfl rfl hx48 rfl (i := 5) rfl rfl ?_
                refine a0k ag26 sz26 rfl rfl hx48 rfl (i := 4) rfl rfl ?_
                obtain ⟨v34, hv19, hm⟩ := bind_some hm
                refine a0g ent32 rfl rfl rfl rfl hx48 (b7k _ _ _ _ hv19 hx48.sat ((hs1.mono hG5).mono hF26) ((hs2.mono hG5).mono hF26) ((hs3.mono hG5).mono hF26) ((hs4.mono hG5).mono hF26)) ?_
                rintro _ Fx27 _ wx57 hF27 hx49 ⟨as38, ns38, cs38, as39, ns39, cs39, rfl, rfl, hs38, hs39⟩
                refine a0e rfl rfl rfl (a0j rfl rfl rfl rfl (a0j rfl rfl rfl rfl ?_))
                refine a0o sz26 rfl hx49 rfl rfl rfl rfl (i := 1) rfl rfl rfl rfl ?_
                intro wx58 hx50
                refine a0b rfl rfl rfl (a0c (a0d (a0f (a0a ?_))))
                refine a0k ag26 sz26 rfl rfl hx50 rfl (i := 5) rfl rfl ?_
                refine a0k ag26 sz26 rfl rfl hx50 rfl (i := 4) rfl rfl ?_
                obtain ⟨v35, hv20, hm⟩ := bind_some hm
                refine a0g ent33 rfl rfl rfl rfl hx50 (c0p _ _ _ _ hv20 hx50.sat (((hs1.mono hG5).mono hF26).mono hF27) (((hs2.mono hG5).mono hF26).mono hF27) (((hs3.mono hG5).mono hF26).mono hF27) (((hs4.mono hG5).mono hF26).mono hF27)) ?_
                rintro _ Fx28 _ wx59 hF28 hx51 ⟨as40, ns40, cs40, as41, ns41, cs41, rfl, rfl, hs40, hs41⟩
                refine a0e rfl rfl rfl (a0j rfl rfl rfl rfl (a0j rfl rfl rfl rfl ?_))
                refine a0o sz26 rfl hx51 rfl rfl rfl rfl (i := 0) rfl rfl rfl rfl ?_
                intro wx60 hx52
                refine a0b rfl rfl rfl (a0c (a0d (a0f ?_)))
                refine a2m (SH Fx28 [.box b7 26 [.int .i64 v35.1.P.Sign, .slice as40 ns40 cs40, .int .i64 v35.1.Q.Sign, .slice as41 ns41 cs41], .box b6 26 [.int .i64 v34.1.P.Sign, .slice as38 ns38 cs38, .int .i64 v34.1.Q.Sign, .slice as39 ns39 cs39], .box b5 26 [.int .i64 v33.1.P.Sign, .slice as36 ns36 cs36, .int .i64 v33.1.Q.Sign, .slice as37 ns37 cs37], .box b4 26 [.int .i64 v32.1.P.Sign, .slice as34 ns34 cs34, .int .i64 v32.1.Q.Sign, .slice as35 ns35 cs35], .box b3 26 [.int .i64 b1.P.Sign, .slice as3 ns3 cs3, .int .i64 b1.Q.Sign, .slice as4 ns4 cs4], .box b2 26 [.int .i64 ax1.P.Sign, .slice as1 ns1 cs1, .int .i64 ax1.Q.Sign, .slice as2 ns2 cs2]]) 40 rfl (by kernel_rfl) hx52 ?_
                intro wx61 hx53
                refine d_tk 0 rfl (by kernel_rfl) rfl rfl rfl rfl (hx53.sh (Frz.refl _) [0, 1, 2, 3, 4, 5] (by decide) rfl) (fun _ _ _ _ _ => a0e rfl rfl rfl (a0c (qq rfl))) ?_
                refine d_tk 1 rfl (by kernel_rfl) rfl rfl rfl rfl (hx53.sh (Frz.refl _) [0, 1, 2, 3, 4, 5] (by decide) rfl) (fun _ _ _ _ _ => a0e rfl rfl rfl (a0c (qq rfl))) ?_
                refine d_tk 2 rfl (by kernel_rfl) rfl rfl rfl rfl (hx53.sh (Frz.refl _) [0, 1, 2, 3, 4, 5] (by decide) rfl) (fun _ _ _ _ _ => a0v rfl rfl rfl rfl rfl (a0c (qq rfl))) ?_
                refine d_tk 3 rfl (by kernel_rfl) rfl rfl rfl rfl (hx53.sh (Frz.refl _) [0, 1, 2, 3, 4, 5] (by decide) rfl) (fun _ _ _ _ _ => a0e rfl rfl rfl (a0c (qq rfl))) ?_
                obtain ⟨v36, hb17, hm⟩ := bind_some hm
                refine b1i (fuel' := 32) (listed' := #[true, true, true, true, true, true, true, true, false, false, false, false, false, false, false, false, false, false, false, false, false, false, false, false, false, false, false, false, false, false, false, false, false, false, false, false, false, false, false, false]) (fun a w' => wx61 = w' ∧ Has 306 a [(2, .int .i64 p1), (5, .pointer (some ⟨b2, 0, none⟩)), (11, .bool v1), (12, .pointer (some ⟨b4, 0, none⟩)), (14, .pointer (some ⟨b5, 0, none⟩)), (16, .pointer (some ⟨b6, 0, none⟩)), (18, .pointer (some ⟨b7, 0, none⟩)), (20, .bool v11), (21, .bool v18), (22, .bool v25), (23, .bool v31), (244, .bool v36)]) ?_ (fun hK1 => ?_)
                ·rintro a wx62 ⟨rfl, hax16⟩
                 refine a4k hax16 ?_
                 refine d_tk 8 rfl (by kernel_rfl) rfl rfl rfl rfl (hx53.sh (Frz.refl _) [0, 1, 2, 3, 4, 5] (by decide) rfl) (fun _ _ _ _ _ => a0e rfl rfl rfl (a0c (qq rfl))) ?_
                 obtain ⟨v37, hb18, hm⟩ := bind_some hm
                 refine b1i (fuel' := 27) (listed' := #[true, true, true, true, true, true, true, true, true, true, true, true, true, false, false, false, false, false, false, false, false, false, false, false, false, false, false, false, false, false, false, false, false, false, false, false, false, false, false, false]) (fun a w' => ∃ (Fx29 : Frz), Frz.le Fx28 Fx29 ∧ HS F w [] Fx29 [.box b7 26 [.int .i64 v35.1.P.Sign, .slice as40 ns40 cs40, .int .i64 v35.1.Q.Sign, .slice as41 ns41 cs41], .box b6 26 [.int .i64 v34.1.P.Sign, .slice as38 ns38 cs38, .int .i64 v34.1.Q.Sign, .slice as39 ns39 cs39], .box b5 26 [.int .i64 v33.1.P.Sign, .slice as36 ns36 cs36, .int .i64 v33.1.Q.Sign, .slice as37 ns37 cs37], .box b4 26 [.int .i64 v32.1.P.Sign, .slice as34 ns34 cs34, .int .i64 v32.1.Q.Sign, .slice as35 ns35 cs35], .box b3 26 [.int .i64 b1.P.Sign, .slice as3 ns3 cs3, .int .i64 b1.Q.Sign, .slice as4 ns4 cs4], .box b2 26 [.int .i64 ax1.P.Sign, .slice as1 ns1 cs1, .int .i64 ax1.Q.Sign, .slice as2 ns2 cs2]] w' ∧ Has 306 a [(2, .int .i64 p1), (5, .pointer (some ⟨b2, 0, none⟩)), (11, .bool v1), (16, .pointer (some ⟨b6, 0, none⟩)), (18, .pointer (some ⟨b7, 0, none⟩)), (20, .bool v11), (21, .bool v18), (22, .bool v25), (23, .bool v31), (249, .bool v37)]) ?_ (fun hK2 => ?_)
                 ·rintro a wx63 ⟨Fx29, hF29, hx54, hax17⟩
                  refine a4k hax17 ?_
                  refine d_tk 13 rfl (by kernel_rfl) rfl rfl rfl rfl (hx54.sh hF29 [0, 1, 2, 3, 4, 5] (by decide) rfl) (fun _ _ _ _ _ => a0e rfl rfl rfl (a0c (qq rfl))) ?_
                  obtain ⟨v38, hb19, hm⟩ := bind_some hm
                  refine b1i (fuel' := 22) (listed' := #[true, true, true, true, true, true, true, true, true, true, true, true, true, true, true, true, true, true, false, false, false, false, false, false, false, false, false, false, false, false, false, false, false, false, false, false, false, false, false, false]) (fun a w' => ∃ (Fx30 : Frz), Frz.le Fx29 Fx30 ∧ HS F w [] Fx30 [.box b7 26 [.int .i64 v35.1.P.Sign, .slice as40 ns40 cs40, .int .i64 v35.1.Q.Sign, .slice as41 ns41 cs41], .box b6 26 [.int .i64 v34.1.P.Sign, .slice as38 ns38 cs38, .int .i64 v34.1.Q.Sign, .slice as39 ns39 cs39], .box b5 26 [.int .i64 v33.1.P.Sign, .slice as36 ns36 cs36, .int .i64 v33.1.Q.Sign, .slice as37 ns37 cs37], .box b4 26 [.int .i64 v32.1.P.Sign, .slice as34 ns34 cs34, .int .i64 v32.1.Q.Sign, .slice as35 ns35 cs35], .box b3 26 [.int .i64 b1.P.Sign, .slice as3 ns3 cs3, .int .i64 b1.Q.Sign, .slice as4 ns4 cs4], .box b2 26 [.int .i64 ax1.P.Sign, .slice as1 ns1 cs1, .int .i64 ax1.Q.Sign, .slice as2 ns2 cs2]] w' ∧ Has 306 a [(2, .int .i64 p1), (5, .pointer (some ⟨b2, 0, none⟩)), (11, .bool v1), (20, .bool v11), (21, .bool v18), (22, .bool v25), (23, .bool v31), (254, .bool v38)]) ?_ (fun hK3 => ?_)
                  ·rintro a wx64 ⟨Fx30, hF30, hx55, hax18⟩
                   refine a4k hax18 ?_
                   refine d_tk 18 rfl (by kernel_rfl) rfl rfl rfl rfl (hx55.sh (hF29.trans hF30) [0, 1, 2, 3, 4, 5] (by decide) rfl) (fun _ _ _ _ _ => a0e rfl rfl rfl (a0c (qq rfl))) ?_
                   obtain ⟨v39, hb20, hm⟩ := bind_some hm
                   refine b1i (fuel' := 15) (listed' := #[true, true, true, true, true, true, true, true, true, true, true, true, true, true, true, true, true, true, true, true, true, true, true, true, true, false, false, false, false, false, false, false, false, false, false, false, false, false, false, false]) (fun a w' => ∃ (Fx31 : Frz), Frz.le Fx30 Fx31 ∧ HS F w [] Fx31 [.box b7 26 [.int .i64 v35.1.P.Sign, .slice as40 ns40 cs40, .int .i64 v35.1.Q.Sign, .slice as41 ns41 cs41], .box b6 26 [.int .i64 v34.1.P.Sign, .slice as38 ns38 cs38, .int .i64 v34.1.Q.Sign, .slice as39 ns39 cs39], .box b5 26 [.int .i64 v33.1.P.Sign, .slice as36 ns36 cs36, .int .i64 v33.1.Q.Sign, .slice as37 ns37 cs37], .box b4 26 [.int .i64 v32.1.P.Sign, .slice as34 ns34 cs34, .int .i64 v32.1.Q.Sign, .slice as35 ns35 cs35], .box b3 26 [.int .i64 b1.P.Sign, .slice as3 ns3 cs3, .int .i64 b1.Q.Sign, .slice as4 ns4 cs4], .box b2 26 [.int .i64 ax1.P.Sign, .slice as1 ns1 cs1, .int .i64 ax1.Q.Sign, .slice as2 ns2 cs2]] w' ∧ Has 306 a [(2, .int .i64 p1), (5, .pointer (some ⟨b2, 0, none⟩)), (11, .bool v1), (20, .bool v11), (21, .bool v18), (22, .bool v25), (23, .bool v31), (261, .bool v39)]) ?_ (fun hK4 => ?_)
                   ·rintro a wx65 ⟨Fx31, hF31, hx56, hax19⟩
                    refine a4k hax19 ?_
                    refine d_tk 25 rfl (by kernel_rfl) rfl rfl rfl rfl (hx56.sh ((hF29.trans hF30).trans hF31) [0, 1, 2, 3, 4, 5] (by decide) rfl) (fun _ _ _ _ _ => a0e rfl rfl rfl (a0c (qq rfl))) ?_
                    obtain ⟨v40, hb21, hm⟩ := bind_some hm
                    refine b1i (fuel' := 8) (listed' := #[true, true, true, true, true, true, true, true, true, true, true, true, true, true, true, true, true, true, true, true, true, true, true, true, true, true, true, true, true, true, true, true, false, false, false, false, false, false, false, false]) (fun a w' => ∃ (Fx32 : Frz), Frz.le Fx31 Fx32 ∧ HS F w [] Fx32 [.box b7 26 [.int .i64 v35.1.P.Sign, .slice as40 ns40 cs40, .int .i64 v35.1.Q.Sign, .slice as41 ns41 cs41], .box b6 26 [.int .i64 v34.1.P.Sign, .slice as38 ns38 cs38, .int .i64 v34.1.Q.Sign, .slice as39 ns39 cs39], .box b5 26 [.int .i64 v33.1.P.Sign, .slice as36 ns36 cs36, .int .i64 v33.1.Q.Sign, .slice as37 ns37 cs37], .box b4 26 [.int .i64 v32.1.P.Sign, .slice as34 ns34 cs34, .int .i64 v32.1.Q.Sign, .slice as35 ns35 cs35], .box b3 26 [.int .i64 b1.P.Sign, .slice as3 ns3 cs3, .int .i64 b1.Q.Sign, .slice as4 ns4 cs4], .box b2 26 [.int .i64 ax1.P.Sign, .slice as1 ns1 cs1, .int .i64 ax1.Q.Sign, .slice as2 ns2 cs2]] w' ∧ Has 306 a [(2, .int .i64 p1), (5, .pointer (some ⟨b2, 0, none⟩)), (11, .bool v1), (20, .bool v11), (21, .bool v18), (22, .bool v25), (23, .bool v31), (268, .bool v40)]) ?_ (fun hK5 => ?_)
                    ·rintro a wx66 ⟨Fx32, hF32, hx57, hax20⟩
                     refine a4k hax20 ?_
                     refine d_tk 32 rfl (by kernel_rfl) rfl rfl rfl rfl (hx57.sh (((hF29.trans hF30).trans hF31).trans hF32) [0, 1, 2, 3, 4, 5] (by decide) rfl) (fun _ _ _ _ _ => a0e rfl rfl rfl (a0c (qq rfl))) ?_
                     obtain ⟨v41, hb22, hm⟩ := bind_some hm
                     refine b1i (fuel' := 1) (listed' := #[true, true, true, true, true, true, true, true, true, true, true, true, true, true, true, true, true, true, true, true, true, true, true, true, true, true, true, true, true, true, true, true, true, true, true, true, true, true, true, false]) (fun a w' => ∃ (Fx33 : Frz), Frz.le Fx32 Fx33 ∧ HS F w [] Fx33 [.box b7 26 [.int .i64 v35.1.P.Sign, .slice as40 ns40 cs40, .int .i64 v35.1.Q.Sign, .slice as41 ns41 cs41], .box b6 26 [.int .i64 v34.1.P.Sign, .slice as38 ns38 cs38, .int .i64 v34.1.Q.Sign, .slice as39 ns39 cs39], .box b5 26 [.int .i64 v33.1.P.Sign, .slice as36 ns36 cs36, .int .i64 v33.1.Q.Sign, .slice as37 ns37 cs37], .box b4 26 [.int .i64 v32.1.P.Sign, .slice as34 ns34 cs34, .int .i64 v32.1.Q.Sign, .slice as35 ns35 cs35], .box b3 26 [.int .i64 b1.P.Sign, .slice as3 ns3 cs3, .int .i64 b1.Q.Sign, .slice as4 ns4 cs4], .box b2 26 [.int .i64 ax1.P.Sign, .slice as1 ns1 cs1, .int .i64 ax1.Q.Sign, .slice as2 ns2 cs2]] w' ∧ Has 306 a [(5, .pointer (some ⟨b2, 0, none⟩)), (11, .bool v1), (20, .bool v11), (21, .bool v18), (22, .bool v25), (23, .bool v31), (275, .bool v41)]) ?_ (fun hK6 => ?_)
                     ·rintro a wx67 ⟨Fx33, hF33, hx58, hax21⟩
                      refine a4k hax21 ?_
                      refine d_tk 39 rfl (by kernel_rfl) rfl rfl rfl rfl (hx58.sh ((((hF29.trans hF30).trans hF31).trans hF32).trans hF33) [0, 1, 2, 3, 4, 5] (by decide) rfl) (fun _ _ _ _ _ => a0b rfl rfl rfl (a0c (qq rfl))) ?_
                      refine a3v (by kernel_rfl) ?_
                      refine a0d (a0f ?_)
                      refine a2m (SH Fx33 [.box b7 26 [.int .i64 v35.1.P.Sign, .slice as40 ns40 cs40, .int .i64 v35.1.Q.Sign, .slice as41 ns41 cs41], .box b6 26 [.int .i64 v34.1.P.Sign, .slice as38 ns38 cs38, .int .i64 v34.1.Q.Sign, .slice as39 ns39 cs39], .box b5 26 [.int .i64 v33.1.P.Sign, .slice as36 ns36 cs36, .int .i64 v33.1.Q.Sign, .slice as37 ns37 cs37], .box b4 26 [.int .i64 v32.1.P.Sign, .slice as34 ns34 cs34, .int .i64 v32.1.Q.Sign, .slice as35 ns35 cs35], .box b3 26 [.int .i64 b1.P.Sign, .slice as3 ns3 cs3, .int .i64 b1.Q.Sign, .slice as4 ns4 cs4], .box b2 26 [.int .i64 ax1.P.Sign, .slice as1 ns1 cs1, .int .i64 ax1.Q.Sign, .slice as2 ns2 cs2]]) 31 rfl (by kernel_rfl) hx58 ?_
                      intro wx68 hx59
                      refine d_tk 0 rfl (by kernel_rfl) rfl rfl rfl rfl (hx59.sh (Frz.refl _) [0, 1, 2, 3, 4, 5] (by decide) rfl) (fun _ _ _ _ _ => a0e rfl rfl rfl (a0c (qq rfl))) ?_
                      refine d_tk 1 rfl (by kernel_rfl) rfl rfl rfl rfl (hx59.sh (Frz.refl _) [0, 1, 2, 3, 4, 5] (by decide) rfl) (fun _ _ _ _ _ => a0e rfl rfl rfl (a0c (qq rfl))) ?_
                      obtain ⟨v42, hb23, hm⟩ := bind_some hm
                      refine b1i (fuel' := 27) (listed' := #[true, true, true, true, false, false, false, false, false, false, false, false, false, false, false, false, false, false, false, false, false, false, false, false, false, false, false, false, false, false, false]) (fun a w' => wx68 = w' ∧ Has 306 a [(5, .pointer (some ⟨b2, 0, none⟩)), (21, .bool v18), (22, .bool v25), (23, .bool v31), (24, .bool v41), (279, .bool v42)]) ?_ (fun hK7 => ?_)
                      ·rintro a wx69 ⟨rfl, hax22⟩
                       refine a4k hax22 ?_
                       refine d_tk 4 rfl (by kernel_rfl) rfl rfl rfl rfl (hx59.sh (Frz.refl _) [0, 1, 2, 3, 4, 5] (by decide) rfl) (fun _ _ _ _ _ => a0e rfl rfl rfl (a0c (qq rfl))) ?_
                       obtain ⟨v43, hb24, hm⟩ := bind_some hm
                       refine b1i (fuel' := 24) (listed' := #[true, true, true, true, true, true, true, false, false, false, false, false, false, false, false, false, false, false, false, false, false, false, false, false, false, false, false, false, false, false, false]) (fun a w' => wx68 = w' ∧ Has 306 a [(5, .pointer (some ⟨b2, 0, none⟩)), (22, .bool v25), (23, .bool v31), (24, .bool v41), (282, .bool v43)]) ?_ (fun hK8 => ?_)
                       ·rintro a wx70 ⟨rfl, hax23⟩
                        refine a4k hax23 ?_
                        refine d_tk 7 rfl (by kernel_rfl) rfl rfl rfl rfl (hx59.sh (Frz.refl _) [0, 1, 2, 3, 4, 5] (by decide) rfl) (fun _ _ _ _ _ => a0e rfl rfl rfl (a0c (qq rfl))) ?_
                        obtain ⟨v44, hb25, hm⟩ := bind_some hm
                        refine b1i (fuel' := 21) (listed' := #[true, true, true, true, true, true, true, true, true, true, false, false, false, false, false, false, false, false, false, false, false, false, false, false, false, false, false, false, false, false, false]) (fun a w' => wx68 = w' ∧ Has 306 a [(5, .pointer (some ⟨b2, 0, none⟩)), (23, .bool v31), (24, .bool v41), (285, .bool v44)]) ?_ (fun hK9 => ?_)
                        ·rintro a wx71 ⟨rfl, hax24⟩
                         refine a4k hax24 ?_
                         refine d_tk 10 rfl (by kernel_rfl) rfl rfl rfl rfl (hx59.sh (Frz.refl _) [0, 1, 2, 3, 4, 5] (by decide) rfl) (fun _ _ _ _ _ => a0e rfl rfl rfl (a0c (qq rfl))) ?_
                         obtain ⟨v45, hb26, hm⟩ := bind_some hm
                         refine b1i (fuel' := 18) (listed' := #[true, true, true, true, true, true, true, true, true, true, true, true, true, false, false, false, false, false, false, false, false, false, false, false, false, false, false, false, false, false, false]) (fun a w' => wx68 = w' ∧ Has 306 a [(5, .pointer (some ⟨b2, 0, none⟩)), (24, .bool v41), (288, .bool v45)]) ?_ (fun hK10 => ?_)
                         ·rintro a wx72 ⟨rfl, hax25⟩
                          refine a4k hax25 ?_
                          refine d_tk 13 rfl (by kernel_rfl) rfl rfl rfl rfl (hx59.sh (Frz.refl _) [0, 1, 2, 3, 4, 5] (by decide) rfl) (fun _ _ _ _ _ => a0e rfl rfl rfl (a0c (qq rfl))) ?_
                          obtain ⟨v46, hb27, hm⟩ := bind_some hm
                          refine b1i (fuel' := 15) (listed' := #[true, true, true, true, true, true, true, true, true, true, true, true, true, true, true, true, false, false, false, false, false, false, false, false, false, false, false, false, false, false, false]) (fun a w' => wx68 = w' ∧ Has 306 a [(5, .pointer (some ⟨b2, 0, none⟩)), (291, .bool v46)]) ?_ (fun hK11 => ?_)
                          ·rintro a wx73 ⟨rfl, hax26⟩
                           refine a4k hax26 ?_
                           refine d_tk 16 rfl (by kernel_rfl) rfl rfl rfl rfl (hx59.sh (Frz.refl _) [0, 1, 2, 3, 4, 5] (by decide) rfl) (fun _ _ _ _ _ => a0e rfl rfl rfl (a0c (qq rfl))) ?_
                           obtain ⟨v47, hb28, hm⟩ := bind_some hm
                           refine b1i (fuel' := 8) (listed' := #[true, true, true, true, true, true, true, true, true, true, true, true, true, true, true, true, true, true, true, true, true, true, true, false, false, false, false, false, false, false, false]) (fun a w' => ∃ (Fx34 : Frz), Frz.le Fx33 Fx34 ∧ HS F w [] Fx34 [.box b7 26 [.int .i64 v35.1.P.Sign, .slice as40 ns40 cs40, .int .i64 v35.1.Q.Sign, .slice as41 ns41 cs41], .box b6 26 [.int .i64 v34.1.P.Sign, .slice as38 ns38 cs38, .int .i64 v34.1.Q.Sign, .slice as39 ns39 cs39], .box b5 26 [.int .i64 v33.1.P.Sign, .slice as36 ns36 cs36, .int .i64 v33.1.Q.Sign, .slice as37 ns37 cs37], .box b4 26 [.int .i64 v32.1.P.Sign, .slice as34 ns34 cs34, .int .i64 v32.1.Q.Sign, .slice as35 ns35 cs35], .box b3 26 [.int .i64 b1.P.Sign, .slice as3 ns3 cs3, .int .i64 b1.Q.Sign, .slice as4 ns4 cs4], .box b2 26 [.int .i64 ax1.P.Sign, .slice as1 ns1 cs1, .int .i64 ax1.Q.Sign, .slice as2 ns2 cs2]] w' ∧ Has 306 a [(5, .pointer (some ⟨b2, 0, none⟩)), (298, .bool v47)]) ?_ (fun hK12 => ?_)
                           ·rintro a wx74 ⟨Fx34, hF34, hx60, hax27⟩
                            refine a4k hax27 ?_
                            refine d_tk 23 rfl (by kernel_rfl) rfl rfl rfl rfl (hx60.sh hF34 [0, 1, 2, 3, 4, 5] (by decide) rfl) (fun _ _ _ _ _ => a0e rfl rfl rfl (a0c (qq rfl))) ?_
                            obtain ⟨v48, hb29, hm⟩ := bind_some hm
                            refine b1i (fuel' := 1) (listed' := #[true, true, true, true, true, true, true, true, true, true, true, true, true, true, true, true, true, true, true, true, true, true, true, true, true, true, true, true, true, true, false]) (fun a w' => ∃ (Fx35 : Frz), Frz.le Fx34 Fx35 ∧ HS F w [] Fx35 [.box b7 26 [.int .i64 v35.1.P.Sign, .slice as40 ns40 cs40, .int .i64 v35.1.Q.Sign, .slice as41 ns41 cs41], .box b6 26 [.int .i64 v34.1.P.Sign, .slice as38 ns38 cs38, .int .i64 v34.1.Q.Sign, .slice as39 ns39 cs39], .box b5 26 [.int .i64 v33.1.P.Sign, .slice as36 ns36 cs36, .int .i64 v33.1.Q.Sign, .slice as37 ns37 cs37], .box b4 26 [.int .i64 v32.1.P.Sign, .slice as34 ns34 cs34, .int .i64 v32.1.Q.Sign, .slice as35 ns35 cs35], .box b3 26 [.int .i64 b1.P.Sign, .slice as3 ns3 cs3, .int .i64 b1.Q.Sign, .slice as4 ns4 cs4], .box b2 26 [.int .i64 ax1.P.Sign, .slice as1 ns1 cs1, .int .i64 ax1.Q.Sign, .slice as2 ns2 cs2]] w' ∧ Has 306 a [(305, .bool v48)]) ?_ (fun hK13 => ?_)
                            ·rintro a wx75 ⟨Fx35, hF35, hx61, hax28⟩
                             refine a4k hax28 ?_
                             refine d_tk 30 rfl (by kernel_rfl) rfl rfl rfl rfl (hx61.sh (hF34.trans hF35) [0, 1, 2, 3, 4, 5] (by decide) rfl) (fun _ _ _ _ _ => a0b rfl rfl rfl (a0c (qq rfl))) ?_
                             refine a3v (by kernel_rfl) ?_
                             refine a0d (a1d ?_)
                             refine a1p rfl rfl ?_
                             obtain rfl := Option.some.inj hm
                             exact ⟨_, _, _, rfl, hx61.pick [] (by decide) rfl, rfl, rfl⟩
                            clear hm
                            rcases a0i hb29 with ⟨hb30, hb29⟩ | ⟨hb30, hb29⟩
                            ·refine a5q 299 rfl hb30 ?_
                             refine d_tk 24 rfl (by kernel_rfl) rfl rfl rfl rfl (hx60.sh hF34 [0, 1, 2, 3, 4, 5] (by decide) rfl) (fun _ _ _ _ hq => a0k ag26 sz26 rfl rfl hq rfl (i := 5) rfl rfl (a0c (qq rfl))) ?_
                             refine d_tk 26 rfl (by kernel_rfl) rfl rfl rfl rfl (hx60.sh hF34 [0, 1, 2, 3, 4, 5] (by decide) rfl) (fun _ _ _ _ hq => a0k ag26 sz26 rfl rfl hq rfl (i := 5) rfl rfl (a0c (qq rfl))) ?_
                             refine a1c 25 rfl (by kernel_rfl) ?_
                             have hG6 := ((((((((hG5.trans hF26).trans hF27).trans hF28).trans hF29).trans hF30).trans hF31).trans hF32).trans hF33).trans hF34
                             obtain ⟨v49, hv21, hb29⟩ := bind_some hb29
                             refine a0g ent43 rfl rfl rfl rfl hx60 (b4y _ _ _ hv21 hx60.sat (hs1.mono hG6) (hs2.mono hG6)) ?_
                             rintro _ Fx36 _ wx76 hF36 hx62 ⟨as42, ns42, cs42, rfl, rfl, hs42⟩
                             refine a0w (hx62.sh (hF34.trans hF36) [0, 1, 2, 3, 4, 5] (by decide) rfl) ?_
                             refine a1c 27 rfl (by kernel_rfl) ?_
                             obtain ⟨v50, hv22, hb29⟩ := bind_some hb29
                             refine a0g ent44 rfl rfl rfl rfl hx62 (b8v _ _ _ hv22 hx62.sat ((hs1.mono hG6).mono hF36) ((hs2.mono hG6).mono hF36)) ?_
                             rintro _ Fx37 _ wx77 hF37 hx63 ⟨as43, ns43, cs43, rfl, rfl, hs43⟩
                             refine a0w (hx63.sh ((hF34.trans hF36).trans hF37) [0, 1, 2, 3, 4, 5] (by decide) rfl) ?_
                             refine a1c 28 rfl (by kernel_rfl) ?_
                             obtain ⟨v51, hv23, hb29⟩ := bind_some hb29
                             refine a0g ent42 rfl rfl rfl rfl hx63 (a7m _ _ _ _ hv23 hx63.sat (hs42.mono hF37) hs43) ?_
                             rintro _ Fx38 _ wx78 hF38 hx64 ⟨rfl, rfl⟩
                             refine a0w (hx64.sh (((hF34.trans hF36).trans hF37).trans hF38) [0, 1, 2, 3, 4, 5] (by decide) rfl) ?_
                             refine d_tk 29 rfl (by kernel_rfl) rfl rfl rfl rfl (hx64.sh (((hF34.trans hF36).trans hF37).trans hF38) [0, 1, 2, 3, 4, 5] (by decide) rfl) (fun _ _ _ _ _ => a0m rfl rfl rfl rfl (a0c (qq rfl))) ?_
                             refine a5p hK13 (by kernel_rfl) (fun a ha => ?_)
                             cases hb29
                             exact ⟨_, ((hF36.trans hF37).trans hF38), hx64.pick [0, 1, 2, 3, 4, 5] (by decide) rfl, ha.cut (l := [305]) rfl⟩
                            refine a5q 299 rfl hb30 ?_
                            refine d_of 24 rfl (by kernel_rfl) rfl rfl rfl (hx60.sh hF34 [0, 1, 2, 3, 4, 5] (by decide) rfl) ?_
                            refine d_of 25 rfl (by kernel_rfl) rfl rfl rfl (hx60.sh hF34 [0, 1, 2, 3, 4, 5] (by decide) rfl) ?_
                            refine d_of 26 rfl (by kernel_rfl) rfl rfl rfl (hx60.sh hF34 [0, 1, 2, 3, 4, 5] (by decide) rfl) ?_
                            refine d_of 27 rfl (by kernel_rfl) rfl rfl rfl (hx60.sh hF34 [0, 1, 2, 3, 4, 5] (by decide) rfl) ?_
                            refine d_of 28 rfl (by kernel_rfl) rfl rfl rfl (hx60.sh hF34 [0, 1, 2, 3, 4, 5] (by decide) rfl) ?_
                            refine d_tk 29 rfl (by kernel_rfl) rfl rfl rfl rfl (hx60.sh hF34 [0, 1, 2, 3, 4, 5] (by decide) rfl) (fun _ _ _ _ _ => a0l rfl rfl rfl rfl (a0c (qq rfl))) ?_
                            refine a5p hK13 (by kernel_rfl) (fun a ha => ?_)
                            cases hb29
                            exact ⟨_, Frz.refl _, hx60.pick [0, 1, 2, 3, 4, 5] (by decide) rfl, ha.cut (l := [305]) rfl⟩
                           clear hm
                           rcases a0i hb28 with ⟨hb31, hb28⟩ | ⟨hb31, hb28⟩
                           ·refine a5q 292 rfl hb31 ?_
                            refine d_tk 17 rfl (by kernel_rfl) rfl rfl rfl rfl (hx59.sh (Frz.refl _) [0, 1, 2, 3, 4, 5] (by decide) rfl) (fun _ _ _ _ hq => a0k ag26 sz26 rfl rfl hq rfl (i := 5) rfl rfl (a0c (qq rfl))) ?_
                            refine d_tk 19 rfl (by kernel_rfl) rfl rfl rfl rfl (hx59.sh (Frz.refl _) [0, 1, 2, 3, 4, 5] (by decide) rfl) (fun _ _ _ _ hq => a0k ag26 sz26 rfl rfl hq rfl (i := 5) rfl rfl (a0c (qq rfl))) ?_
                            refine a1c 18 rfl (by kernel_rfl) ?_
                            have hG7 := (((((((hG5.trans hF26).trans hF27).trans hF28).trans hF29).trans hF30).trans hF31).trans hF32).trans hF33
                            obtain ⟨v52, hv24, hb28⟩ := bind_some hb28
                            refine a0g ent40 rfl rfl rfl rfl hx59 (a5y _ _ _ hv24 hx59.sat (hs1.mono hG7) (hs2.mono hG7) (hg3.mono hG7)) ?_
                            rintro _ Fx39 _ wx79 hF39 hx65 ⟨rfl, rfl⟩
                            refine a0w (hx65.sh hF39 [0, 1, 2, 3, 4, 5] (by decide) rfl) ?_
                            refine a1c 20 rfl (by kernel_rfl) ?_
                            obtain ⟨v53, hv25, hb28⟩ := bind_some hb28
                            refine a0g ent41 rfl rfl rfl rfl hx65 (b4o _ _ _ hv25 hx65.sat ((hs1.mono hG7).mono hF39) ((hs2.mono hG7).mono hF39)) ?_
                            rintro _ Fx40 _ wx80 hF40 hx66 ⟨rfl, rfl⟩
                            refine a0w (hx66.sh (hF39.trans hF40) [0, 1, 2, 3, 4, 5] (by decide) rfl) ?_
                            refine d_tk 21 rfl (by kernel_rfl) rfl rfl rfl rfl (hx66.sh (hF39.trans hF40) [0, 1, 2, 3, 4, 5] (by decide) rfl) (fun _ _ _ _ _ => b2d rfl rfl rfl rfl rfl (a0c (qq rfl))) ?_
                            refine d_tk 22 rfl (by kernel_rfl) rfl rfl rfl rfl (hx66.sh (hF39.trans hF40) [0, 1, 2, 3, 4, 5] (by decide) rfl) (fun _ _ _ _ _ => a0m rfl rfl rfl rfl (a0c (qq rfl))) ?_
                            refine a5p hK12 (by kernel_rfl) (fun a ha => ?_)
                            cases hb28
                            exact ⟨_, (hF39.trans hF40), hx66.pick [0, 1, 2, 3, 4, 5] (by decide) rfl, ha.cut (l := [5, 298]) rfl⟩
                           refine a5q 292 rfl hb31 ?_
                           refine d_of 17 rfl (by kernel_rfl) rfl rfl rfl (hx59.sh (Frz.refl _) [0, 1, 2, 3, 4, 5] (by decide) rfl) ?_
                           refine d_of 18 rfl (by kernel_rfl) rfl rfl rfl (hx59.sh (Frz.refl _) [0, 1, 2, 3, 4, 5] (by decide) rfl) ?_
                           refine d_of 19 rfl (by kernel_rfl) rfl rfl rfl (hx59.sh (Frz.refl _) [0, 1, 2, 3, 4, 5] (by decide) rfl) ?_
                           refine d_of 20 rfl (by kernel_rfl) rfl rfl rfl (hx59.sh (Frz.refl _) [0, 1, 2, 3, 4, 5] (by decide) rfl) ?_
                           refine d_of 21 rfl (by kernel_rfl) rfl rfl rfl (hx59.sh (Frz.refl _) [0, 1, 2, 3, 4, 5] (by decide) rfl) ?_
                           refine d_tk 22 rfl (by kernel_rfl) rfl rfl rfl rfl (hx59.sh (Frz.refl _) [0, 1, 2, 3, 4, 5] (by decide) rfl) (fun _ _ _ _ _ => a0l rfl rfl rfl rfl (a0c (qq rfl))) ?_
                           refine a5p hK12 (by kernel_rfl) (fun a ha => ?_)
                           cases hb28
                           exact ⟨_, Frz.refl _, hx59.pick [0, 1, 2, 3, 4, 5] (by decide) rfl, ha.cut (l := [5, 298]) rfl⟩
                          clear hm
                          rcases a0i hb27 with ⟨hb32, hb27⟩ | ⟨hb32, hb27⟩
                          ·refine a5q 289 rfl hb32 ?_
                           refine d_tk 14 rfl (by kernel_rfl) rfl rfl rfl rfl (hx59.sh (Frz.refl _) [0, 1, 2, 3, 4, 5] (by decide) rfl) (fun _ _ _ _ _ => a0e rfl rfl rfl (a0c (qq rfl))) ?_
                           refine d_tk 15 rfl (by kernel_rfl) rfl rfl rfl rfl (hx59.sh (Frz.refl _) [0, 1, 2, 3, 4, 5] (by decide) rfl) (fun _ _ _ _ _ => a0m rfl rfl rfl rfl (a0c (qq rfl))) ?_
                           refine a5p hK11 (by kernel_rfl) (fun a ha => ?_)
                           cases hb27
                           exact ⟨rfl, ha.cut (l := [5, 291]) rfl⟩
                          refine a5q 289 rfl hb32 ?_
                          refine d_of 14 rfl (by kernel_rfl) rfl rfl rfl (hx59.sh (Frz.refl _) [0, 1, 2, 3, 4, 5] (by decide) rfl) ?_
                          refine d_tk 15 rfl (by kernel_rfl) rfl rfl rfl rfl (hx59.sh (Frz.refl _) [0, 1, 2, 3, 4, 5] (by decide) rfl) (fun _ _ _ _ _ => a0l rfl rfl rfl rfl (a0c (qq rfl))) ?_
                          refine a5p hK11 (by kernel_rfl) (fun a ha => ?_)
                          cases hb27
                          exact ⟨rfl, ha.cut (l := [5, 291]) rfl⟩
                         clear hm
                         rcases a0i hb26 with ⟨hb33, hb26⟩ | ⟨hb33, hb26⟩
                         ·refine a5q 286 rfl hb33 ?_
                          refine d_tk 11 rfl (by kernel_rfl) rfl rfl rfl rfl (hx59.sh (Frz.refl _) [0, 1, 2, 3, 4, 5] (by decide) rfl) (fun _ _ _ _ _ => a0e rfl rfl rfl (a0c (qq rfl))) ?_
                          refine d_tk 12 rfl (by kernel_rfl) rfl rfl rfl rfl (hx59.sh (Frz.refl _) [0, 1, 2, 3, 4, 5] (by decide) rfl) (fun _ _ _ _ _ => a0m rfl rfl rfl rfl (a0c (qq rfl))) ?_
                          refine a5p hK10 (by kernel_rfl) (fun a ha => ?_)
                          cases hb26
                          exact ⟨rfl, ha.cut (l := [5, 24, 288]) rfl⟩
                         refine a5q 286 rfl hb33 ?_
                         refine d_of 11 rfl (by kernel_rfl) rfl rfl rfl (hx59.sh (Frz.refl _) [0, 1, 2, 3, 4, 5] (by decide) rfl) ?_
                         refine d_tk 12 rfl (by kernel_rfl) rfl rfl rfl rfl (hx59.sh (Frz.refl _) [0, 1, 2, 3, 4, 5] (by decide) rfl) (fun _ _ _ _ _ => a0l rfl rfl rfl rfl (a0c (qq rfl))) ?_
                         refine a5p hK10 (by kernel_rfl) (fun a ha => ?_)
                         cases hb26
                         exact ⟨rfl, ha.cut (l := [5, 24, 288]) rfl⟩
                        clear hm
                        rcases a0i hb25 with ⟨hb34, hb25⟩ | ⟨hb34, hb25⟩
                        ·refine a5q 283 rfl hb34 ?_
                         refine d_tk 8 rfl (by kernel_rfl) rfl rfl rfl rfl (hx59.sh (Frz.refl _) [0, 1, 2, 3, 4, 5] (by decide) rfl) (fun _ _ _ _ _ => a0e rfl rfl rfl (a0c (qq rfl))) ?_
                         refine d_tk 9 rfl (by kernel_rfl) rfl rfl rfl rfl (hx59.sh (Frz.refl _) [0, 1, 2, 3, 4, 5] (by decide) rfl) (fun _ _ _ _ _ => a0m rfl rfl rfl rfl (a0c (qq rfl))) ?_
                         refine a5p hK9 (by kernel_rfl) (fun a ha => ?_)
                         cases hb25
                         exact ⟨rfl, ha.cut (l := [5, 23, 24, 285]) rfl⟩
                        refine a5q 283 rfl hb34 ?_
                        refine d_of 8 rfl (by kernel_rfl) rfl rfl rfl (hx59.sh (Frz.refl _) [0, 1, 2, 3, 4, 5] (by decide) rfl) ?_
                        refine d_tk 9 rfl (by kernel_rfl) rfl rfl rfl rfl (hx59.sh (Frz.refl _) [0, 1, 2, 3, 4, 5] (by decide) rfl) (fun _ _ _ _ _ => a0l rfl rfl rfl rfl (a0c (qq rfl))) ?_
                        refine a5p hK9 (by kernel_rfl) (fun a ha => ?_)
                        cases hb25
                        exact ⟨rfl, ha.cut (l := [5, 23, 24, 285]) rfl⟩
                       clear hm
                       rcases a0i hb24 with ⟨hb35, hb24⟩ | ⟨hb35, hb24⟩
                       ·refine a5q 280 rfl hb35 ?_
                        refine d_tk 5 rfl (by kernel_rfl) rfl rfl rfl rfl (hx59.sh (Frz.refl _) [0, 1, 2, 3, 4, 5] (by decide) rfl) (fun _ _ _ _ _ => a0e rfl rfl rfl (a0c (qq rfl))) ?_
                        refine d_tk 6 rfl (by kernel_rfl) rfl rfl rfl rfl (hx59.sh (Frz.refl _) [0, 1, 2, 3, 4, 5] (by decide) rfl) (fun _ _ _ _ _ => a0m rfl rfl rfl rfl (a0c (qq rfl))) ?_
                        refine a5p hK8 (by kernel_rfl) (fun a ha => ?_)
                        cases hb24
                        exact ⟨rfl, ha.cut (l := [5, 22, 23, 24, 282]) rfl⟩
                       refine a5q 280 rfl hb35 ?_
                       refine d_of 5 rfl (by kernel_rfl) rfl rfl rfl (hx59.sh (Frz.refl _) [0, 1, 2, 3, 4, 5] (by decide) rfl) ?_
                       refine d_tk 6 rfl (by kernel_rfl) rfl rfl rfl rfl (hx59.sh (Frz.refl _) [0, 1, 2, 3, 4, 5] (by decide) rfl) (fun _ _ _ _ _ => a0l rfl rfl rfl rfl (a0c (qq rfl))) ?_
                       refine a5p hK8 (by kernel_rfl) (fun a ha => ?_)
                       cases hb24
                       exact ⟨rfl, ha.cut (l := [5, 22, 23, 24, 282]) rfl⟩
                      clear hm
                      rcases a0i hb23 with ⟨hb36, hb23⟩ | ⟨hb36, hb23⟩
                      ·refine a5q 277 rfl hb36 ?_
                       refine d_tk 2 rfl (by kernel_rfl) rfl rfl rfl rfl (hx59.sh (Frz.refl _) [0, 1, 2, 3, 4, 5] (by decide) rfl) (fun _ _ _ _ _ => a0e rfl rfl rfl (a0c (qq rfl))) ?_
                       refine d_tk 3 rfl (by kernel_rfl) rfl rfl rfl rfl (hx59.sh (Frz.refl _) [0, 1, 2, 3, 4, 5] (by decide) rfl) (fun _ _ _ _ _ => a0m rfl rfl rfl rfl (a0c (qq rfl))) ?_
                       refine a5p hK7 (by kernel_rfl) (fun a ha => ?_)
                       cases hb23
                       exact ⟨rfl, ha.cut (l := [5, 21, 22, 23, 24, 279]) rfl⟩
                      refine a5q 277 rfl hb36 ?_
                      refine d_of 2 rfl (by kernel_rfl) rfl rfl rfl (hx59.sh (Frz.refl _) [0, 1, 2, 3, 4, 5] (by decide) rfl) ?_
                      refine d_tk 3 rfl (by kernel_rfl) rfl rfl rfl rfl (hx59.sh (Frz.refl _) [0, 1, 2, 3, 4, 5] (by decide) rfl) (fun _ _ _ _ _ => a0l rfl rfl rfl rfl (a0c (qq rfl))) ?_
                      refine a5p hK7 (by kernel_rfl) (fun a ha => ?_)
                      cases hb23
                      exact ⟨rfl, ha.cut (l := [5, 21, 22, 23, 24, 279]) rfl⟩
                     clear hm
                     rcases a0i hb22 with ⟨hb37, hb22⟩ | ⟨hb37, hb22⟩
                     ·refine a5q 269 rfl hb37 ?_
                      refine d_tk 33 rfl (by kernel_rfl) rfl rfl rfl rfl (hx57.sh (((hF29.trans hF30).trans hF31).trans hF32) [0, 1, 2, 3, 4, 5] (by decide) rfl) (fun _ _ _ _ _ => a0e rfl rfl rfl (a0c (qq rfl))) ?_
                      refine d_tk 35 rfl (by kernel_rfl) rfl rfl rfl rfl (hx57.sh (((hF29.trans hF30).trans hF31).trans hF32) [0, 1, 2, 3, 4, 5] (by decide) rfl) (fun _ _ _ _ _ => a0e rfl rfl rfl (a0c (qq rfl))) ?_
                      refine a1c 34 rfl (by kernel_rfl) ?_
                      obtain ⟨v54, hv26, hb22⟩ := bind_some hb22
                      refine a0g ent38 rfl rfl rfl rfl hx57 (b7e _ _ _ hv26 hx57.sat) ?_
                      rintro _ Fx41 _ wx81 hF41 hx67 ⟨as44, ns44, cs44, as45, ns45, cs45, rfl, rfl, hs44, hs45⟩
                      refine a0w (hx67.sh ((((hF29.trans hF30).trans hF31).trans hF32).trans hF41) [0, 1, 2, 3, 4, 5] (by decide) rfl) ?_
                      refine a1c 36 rfl (by kernel_rfl) ?_
                      obtain ⟨v55, hv27, hb22⟩ := bind_some hb22
                      refine a0g ent39 rfl rfl rfl rfl hx67 (c0o _ _ _ hv27 hx67.sat) ?_
                      rintro _ Fx42 _ wx82 hF42 hx68 ⟨as46, ns46, cs46, as47, ns47, cs47, rfl, rfl, hs46, hs47⟩
                      refine a0w (hx68.sh (((((hF29.trans hF30).trans hF31).trans hF32).trans hF41).trans hF42) [0, 1, 2, 3, 4, 5] (by decide) rfl) ?_
                      refine a1c 37 rfl (by kernel_rfl) ?_
                      obtain ⟨v56, hv28, hb22⟩ := bind_some hb22
                      refine a0g ent14 rfl rfl rfl rfl hx68 (a3c _ _ _ _ hv28 hx68.sat (hs44.mono hF42) (hs45.mono hF42) hs46 hs47) ?_
                      rintro _ Fx43 _ wx83 hF43 hx69 ⟨rfl, rfl⟩
                      refine a0w (hx69.sh ((((((hF29.trans hF30).trans hF31).trans hF32).trans hF41).trans hF42).trans hF43) [0, 1, 2, 3, 4, 5] (by decide) rfl) ?_
                      refine d_tk 38 rfl (by kernel_rfl) rfl rfl rfl rfl (hx69.sh ((((((hF29.trans hF30).trans hF31).trans hF32).trans hF41).trans hF42).trans hF43) [0, 1, 2, 3, 4, 5] (by decide) rfl) (fun _ _ _ _ _ => a0m rfl rfl rfl rfl (a0c (qq rfl))) ?_
                      refine a5p hK6 (by kernel_rfl) (fun a ha => ?_)
                      cases hb22
                      exact ⟨_, ((hF41.trans hF42).trans hF43), hx69.pick [0, 1, 2, 3, 4, 5] (by decide) rfl, ha.cut (l := [5, 11, 20, 21, 22, 23, 275]) rfl⟩
                     refine a5q 269 rfl hb37 ?_
                     refine d_of 33 rfl (by kernel_rfl) rfl rfl rfl (hx57.sh (((hF29.trans hF30).trans hF31).trans hF32) [0, 1, 2, 3, 4, 5] (by decide) rfl) ?_
                     refine d_of 34 rfl (by kernel_rfl) rfl rfl rfl (hx57.sh (((hF29.trans hF30).trans hF31).trans hF32) [0, 1, 2, 3, 4, 5] (by decide) rfl) ?_
                     refine d_of 35 rfl (by kernel_rfl) rfl rfl rfl (hx57.sh (((hF29.trans hF30).trans hF31).trans hF32) [0, 1, 2, 3, 4, 5] (by decide) rfl) ?_
                     refine d_of 36 rfl (by kernel_rfl) rfl rfl rfl (hx57.sh (((hF29.trans hF30).trans hF31).trans hF32) [0, 1, 2, 3, 4, 5] (by decide) rfl) ?_
                     refine d_of 37 rfl (by kernel_rfl) rfl rfl rfl (hx57.sh (((hF29.trans hF30).trans hF31).trans hF32) [0, 1, 2, 3, 4, 5] (by decide) rfl) ?_
                     refine d_tk 38 rfl (by kernel_rfl) rfl rfl rfl rfl (hx57.sh (((hF29.trans hF30).trans hF31).trans hF32) [0, 1, 2, 3, 4, 5] (by decide) rfl) (fun _ _ _ _ _ => a0l rfl rfl rfl rfl (a0c (qq rfl))) ?_
                     refine a5p hK6 (by kernel_rfl) (fun a ha => ?_)
                     cases hb22
                     exact ⟨_, Frz.refl _, hx57.pick [0, 1, 2, 3, 4, 5] (by decide) rfl, ha.cut (l := [5, 11, 20, 21, 22, 23, 275]) rfl⟩
                    clear hm
                    rcases a0i hb21 with ⟨hb38, hb21⟩ | ⟨hb38, hb21⟩
                    ·refine a5q 262 rfl hb38 ?_
                     refine d_tk 26 rfl (by kernel_rfl) rfl rfl rfl rfl (hx56.sh ((hF29.trans hF30).trans hF31) [0, 1, 2, 3, 4, 5] (by decide) rfl) (fun _ _ _ _ hq => a0k ag26 sz26 rfl rfl hq rfl (i := 5) rfl rfl (a0c (qq rfl))) ?_
                     refine d_tk 28 rfl (by kernel_rfl) rfl rfl rfl rfl (hx56.sh ((hF29.trans hF30).trans hF31) [0, 1, 2, 3, 4, 5] (by decide) rfl) (fun _ _ _ _ hq => a0k ag26 sz26 rfl rfl hq rfl (i := 5) rfl rfl (a0c (qq rfl))) ?_
                     refine a1c 27 rfl (by kernel_rfl) ?_
                     have hG8 := (((((hG5.trans hF26).trans hF27).trans hF28).trans hF29).trans hF30).trans hF31
                     obtain ⟨v57, hv29, hb21⟩ := bind_some hb21
                     refine a0g ent36 rfl rfl rfl rfl hx56 (b2p _ _ _ hv29 hx56.sat (hs1.mono hG8) (hs2.mono hG8)) ?_
                     rintro _ Fx44 _ wx84 hF44 hx70 ⟨rfl, rfl⟩
                     refine a0w (hx70.sh (((hF29.trans hF30).trans hF31).trans hF44) [0, 1, 2, 3, 4, 5] (by decide) rfl) ?_
                     refine a1c 29 rfl (by kernel_rfl) ?_
                     obtain ⟨v58, hv30, hb21⟩ := bind_some hb21
                     refine a0g ent37 rfl rfl rfl rfl hx70 (b9j _ _ _ hv30 hx70.sat ((hs1.mono hG8).mono hF44) ((hs2.mono hG8).mono hF44)) ?_
                     rintro _ Fx45 _ wx85 hF45 hx71 ⟨rfl, rfl⟩
                     refine a0w (hx71.sh ((((hF29.trans hF30).trans hF31).trans hF44).trans hF45) [0, 1, 2, 3, 4, 5] (by decide) rfl) ?_
                     refine d_tk 30 rfl (by kernel_rfl) rfl rfl rfl rfl (hx71.sh ((((hF29.trans hF30).trans hF31).trans hF44).trans hF45) [0, 1, 2, 3, 4, 5] (by decide) rfl) (fun _ _ _ _ _ => a0v rfl rfl rfl rfl rfl (a0c (qq rfl))) ?_
                     refine d_tk 31 rfl (by kernel_rfl) rfl rfl rfl rfl (hx71.sh ((((hF29.trans hF30).trans hF31).trans hF44).trans hF45) [0, 1, 2, 3, 4, 5] (by decide) rfl) (fun _ _ _ _ _ => a0m rfl rfl rfl rfl (a0c (qq rfl))) ?_
                     refine a5p hK5 (by kernel_rfl) (fun a ha => ?_)
                     cases hb21
                     exact ⟨_, (hF44.trans hF45), hx71.pick [0, 1, 2, 3, 4, 5] (by decide) rfl, ha.cut (l := [2, 5, 11, 20, 21, 22, 23, 268]) rfl⟩
                    refine a5q 262 rfl hb38 ?_
                    refine d_of 26 rfl (by kernel_rfl) rfl rfl rfl (hx56.sh ((hF29.trans hF30).trans hF31) [0, 1, 2, 3, 4, 5] (by decide) rfl) ?_
                    refine d_of 27 rfl (by kernel_rfl) rfl rfl rfl (hx56.sh ((hF29.trans hF30).trans hF31) [0, 1, 2, 3, 4, 5] (by decide) rfl) ?_
                    refine d_of 28 rfl (by kernel_rfl) rfl rfl rfl (hx56.sh ((hF29.trans hF30).trans hF31) [0, 1, 2, 3, 4, 5] (by decide) rfl) ?_
                    refine d_of 29 rfl (by kernel_rfl) rfl rfl rfl (hx56.sh ((hF29.trans hF30).trans hF31) [0, 1, 2, 3, 4, 5] (by decide) rfl) ?_
                    refine d_of 30 rfl (by kernel_rfl) rfl rfl rfl (hx56.sh ((hF29.trans hF30).trans hF31) [0, 1, 2, 3, 4, 5] (by decide) rfl) ?_
                    refine d_tk 31 rfl (by kernel_rfl) rfl rfl rfl rfl (hx56.sh ((hF29.trans hF30).trans hF31) [0, 1, 2, 3, 4, 5] (by decide) rfl) (fun _ _ _ _ _ => a0l rfl rfl rfl rfl (a0c (qq rfl))) ?_
                    refine a5p hK5 (by kernel_rfl) (fun a ha => ?_)
                    cases hb21
                    exact ⟨_, Frz.refl _, hx56.pick [0, 1, 2, 3, 4, 5] (by decide) rfl, ha.cut (l := [2, 5, 11, 20, 21, 22, 23, 268]) rfl⟩
                   clear hm
                   rcases a0i hb20 with ⟨hb39, hb20⟩ | ⟨hb39, hb20⟩
                   ·refine a5q 255 rfl hb39 ?_
                    refine d_tk 19 rfl (by kernel_rfl) rfl rfl rfl rfl (hx55.sh (hF29.trans hF30) [0, 1, 2, 3, 4, 5] (by decide) rfl) (fun _ _ _ _ hq => a0k ag26 sz26 rfl rfl hq rfl (i := 5) rfl rfl (a0c (qq rfl))) ?_
                    refine d_tk 21 rfl (by kernel_rfl) rfl rfl rfl rfl (hx55.sh (hF29.trans hF30) [0, 1, 2, 3, 4, 5] (by decide) rfl) (fun _ _ _ _ hq => a0k ag26 sz26 rfl rfl hq rfl (i := 5) rfl rfl (a0c (qq rfl))) ?_
                    refine a1c 20 rfl (by kernel_rfl) ?_
                    have hG9 := ((((hG5.trans hF26).trans hF27).trans hF28).trans hF29).trans hF30
                    obtain ⟨v59, hv31, hb20⟩ := bind_some hb20
                    refine a0g ent34 rfl rfl rfl rfl hx55 (b4d _ _ _ hv31 hx55.sat (hs1.mono hG9) (hs2.mono hG9)) ?_
                    rintro _ Fx46 _ wx86 hF46 hx72 ⟨as48, ns48, cs48, as49, ns49, cs49, rfl, rfl, hs48, hs49⟩
                    refine a0w (hx72.sh ((hF29.trans hF30).trans hF46) [0, 1, 2, 3, 4, 5] (by decide) rfl) ?_
                    refine a1c 22 rfl (by kernel_rfl) ?_
                    obtain ⟨v60, hv32, hb20⟩ := bind_some hb20
                    refine a0g ent35 rfl rfl rfl rfl hx72 (c1e _ _ _ hv32 hx72.sat ((hs1.mono hG9).mono hF46) ((hs2.mono hG9).mono hF46)) ?_
                    rintro _ Fx47 _ wx87 hF47 hx73 ⟨as50, ns50, cs50, as51, ns51, cs51, rfl, rfl, hs50, hs51⟩
                    refine a0w (hx73.sh (((hF29.trans hF30).trans hF46).trans hF47) [0, 1, 2, 3, 4, 5] (by decide) rfl) ?_
                    refine a1c 23 rfl (by kernel_rfl) ?_
                    obtain ⟨v61, hv33, hb20⟩ := bind_some hb20
                    refine a0g ent14 rfl rfl rfl rfl hx73 (a3c _ _ _ _ hv33 hx73.sat (hs48.mono hF47) (hs49.mono hF47) hs50 hs51) ?_
                    rintro _ Fx48 _ wx88 hF48 hx74 ⟨rfl, rfl⟩
                    refine a0w (hx74.sh ((((hF29.trans hF30).trans hF46).trans hF47).trans hF48) [0, 1, 2, 3, 4, 5] (by decide) rfl) ?_
                    refine d_tk 24 rfl (by kernel_rfl) rfl rfl rfl rfl (hx74.sh ((((hF29.trans hF30).trans hF46).trans hF47).trans hF48) [0, 1, 2, 3, 4, 5] (by decide) rfl) (fun _ _ _ _ _ => a0m rfl rfl rfl rfl (a0c (qq rfl))) ?_
                    refine a5p hK4 (by kernel_rfl) (fun a ha => ?_)
                    cases hb20
                    exact ⟨_, ((hF46.trans hF47).trans hF48), hx74.pick [0, 1, 2, 3, 4, 5] (by decide) rfl, ha.cut (l := [2, 5, 11, 20, 21, 22, 23, 261]) rfl⟩
                   refine a5q 255 rfl hb39 ?_
                   refine d_of 19 rfl (by kernel_rfl) rfl rfl rfl (hx55.sh (hF29.trans hF30) [0, 1, 2, 3, 4, 5] (by decide) rfl) ?_
                   refine d_of 20 rfl (by kernel_rfl) rfl rfl rfl (hx55.sh (hF29.trans hF30) [0, 1, 2, 3, 4, 5] (by decide) rfl) ?_
                   refine d_of 21 rfl (by kernel_rfl) rfl rfl rfl (hx55.sh (hF29.trans hF30) [0, 1, 2, 3, 4, 5] (by decide) rfl) ?_
                   refine d_of 22 rfl (by kernel_rfl) rfl rfl rfl (hx55.sh (hF29.trans hF30) [0, 1, 2, 3, 4, 5] (by decide) rfl) ?_
                   refine d_of 23 rfl (by kernel_rfl) rfl rfl rfl (hx55.sh (hF29.trans hF30) [0, 1, 2, 3, 4, 5] (by decide) rfl) ?_
                   refine d_tk 24 rfl (by kernel_rfl) rfl rfl rfl rfl (hx55.sh (hF29.trans hF30) [0, 1, 2, 3, 4, 5] (by decide) rfl) (fun _ _ _ _ _ => a0l rfl rfl rfl rfl (a0c (qq rfl))) ?_
                   refine a5p hK4 (by kernel_rfl) (fun a ha => ?_)
                   cases hb20
                   exact ⟨_, Frz.refl _, hx55.pick [0, 1, 2, 3, 4, 5] (by decide) rfl, ha.cut (l := [2, 5, 11, 20, 21, 22, 23, 261]) rfl⟩
                  clear hm
                  rcases a0i hb19 with ⟨hb40, hb19⟩ | ⟨hb40, hb19⟩
                  ·refine a5q 250 rfl hb40 ?_
                   refine d_tk 14 rfl (by kernel_rfl) rfl rfl rfl rfl (hx54.sh hF29 [0, 1, 2, 3, 4, 5] (by decide) rfl) (fun _ _ _ _ hq => a0k ag26 sz26 rfl rfl hq rfl (i := 1) rfl rfl (a0c (qq rfl))) ?_
                   refine d_tk 15 rfl (by kernel_rfl) rfl rfl rfl rfl (hx54.sh hF29 [0, 1, 2, 3, 4, 5] (by decide) rfl) (fun _ _ _ _ hq => a0k ag26 sz26 rfl rfl hq rfl (i := 0) rfl rfl (a0c (qq rfl))) ?_
                   refine a1c 16 rfl (by kernel_rfl) ?_
                   obtain ⟨v62, hv34, hb19⟩ := bind_some hb19
                   refine a0g ent14 rfl rfl rfl rfl hx54 (a3c _ _ _ _ hv34 hx54.sat ((hs38.mono hF28).mono hF29) ((hs39.mono hF28).mono hF29) (hs40.mono hF29) (hs41.mono hF29)) ?_
                   rintro _ Fx49 _ wx89 hF49 hx75 ⟨rfl, rfl⟩
                   refine a0w (hx75.sh (hF29.trans hF49) [0, 1, 2, 3, 4, 5] (by decide) rfl) ?_
                   refine d_tk 17 rfl (by kernel_rfl) rfl rfl rfl rfl (hx75.sh (hF29.trans hF49) [0, 1, 2, 3, 4, 5] (by decide) rfl) (fun _ _ _ _ _ => a0m rfl rfl rfl rfl (a0c (qq rfl))) ?_
                   refine a5p hK3 (by kernel_rfl) (fun a ha => ?_)
                   cases hb19
                   exact ⟨_, hF49, hx75.pick [0, 1, 2, 3, 4, 5] (by decide) rfl, ha.cut (l := [2, 5, 11, 20, 21, 22, 23, 254]) rfl⟩
                  refine a5q 250 rfl hb40 ?_
                  refine d_of 14 rfl (by kernel_rfl) rfl rfl rfl (hx54.sh hF29 [0, 1, 2, 3, 4, 5] (by decide) rfl) ?_
                  refine d_of 15 rfl (by kernel_rfl) rfl rfl rfl (hx54.sh hF29 [0, 1, 2, 3, 4, 5] (by decide) rfl) ?_
                  refine d_of 16 rfl (by kernel_rfl) rfl rfl rfl (hx54.sh hF29 [0, 1, 2, 3, 4, 5] (by decide) rfl) ?_
                  refine d_tk 17 rfl (by kernel_rfl) rfl rfl rfl rfl (hx54.sh hF29 [0, 1, 2, 3, 4, 5] (by decide) rfl) (fun _ _ _ _ _ => a0l rfl rfl rfl rfl (a0c (qq rfl))) ?_
                  refine a5p hK3 (by kernel_rfl) (fun a ha => ?_)
                  cases hb19
                  exact ⟨_, Frz.refl _, hx54.pick [0, 1, 2, 3, 4, 5] (by decide) rfl, ha.cut (l := [2, 5, 11, 20, 21, 22, 23, 254]) rfl⟩
                 clear hm
                 rcases a0i hb18 with ⟨hb41, hb18⟩ | ⟨hb41, hb18⟩
                 ·refine a5q 245 rfl hb41 ?_
                  refine d_tk 9 rfl (by kernel_rfl) rfl rfl rfl rfl (hx53.sh (Frz.refl _) [0, 1, 2, 3, 4, 5] (by decide) rfl) (fun _ _ _ _ hq => a0k ag26 sz26 rfl rfl hq rfl (i := 3) rfl rfl (a0c (qq rfl))) ?_
                  refine d_tk 10 rfl (by kernel_rfl) rfl rfl rfl rfl (hx53.sh (Frz.refl _) [0, 1, 2, 3, 4, 5] (by decide) rfl) (fun _ _ _ _ hq => a0k ag26 sz26 rfl rfl hq rfl (i := 2) rfl rfl (a0c (qq rfl))) ?_
                  refine a1c 11 rfl (by kernel_rfl) ?_
                  obtain ⟨v63, hv35, hb18⟩ := bind_some hb18
                  refine a0g ent14 rfl rfl rfl rfl hx53 (a3c _ _ _ _ hv35 hx53.sat (((hs34.mono hF26).mono hF27).mono hF28) (((hs35.mono hF26).mono hF27).mono hF28) ((hs36.mono hF27).mono hF28) ((hs37.mono hF27).mono hF28)) ?_
                  rintro _ Fx50 _ wx90 hF50 hx76 ⟨rfl, rfl⟩
                  refine a0w (hx76.sh hF50 [0, 1, 2, 3, 4, 5] (by decide) rfl) ?_
                  refine d_tk 12 rfl (by kernel_rfl) rfl rfl rfl rfl (hx76.sh hF50 [0, 1, 2, 3, 4, 5] (by decide) rfl) (fun _ _ _ _ _ => a0m rfl rfl rfl rfl (a0c (qq rfl))) ?_
                  refine a5p hK2 (by kernel_rfl) (fun a ha => ?_)
                  cases hb18
                  exact ⟨_, hF50, hx76.pick [0, 1, 2, 3, 4, 5] (by decide) rfl, ha.cut (l := [2, 5, 11, 16, 18, 20, 21, 22, 23, 249]) rfl⟩
                 refine a5q 245 rfl hb41 ?_
                 refine d_of 9 rfl (by kernel_rfl) rfl rfl rfl (hx53.sh (Frz.refl _) [0, 1, 2, 3, 4, 5] (by decide) rfl) ?_
                 refine d_of 10 rfl (by kernel_rfl) rfl rfl rfl (hx53.sh (Frz.refl _) [0, 1, 2, 3, 4, 5] (by decide) rfl) ?_
                 refine d_of 11 rfl (by kernel_rfl) rfl rfl rfl (hx53.sh (Frz.refl _) [0, 1, 2, 3, 4, 5] (by decide) rfl) ?_
                 refine d_tk 12 rfl (by kernel_rfl) rfl rfl rfl rfl (hx53.sh (Frz.refl _) [0, 1, 2, 3, 4, 5] (by decide) rfl) (fun _ _ _ _ _ => a0l rfl rfl rfl rfl (a0c (qq rfl))) ?_
                 refine a5p hK2 (by kernel_rfl) (fun a ha => ?_)
                 cases hb18
                 exact ⟨_, Frz.refl _, hx53.pick [0, 1, 2, 3, 4, 5] (by decide) rfl, ha.cut (l := [2, 5, 11, 16, 18, 20, 21, 22, 23, 249]) rfl⟩
                clear hm
                rcases a0i hb17 with ⟨hb42, hb17⟩ | ⟨hb42, hb17⟩
                ·refine a5q 240 rfl hb42 ?_
                 refine d_tk 4 rfl (by kernel_rfl) rfl rfl rfl rfl (hx53.sh (Frz.refl _) [0, 1, 2, 3, 4, 5] (by decide) rfl) (fun _ _ _ _ _ => a0e rfl rfl rfl (a0c (qq rfl))) ?_
                 refine d_tk 5 rfl (by kernel_rfl) rfl rfl rfl rfl (hx53.sh (Frz.refl _) [0, 1, 2, 3, 4, 5] (by decide) rfl) (fun _ _ _ _ _ => a0e rfl rfl rfl (a0c (qq rfl))) ?_
                 refine d_tk 6 rfl (by kernel_rfl) rfl rfl rfl rfl (hx53.sh (Frz.refl _) [0, 1, 2, 3, 4, 5] (by decide) rfl) (fun _ _ _ _ _ => a0v rfl rfl rfl rfl rfl (a0c (qq rfl))) ?_
                 refine d_tk 7 rfl (by kernel_rfl) rfl rfl rfl rfl (hx53.sh (Frz.refl _) [0, 1, 2, 3, 4, 5] (by decide) rfl) (fun _ _ _ _ _ => a0m rfl rfl rfl rfl (a0c (qq rfl))) ?_
                 refine a5p hK1 (by kernel_rfl) (fun a ha => ?_)
                 cases hb17
                 exact ⟨rfl, ha.cut (l := [2, 5, 11, 12, 14, 16, 18, 20, 21, 22, 23, 244]) rfl⟩
                refine a5q 240 rfl hb42 ?_
                refine d_of 4 rfl (by kernel_rfl) rfl rfl rfl (hx53.sh (Frz.refl _) [0, 1, 2, 3, 4, 5] (by decide) rfl) ?_
                refine d_of 5 rfl (by kernel_rfl) rfl rfl rfl (hx53.sh (Frz.refl _) [0, 1, 2, 3, 4, 5] (by decide) rfl) ?_
                refine d_of 6 rfl (by kernel_rfl) rfl rfl rfl (hx53.sh (Frz.refl _) [0, 1, 2, 3, 4, 5] (by decide) rfl) ?_
                refine d_tk 7 rfl (by kernel_rfl) rfl rfl rfl rfl (hx53.sh (Frz.refl _) [0, 1, 2, 3, 4, 5] (by decide) rfl) (fun _ _ _ _ _ => a0l rfl rfl rfl rfl (a0c (qq rfl))) ?_
                refine a5p hK1 (by kernel_rfl) (fun a ha => ?_)
                cases hb17
                exact ⟨rfl, ha.cut (l := [2, 5, 11, 12, 14, 16, 18, 20, 21, 22, 23, 244]) rfl⟩
               clear hm
               rcases a0i hb16 with ⟨hb43, hb16⟩ | ⟨hb43, hb16⟩
               ·refine b6i 204 rfl hb43 ?_
                refine a1h rfl rfl rfl rfl (fun _ _ _ hq => a0k ag26 sz26 rfl rfl hq rfl (i := 5) rfl rfl (a0c (qq rfl))) ?_
                refine a1h rfl rfl rfl rfl (fun _ _ _ hq => a0k ag26 sz26 rfl rfl hq rfl (i := 4) rfl rfl (a0c (qq rfl))) ?_
                obtain ⟨v64, hv36, hb16⟩ := bind_some hb16
                refine a7k ent29 rfl rfl rfl rfl (fun _ _ hleq hq => a8y _ _ _ _ hv36 hq.sat ((((hs1.mono hG4).mono hF22).mono hF23).mono hleq) ((((hs2.mono hG4).mono hF22).mono hF23).mono hleq) ((((hs3.mono hG4).mono hF22).mono hF23).mono hleq) ((((hs4.mono hG4).mono hF22).mono hF23).mono hleq)) ?_
                refine a1h rfl rfl rfl rfl (fun _ _ _ hq => a0k ag26 sz26 rfl rfl hq rfl (i := 5) rfl rfl (a0c (qq rfl))) ?_
                refine a1h rfl rfl rfl rfl (fun _ _ _ hq => a0k ag26 sz26 rfl rfl hq rfl (i := 4) rfl rfl (a0c (qq rfl))) ?_
                obtain ⟨v65, hv37, hb16⟩ := bind_some hb16
                refine a7k ent14 rfl rfl rfl rfl (fun _ _ hleq hq => a3c _ _ _ _ hv37 hq.sat ((((hs1.mono hG4).mono hF22).mono hF23).mono hleq) ((((hs2.mono hG4).mono hF22).mono hF23).mono hleq) ((((hs3.mono hG4).mono hF22).mono hF23).mono hleq) ((((hs4.mono hG4).mono hF22).mono hF23).mono hleq)) ?_
                refine a1h rfl rfl rfl rfl (fun _ _ _ _ => c9r u4 rfl rfl rfl rfl (a0c (qq rfl))) ?_
                refine a1h rfl rfl rfl rfl (fun _ _ _ _ => a0m rfl rfl rfl rfl (a0c (qq rfl))) ?_
                refine b6e (fun a ha => ?_)
                cases hb16
                exact ha.cut (l := [2, 5, 6, 11, 12, 14, 16, 18, 20, 21, 22, 212]) rfl
               refine b6i 204 rfl hb43 ?_
               refine a3t rfl rfl rfl (a3t rfl rfl rfl (a3t rfl rfl rfl (a3t rfl rfl rfl (a3t rfl rfl rfl (a3t rfl rfl rfl (a3t rfl rfl rfl ?_))))))
               refine a1h rfl rfl rfl rfl (fun _ _ _ _ => a0l rfl rfl rfl rfl (a0c (qq rfl))) ?_
               refine b6e (fun a ha => ?_)
               cases hb16
               exact ha.cut (l := [2, 5, 6, 11, 12, 14, 16, 18, 20, 21, 22, 212]) rfl
              clear hm
              rcases a0i hb15 with ⟨hb44, hb15⟩ | ⟨hb44, hb15⟩
              ·refine b6i 195 rfl hb44 ?_
               refine a1h rfl rfl rfl rfl (fun _ _ _ hq => a0k ag26 sz26 rfl rfl hq rfl (i := 5) rfl rfl (a0c (qq rfl))) ?_
               refine a1h rfl rfl rfl rfl (fun _ _ _ hq => a0k ag26 sz26 rfl rfl hq rfl (i := 4) rfl rfl (a0c (qq rfl))) ?_
               obtain ⟨v66, hv38, hb15⟩ := bind_some hb15
               refine a7k ent27 rfl rfl rfl rfl (fun _ _ hleq hq => a9t _ _ _ _ hv38 hq.sat ((((hs1.mono hG4).mono hF22).mono hF23).mono hleq) ((((hs2.mono hG4).mono hF22).mono hF23).mono hleq) ((((hs3.mono hG4).mono hF22).mono hF23).mono hleq) ((((hs4.mono hG4).mono hF22).mono hF23).mono hleq)) ?_
               refine a1h rfl rfl rfl rfl (fun _ _ _ hq => a0k ag26 sz26 rfl rfl hq rfl (i := 5) rfl rfl (a0c (qq rfl))) ?_
               refine a1h rfl rfl rfl rfl (fun _ _ _ hq => a0k ag26 sz26 rfl rfl hq rfl (i := 4) rfl rfl (a0c (qq rfl))) ?_
               obtain ⟨v67, hv39, hb15⟩ := bind_some hb15
               refine a7k ent28 rfl rfl rfl rfl (fun _ _ hleq hq => a9d _ _ _ _ hv39 hq.sat ((((hs1.mono hG4).mono hF22).mono hF23).mono hleq) ((((hs2.mono hG4).mono hF22).mono hF23).mono hleq) ((((hs3.mono hG4).mono hF22).mono hF23).mono hleq) ((((hs4.mono hG4).mono hF22).mono hF23).mono hleq)) ?_
               refine a1h rfl rfl rfl rfl (fun _ _ _ _ => a0v rfl rfl rfl rfl rfl (a0c (qq rfl))) ?_
               refine a1h rfl rfl rfl rfl (fun _ _ _ _ => a0m rfl rfl rfl rfl (a0c (qq rfl))) ?_
               refine b6e (fun a ha => ?_)
               cases hb15
               exact ha.cut (l := [2, 5, 6, 11, 12, 14, 16, 18, 20, 21, 22, 203]) rfl
              refine b6i 195 rfl hb44 ?_
              refine a3t rfl rfl rfl (a3t rfl rfl rfl (a3t rfl rfl rfl (a3t rfl rfl rfl (a3t rfl rfl rfl (a3t rfl rfl rfl (a3t rfl rfl rfl ?_))))))
              refine a1h rfl rfl rfl rfl (fun _ _ _ _ => a0l rfl rfl rfl rfl (a0c (qq rfl))) ?_
              refine b6e (fun a ha => ?_)
              cases hb15
              exact ha.cut (l := [2, 5, 6, 11, 12, 14, 16, 18, 20, 21, 22, 203]) rfl
             clear hm
             rcases a0i hb14 with ⟨hb45, hb14⟩ | ⟨hb45, hb14⟩
             ·refine b6i 188 rfl hb45 ?_
              refine a1h rfl rfl rfl rfl (fun _ _ _ hq => a0k ag26 sz26 rfl rfl hq rfl (i := 5) rfl rfl (a0c (qq rfl))) ?_
              obtain ⟨v68, hv40, hb14⟩ := bind_some hb14
              refine a7k ent25 rfl rfl rfl rfl (fun _ _ hleq hq => a2e _ _ _ hv40 hq.sat ((((hs1.mono hG4).mono hF22).mono hF23).mono hleq) ((((hs2.mono hG4).mono hF22).mono hF23).mono hleq)) ?_
              refine a1h rfl rfl rfl rfl (fun _ _ _ hq => a0k ag26 sz26 rfl rfl hq rfl (i := 5) rfl rfl (a0c (qq rfl))) ?_
              obtain ⟨v69, hv41, hb14⟩ := bind_some hb14
              refine a7k ent26 rfl rfl rfl rfl (fun _ _ hleq hq => a2b _ _ _ hv41 hq.sat ((((hs1.mono hG4).mono hF22).mono hF23).mono hleq) ((((hs2.mono hG4).mono hF22).mono hF23).mono hleq)) ?_
              refine a1h rfl rfl rfl rfl (fun _ _ _ _ => c9r u4 rfl rfl rfl rfl (a0c (qq rfl))) ?_
              refine a1h rfl rfl rfl rfl (fun _ _ _ _ => a0m rfl rfl rfl rfl (a0c (qq rfl))) ?_
              refine b6e (fun a ha => ?_)
              cases hb14
              exact ha.cut (l := [2, 5, 6, 11, 12, 14, 16, 18, 20, 21, 22, 194]) rfl
             refine b6i 188 rfl hb45 ?_
             refine a3t rfl rfl rfl (a3t rfl rfl rfl (a3t rfl rfl rfl (a3t rfl rfl rfl (a3t rfl rfl rfl ?_))))
             refine a1h rfl rfl rfl rfl (fun _ _ _ _ => a0l rfl rfl rfl rfl (a0c (qq rfl))) ?_
             refine b6e (fun a ha => ?_)
             cases hb14
             exact ha.cut (l := [2, 5, 6, 11, 12, 14, 16, 18, 20, 21, 22, 194]) rfl
            clear hm
            rcases a0i hb13 with ⟨hb46, hb13⟩ | ⟨hb46, hb13⟩
            ·refine b6i 183 rfl hb46 ?_
             refine a1h rfl rfl rfl rfl (fun _ _ _ hq => a0k ag26 sz26 rfl rfl hq rfl (i := 3) rfl rfl (a0c (qq rfl))) ?_
             refine a1h rfl rfl rfl rfl (fun _ _ _ hq => a0k ag26 sz26 rfl rfl hq rfl (i := 2) rfl rfl (a0c (qq rfl))) ?_
             obtain ⟨v70, hv42, hb13⟩ := bind_some hb13
             refine a7k ent14 rfl rfl rfl rfl (fun _ _ hleq hq => a3c _ _ _ _ hv42 hq.sat ((hs30.mono hF23).mono hleq) ((hs31.mono hF23).mono hleq) (hs32.mono hleq) (hs33.mono hleq)) ?_
             refine a1h rfl rfl rfl rfl (fun _ _ _ _ => a0m rfl rfl rfl rfl (a0c (qq rfl))) ?_
             refine b6e (fun a ha => ?_)
             cases hb13
             exact ha.cut (l := [2, 5, 6, 11, 12, 14, 16, 18, 20, 21, 22, 187]) rfl
            refine b6i 183 rfl hb46 ?_
            refine a3t rfl rfl rfl (a3t rfl rfl rfl (a3t rfl rfl rfl ?_))
            refine a1h rfl rfl rfl rfl (fun _ _ _ _ => a0l rfl rfl rfl rfl (a0c (qq rfl))) ?_
            refine b6e (fun a ha => ?_)
            cases hb13
            exact ha.cut (l := [2, 5, 6, 11, 12, 14, 16, 18, 20, 21, 22, 187]) rfl
           clear hm
           rcases a0i hb12 with ⟨hb47, hb12⟩ | ⟨hb47, hb12⟩
           ·refine a1e 159 rfl hb47 ?_
            refine a0k ag26 sz26 rfl rfl hx38 rfl (i := 1) rfl rfl ?_
            refine a0k ag26 sz26 rfl rfl hx38 rfl (i := 0) rfl rfl ?_
            obtain ⟨v71, hv43, hb12⟩ := bind_some hb12
            refine a0g ent14 rfl rfl rfl rfl hx38 (a3c _ _ _ _ hv43 hx38.sat ((hs26.mono hF19).mono hF20) ((hs27.mono hF19).mono hF20) (hs28.mono hF20) (hs29.mono hF20)) ?_
            rintro _ Fx51 _ wx91 hF51 hx77 ⟨rfl, rfl⟩
            refine a0m rfl rfl rfl rfl (a0c ?_)
            refine a0p (fun a ha => ?_)
            cases hb12
            exact ⟨_, hF51, hx77.pick [0, 1, 2, 3, 4, 5] (by decide) rfl, ha.cut (l := [2, 5, 6, 11, 12, 14, 16, 18, 20, 21, 163]) rfl⟩
           refine a1e 159 rfl hb47 ?_
           refine a0r rfl (by decide) rfl (a0r rfl (by decide) rfl (a0r rfl (by decide) rfl (a0l rfl rfl rfl rfl (a0c ?_))))
           refine a0p (fun a ha => ?_)
           cases hb12
           exact ⟨_, Frz.refl _, hx38.pick [0, 1, 2, 3, 4, 5] (by decide) rfl, ha.cut (l := [2, 5, 6, 11, 12, 14, 16, 18, 20, 21, 163]) rfl⟩
          clear hm
          rcases a0i hb11 with ⟨hb48, hb11⟩ | ⟨hb48, hb11⟩
          ·refine a1e 154 rfl hb48 ?_
           refine a0k ag26 sz26 rfl rfl hx37 rfl (i := 3) rfl rfl ?_
           refine a0k ag26 sz26 rfl rfl hx37 rfl (i := 2) rfl rfl ?_
           obtain ⟨v72, hv44, hb11⟩ := bind_some hb11
           refine a0g ent14 rfl rfl rfl rfl hx37 (a3c _ _ _ _ hv44 hx37.sat (((hs22.mono hF17).mono hF18).mono hF19) (((hs23.mono hF17).mono hF18).mono hF19) ((hs24.mono hF18).mono hF19) ((hs25.mono hF18).mono hF19)) ?_
           rintro _ Fx52 _ wx92 hF52 hx78 ⟨rfl, rfl⟩
           refine a0m rfl rfl rfl rfl (a0c ?_)
           refine a0p (fun a ha => ?_)
           cases hb11
           exact ⟨_, hF52, hx78.pick [0, 1, 2, 3, 4, 5] (by decide) rfl, ha.cut (l := [2, 5, 6, 11, 12, 14, 16, 18, 20, 21, 158]) rfl⟩
          refine a1e 154 rfl hb48 ?_
          refine a0r rfl (by decide) rfl (a0r rfl (by decide) rfl (a0r rfl (by decide) rfl (a0l rfl rfl rfl rfl (a0c ?_))))
          refine a0p (fun a ha => ?_)
          cases hb11
          exact ⟨_, Frz.refl _, hx37.pick [0, 1, 2, 3, 4, 5] (by decide) rfl, ha.cut (l := [2, 5, 6, 11, 12, 14, 16, 18, 20, 21, 158]) rfl⟩
         clear hm
         rcases a0i hb10 with ⟨hb49, hb10⟩ | ⟨hb49, hb10⟩
         ·refine a1e 149 rfl hb49 ?_
          refine a0e rfl rfl rfl (a0e rfl rfl rfl ?_)
          refine a0v rfl rfl rfl rfl rfl ?_
          refine a0m rfl rfl rfl rfl (a0c ?_)
          refine a0p (fun a ha => ?_)
          cases hb10
          exact ⟨rfl, ha.cut (l := [2, 5, 6, 11, 12, 14, 16, 18, 20, 21, 153]) rfl⟩
         refine a1e 149 rfl hb49 ?_
         refine a0r rfl (by decide) rfl (a0r rfl (by decide) rfl (a0r rfl (by decide) rfl (a0l rfl rfl rfl rfl (a0c ?_))))
         refine a0p (fun a ha => ?_)
         cases hb10
         exact ⟨rfl, ha.cut (l := [2, 5, 6, 11, 12, 14, 16, 18, 20, 21, 153]) rfl⟩
        clear hm
        rcases a0i hb9 with ⟨hb50, hb9⟩ | ⟨hb50, hb9⟩
        ·refine a1e 119 rfl hb50 ?_
         refine a0k ag26 sz26 rfl rfl hx28 rfl (i := 1) rfl rfl ?_
         refine a0k ag26 sz26 rfl rfl hx28 rfl (i := 0) rfl rfl ?_
         obtain ⟨v73, hv45, hb9⟩ := bind_some hb9
         refine a0g ent14 rfl rfl rfl rfl hx28 (a3c _ _ _ _ hv45 hx28.sat ((hs18.mono hF13).mono hF14) ((hs19.mono hF13).mono hF14) (hs20.mono hF14) (hs21.mono hF14)) ?_
         rintro _ Fx53 _ wx93 hF53 hx79 ⟨rfl, rfl⟩
         refine a0m rfl rfl rfl rfl (a0c ?_)
         refine a0p (fun a ha => ?_)
         cases hb9
         exact ⟨_, hF53, hx79.pick [0, 1, 2, 3, 4, 5] (by decide) rfl, ha.cut (l := [2, 3, 4, 5, 6, 11, 12, 14, 16, 18, 20, 123]) rfl⟩
        refine a1e 119 rfl hb50 ?_
        refine a0r rfl (by decide) rfl (a0r rfl (by decide) rfl (a0r rfl (by decide) rfl (a0l rfl rfl rfl rfl (a0c ?_))))
        refine a0p (fun a ha => ?_)
        cases hb9
        exact ⟨_, Frz.refl _, hx28.pick [0, 1, 2, 3, 4, 5] (by decide) rfl, ha.cut (l := [2, 3, 4, 5, 6, 11, 12, 14, 16, 18, 20, 123]) rfl⟩
       clear hm
       rcases a0i hb8 with ⟨hb51, hb8⟩ | ⟨hb51, hb8⟩
       ·refine a1e 114 rfl hb51 ?_
        refine a0k ag26 sz26 rfl rfl hx27 rfl (i := 3) rfl rfl ?_
        refine a0k ag26 sz26 rfl rfl hx27 rfl (i := 2) rfl rfl ?_
        obtain ⟨v74, hv46, hb8⟩ := bind_some hb8
        refine a0g ent14 rfl rfl rfl rfl hx27 (a3c _ _ _ _ hv46 hx27.sat (((hs14.mono hF11).mono hF12).mono hF13) (((hs15.mono hF11).mono hF12).mono hF13) ((hs16.mono hF12).mono hF13) ((hs17.mono hF12).mono hF13)) ?_
        rintro _ Fx54 _ wx94 hF54 hx80 ⟨rfl, rfl⟩
        refine a0m rfl rfl rfl rfl (a0c ?_)
        refine a0p (fun a ha => ?_)
        cases hb8
        exact ⟨_, hF54, hx80.pick [0, 1, 2, 3, 4, 5] (by decide) rfl, ha.cut (l := [2, 3, 4, 5, 6, 11, 12, 14, 16, 18, 20, 118]) rfl⟩
       refine a1e 114 rfl hb51 ?_
       refine a0r rfl (by decide) rfl (a0r rfl (by decide) rfl (a0r rfl (by decide) rfl (a0l rfl rfl rfl rfl (a0c ?_))))
       refine a0p (fun a ha => ?_)
       cases hb8
       exact ⟨_, Frz.refl _, hx27.pick [0, 1, 2, 3, 4, 5] (by decide) rfl, ha.cut (l := [2, 3, 4, 5, 6, 11, 12, 14, 16, 18, 20, 118]) rfl⟩
      clear hm
      rcases a0i hb7 with ⟨hb52, hb7⟩ | ⟨hb52, hb7⟩
      ·refine a1e 109 rfl hb52 ?_
       refine a0e rfl rfl rfl (a0e rfl rfl rfl ?_)
       refine a0v rfl rfl rfl rfl rfl ?_
       refine a0m rfl rfl rfl rfl (a0c ?_)
       refine a0p (fun a ha => ?_)
       cases hb7
       exact ⟨rfl, ha.cut (l := [2, 3, 4, 5, 6, 11, 12, 14, 16, 18, 20, 113]) rfl⟩
      refine a1e 109 rfl hb52 ?_
      refine a0r rfl (by decide) rfl (a0r rfl (by decide) rfl (a0r rfl (by decide) rfl (a0l rfl rfl rfl rfl (a0c ?_))))
      refine a0p (fun a ha => ?_)
      cases hb7
      exact ⟨rfl, ha.cut (l := [2, 3, 4, 5, 6, 11, 12, 14, 16, 18, 20, 113]) rfl⟩
     clear hm
     rcases a0i hb6 with ⟨hb53, hb6⟩ | ⟨hb53, hb6⟩
     ·refine a1e 77 rfl hb53 ?_
      refine a0k ag26 sz26 rfl rfl hx18 rfl (i := 1) rfl rfl ?_
      refine a0k ag26 sz26 rfl rfl hx18 rfl (i := 0) rfl rfl ?_
      obtain ⟨v75, hv47, hb6⟩ := bind_some hb6
      refine a0g ent14 rfl rfl rfl rfl hx18 (a3c _ _ _ _ hv47 hx18.sat ((hs10.mono hF7).mono hF8) ((hs11.mono hF7).mono hF8) (hs12.mono hF8) (hs13.mono hF8)) ?_
      rintro _ Fx55 _ wx95 hF55 hx81 ⟨rfl, rfl⟩
      refine a0m rfl rfl rfl rfl (a0c ?_)
      refine a0p (fun a ha => ?_)
      cases hb6
      exact ⟨_, hF55, hx81.pick [0, 1, 2, 3, 4, 5] (by decide) rfl, ha.cut (l := [2, 3, 4, 5, 6, 11, 12, 14, 16, 18, 81]) rfl⟩
     refine a1e 77 rfl hb53 ?_
     refine a0r rfl (by decide) rfl (a0r rfl (by decide) rfl (a0r rfl (by decide) rfl (a0l rfl rfl rfl rfl (a0c ?_))))
     refine a0p (fun a ha => ?_)
     cases hb6
     exact ⟨_, Frz.refl _, hx18.pick [0, 1, 2, 3, 4, 5] (by decide) rfl, ha.cut (l := [2, 3, 4, 5, 6, 11, 12, 14, 16, 18, 81]) rfl⟩
    clear hm
    rcases a0i hb5 with ⟨hb54, hb5⟩ | ⟨hb54, hb5⟩
    ·refine a1e 72 rfl hb54 ?_
     refine a0k ag26 sz26 rfl rfl hx17 rfl (i := 3) rfl rfl ?_
     refine a0k ag26 sz26 rfl rfl hx17 rfl (i := 2) rfl rfl ?_
     obtain ⟨v76, hv48, hb5⟩ := bind_some hb5
     refine a0g ent14 rfl rfl rfl rfl hx17 (a3c _ _ _ _ hv48 hx17.sat (((hs6.mono hF5).mono hF6).mono hF7) (((hs7.mono hF5).mono hF6).mono hF7) ((hs8.mono hF6).mono hF7) ((hs9.mono hF6).mono hF7)) ?_
     rintro _ Fx56 _ wx96 hF56 hx82 ⟨rfl, rfl⟩
     refine a0m rfl rfl rfl rfl (a0c ?_)
     refine a0p (fun a ha => ?_)
     cases hb5
     exact ⟨_, hF56, hx82.pick [0, 1, 2, 3, 4, 5] (by decide) rfl, ha.cut (l := [2, 3, 4, 5, 6, 11, 12, 14, 16, 18, 76]) rfl⟩
    refine a1e 72 rfl hb54 ?_
    refine a0r rfl (by decide) rfl (a0r rfl (by decide) rfl (a0r rfl (by decide) rfl (a0l rfl rfl rfl rfl (a0c ?_))))
    refine a0p (fun a ha => ?_)
    cases hb5
    exact ⟨_, Frz.refl _, hx17.pick [0, 1, 2, 3, 4, 5] (by decide) rfl, ha.cut (l := [2, 3, 4, 5, 6, 11, 12, 14, 16, 18, 76]) rfl⟩
   clear hm
   rcases a0i hb4 with ⟨hb55, hb4⟩ | ⟨hb55, hb4⟩
   ·refine a1e 67 rfl hb55 ?_
    refine a0e rfl rfl rfl (a0e rfl rfl rfl ?_)
    refine a0v rfl rfl rfl rfl rfl ?_
    refine a0m rfl rfl rfl rfl (a0c ?_)
    refine a0p (fun a ha => ?_)
    cases hb4
    exact ⟨rfl, ha.cut (l := [2, 3, 4, 5, 6, 11, 12, 14, 16, 18, 71]) rfl⟩
   refine a1e 67 rfl hb55 ?_
   refine a0r rfl (by decide) rfl (a0r rfl (by decide) rfl (a0r rfl (by decide) rfl (a0l rfl rfl rfl rfl (a0c ?_))))
   refine a0p (fun a ha => ?_)
   cases hb4
   exact ⟨rfl, ha.cut (l := [2, 3, 4, 5, 6, 11, 12, 14, 16, 18, 71]) rfl⟩
  clear hm
  rcases a0i hb2 with ⟨hb56, hb2⟩ | ⟨hb56, hb2⟩
  ·refine a1e 34 rfl hb56 ?_
   refine a0r rfl (by decide) rfl (a0r rfl (by decide) rfl (a0r rfl (by decide) rfl (a0m rfl rfl rfl rfl (a0c ?_))))
   refine a0p (fun a ha => ?_)
   cases hb2
   exact ⟨rfl, ha.cut (l := [2, 3, 4, 5, 6, 11, 38]) rfl⟩
  refine a1e 34 rfl hb56 ?_
  refine a0e rfl rfl rfl ?_
  refine a8k u9 rfl rfl rfl ?_
  refine a0v rfl rfl rfl rfl rfl ?_
  refine a0l rfl rfl rfl rfl (a0c ?_)
  refine a0p (fun a ha => ?_)
  cases hb2
  exact ⟨rfl, ha.cut (l := [2, 3, 4, 5, 6, 11, 38]) rfl⟩
 clear hm
 rcases a0i hb1 with ⟨hb57, hb1⟩ | ⟨hb57, hb1⟩
 ·refine a1e 29 rfl hb57 ?_
  refine a0r rfl (by decide) rfl (a0r rfl (by decide) rfl (a0r rfl (by decide) rfl (a0m rfl rfl rfl rfl (a0c ?_))))
  refine a0p (fun a ha => ?_)
  cases hb1
  exact ⟨_, Frz.refl _, hx4.pick [0, 1] (by decide) rfl, ha.cut (l := [2, 3, 4, 5, 6, 11, 33]) rfl⟩
 refine a1e 29 rfl hb57 ?_
 refine a0k ag26 sz26 rfl rfl hx4 rfl (i := 0) rfl rfl ?_
 obtain ⟨v77, hv49, hb1⟩ := bind_some hb1
 refine a0g ent9 rfl rfl rfl rfl hx4 (b5w _ _ _ _ hv49 hx4.sat ((hs3.mono hF1).mono hF2) ((hs4.mono hF1).mono hF2)) ?_
 rintro _ Fx57 _ wx97 hF57 hx83 ⟨rfl, rfl⟩
 refine a2x rfl rfl rfl (a0l rfl rfl rfl rfl (a0c ?_))
 refine a0p (fun a ha => ?_)
 cases hb1
 exact ⟨_, hF57, hx83.pick [0, 1] (by decide) rfl, ha.cut (l := [2, 3, 4, 5, 6, 11, 33]) rfl⟩
end Go.Proofs.YtaanocaobllohaaGreatDoor.M
