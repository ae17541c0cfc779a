/-
  THE MIRRORS of the fractions' and the big integers' functions, of their references and of the laws, and that each call returns what its mirror says. Printed by gen.py.
-/
import Derived.Test.YtaanocaobllohaaGreatDoorRows
import Derived.Test.YtaanocaobllohaaGreatDoorTrim
import Derived.Test.YtaanocaobllohaaGreatDoorExtC
import Derived.Test.YtaanocaobllohaaGreatDoorRtX
import Derived.Test.YtaanocaobllohaaGreatDoorMirF
namespace Go.Proofs.YtaanocaobllohaaGreatDoor.M
open Go Go.RowKit Rt
theorem ent12 : Ent Tryz.prog 12 := fun _ _ => by kernel_rfl
theorem ent15 : Ent Tryz.prog 15 := fun _ _ => by kernel_rfl
theorem ent17 : Ent Tryz.prog 17 := fun _ _ => by kernel_rfl
theorem ent21 : Ent Tryz.prog 21 := fun _ _ => by kernel_rfl
theorem ent51 : Ent Tryz.prog 51 := fun _ _ => by kernel_rfl
theorem ent14 : Ent Tryz.prog 14 := fun _ _ => by kernel_rfl
theorem ent43 : Ent Tryz.prog 43 := fun _ _ => by kernel_rfl
def a9x (n : Nat)  : Option Bool :=
 (a6w n 1 2).bind fun v1 =>
 (a6w n 1 3).bind fun v2 =>
 (b1c n 1 0).bind fun v3 =>
 (a9i n v1 v2).bind fun v4 =>
 (b0u n v1 v2).bind fun v5 =>
 (b0v n v1 v2).bind fun v6 =>
 (a8u n v1 v2).bind fun v7 =>
 (b0n n [50, 47, 52]).bind fun v8 =>
 (b0n n [45, 51, 47, 50]).bind fun v9 =>
 (a6w n 6 (-4)).bind fun v10 =>
 (a5e n v10).bind fun v11 =>
 (bif v11 == [45, 51, 47, 50] then
  (a6w n 0 7).bind fun v47 =>
  (a5e n v47).bind fun v48 =>
  some (v48 == [48, 47, 49])
 else
  some false).bind fun v12 =>
 (bif v12 then
  some (v3.2 == 14)
 else
  some false).bind fun v13 =>
 (bif v13 then
  some (v4.2 == 0)
 else
  some false).bind fun v14 =>
 (bif v14 then
  some (v5.2 == 0)
 else
  some false).bind fun v15 =>
 (bif v15 then
  some (v6.2 == 0)
 else
  some false).bind fun v16 =>
 (bif v16 then
  some (v7.2 == 0)
 else
  some false).bind fun v17 =>
 (bif v17 then
  (a5e n v4.1).bind fun v46 =>
  some (v46 == [53, 47, 54])
 else
  some false).bind fun v18 =>
 (bif v18 then
  (a5e n v5.1).bind fun v45 =>
  some (v45 == [49, 47, 54])
 else
  some false).bind fun v19 =>
 (bif v19 then
  (a5e n v6.1).bind fun v44 =>
  some (v44 == [49, 47, 54])
 else
  some false).bind fun v20 =>
 (bif v20 then
  (a5e n v7.1).bind fun v43 =>
  some (v43 == [51, 47, 50])
 else
  some false).bind fun v21 =>
 (bif v21 then
  (a6w n (-1) 2).bind fun v40 =>
  (a6w n (-1) 3).bind fun v41 =>
  (a5f n v40 v41).bind fun v42 =>
  some (v42 == (-1))
 else
  some false).bind fun v22 =>
 (bif v22 then
  (a6w n (-3) 2).bind fun v36 =>
  (a7r n v36).bind fun v37 =>
  (b0y n (-2)).bind fun v38 =>
  (a5i n v37 v38).bind fun v39 =>
  some v39
 else
  some false).bind fun v23 =>
 (bif v23 then
  some (v8.2 == 2)
 else
  some false).bind fun v24 =>
 (bif v24 then
  some (v9.2 == 0)
 else
  some false).bind fun v25 =>
 (bif v25 then
  (a6w n (-3) 2).bind fun v34 =>
  (a3j n v9.1 v34).bind fun v35 =>
  some v35
 else
  some false).bind fun v26 =>
 (bif v26 then
  (a2n n v1).bind fun v33 =>
  some v33
 else
  some false).bind fun v27 =>
 (bif v27 then
  (a2n n (⟨(⟨0, []⟩ : Big), (⟨0, []⟩ : Big)⟩ : Frac)).bind fun v32 =>
  some (!v32)
 else
  some false).bind fun v28 =>
 (bif v28 then
  (a6w n (-1) 2).bind fun v30 =>
  (b4e n v30 v2).bind fun v31 =>
  some v31
 else
  some false).bind fun v29 =>
 some v29
set_option maxHeartbeats 1000000 in
set_option maxRecDepth 1000000 in
theorem b8s (n : Nat)  (r : Bool) (hm : a9x n  = some r) {w : World} {F : Frz} (hs : Sat F w) (hg3 : FX F 3 (Lib.pow10Tab.map (Value.int .u64))) :
  Calls Tryz.prog 8 #[] w fun e w' => ∃ v F' O', e = .returned v ∧ HS F w [] F' O' w' ∧ (v = .bool r ∧ O' = []) := by
 unfold a9x at hm
 have h := HS.init hs
 refine a0x 144 Tryz.func8 rfl rfl rfl ?_
 refine a0f (a0a (a0b rfl rfl rfl (a0c (a0d (a0f (a0a ?_))))))
 obtain ⟨v1, hv1, hm⟩ := bind_some hm
 refine a0g ent46 rfl rfl rfl rfl h (a5b _ _ _ _ hv1 h.sat) ?_
 rintro _ Fx1 _ wx1 hF1 hx1 ⟨as1, ns1, cs1, as2, ns2, cs2, rfl, rfl, hs1, hs2⟩
 refine a0y ze26 rfl rfl rfl hx1 ?_
 intro b1 wx2 hx2
 refine a0o sz26 rfl hx2 rfl rfl rfl rfl (i := 0) rfl rfl rfl rfl ?_
 intro wx3 hx3
 refine a0c (a0d (a0f (a0a ?_)))
 obtain ⟨v2, hv2, hm⟩ := bind_some hm
 refine a0g ent46 rfl rfl rfl rfl hx3 (a5b _ _ _ _ hv2 hx3.sat) ?_
 rintro _ Fx2 _ wx4 hF2 hx4 ⟨as3, ns3, cs3, as4, ns4, cs4, rfl, rfl, hs3, hs4⟩
 refine a0y ze26 rfl rfl rfl hx4 ?_
 intro b2 wx5 hx5
 refine a0o sz26 rfl hx5 rfl rfl rfl rfl (i := 0) rfl rfl rfl rfl ?_
 intro wx6 hx6
 refine a0c (a0d (a0f (a0a ?_)))
 obtain ⟨v3, hv3, hm⟩ := bind_some hm
 refine a0g ent19 rfl rfl rfl rfl hx6 (b5j _ _ _ _ hv3 hx6.sat) ?_
 rintro _ Fx3 _ wx7 hF3 hx7 ⟨as5, ns5, cs5, as6, ns6, cs6, rfl, rfl, hs5, hs6⟩
 refine a0e rfl rfl rfl (a0j rfl rfl rfl rfl (a0j rfl rfl rfl rfl ?_))
 refine a0y ze26 rfl rfl rfl hx7 ?_
 intro b3 wx8 hx8
 refine a0o sz26 rfl hx8 rfl rfl rfl rfl (i := 0) rfl rfl rfl rfl ?_
 intro wx9 hx9
 refine a0b rfl rfl rfl (a0c (a0d (a0f (a0a ?_))))
 refine a0k ag26 sz26 rfl rfl hx9 rfl (i := 2) rfl rfl ?_
 refine a0k ag26 sz26 rfl rfl hx9 rfl (i := 1) rfl rfl ?_
 obtain ⟨v4, hv4, hm⟩ := bind_some hm
 refine a0g ent10 rfl rfl rfl rfl hx9 (b4m _ _ _ _ hv4 hx9.sat ((hs1.mono hF2).mono hF3) ((hs2.mono hF2).mono hF3) (hs3.mono hF3) (hs4.mono hF3)) ?_
 rintro _ Fx4 _ wx10 hF4 hx10 ⟨as7, ns7, cs7, as8, ns8, cs8, rfl, rfl, hs7, hs8⟩
 refine a0e rfl rfl rfl (a0j rfl rfl rfl rfl (a0j rfl rfl rfl rfl ?_))
 refine a0y ze26 rfl rfl rfl hx10 ?_
 intro b4 wx11 hx11
 refine a0o sz26 rfl hx11 rfl rfl rfl rfl (i := 0) rfl rfl rfl rfl ?_
 intro wx12 hx12
 refine a0b rfl rfl rfl (a0c (a0d (a0f (a0a ?_))))
 refine a0k ag26 sz26 rfl rfl hx12 rfl (i := 3) rfl rfl ?_
 refine a0k ag26 sz26 rfl rfl hx12 rfl (i := 2) rfl rfl ?_
 obtain ⟨v5, hv5, hm⟩ := bind_some hm
 refine a0g ent12 rfl rfl rfl rfl hx12 (b7g _ _ _ _ hv5 hx12.sat (((hs1.mono hF2).mono hF3).mono hF4) (((hs2.mono hF2).mono hF3).mono hF4) ((hs3.mono hF3).mono hF4) ((hs4.mono hF3).mono hF4)) ?_
 rintro _ Fx5 _ wx13 hF5 hx13 ⟨as9, ns9, cs9, as10, ns10, cs10, rfl, rfl, hs9, hs10⟩
 refine a0e rfl rfl rfl (a0j rfl rfl rfl rfl (a0j rfl rfl rfl rfl ?_))
 refine a0y ze26 rfl rfl rfl hx13 ?_
 intro b5 wx14 hx14
 refine a0o sz26 rfl hx14 rfl rfl rfl rfl (i := 0) rfl rfl rfl rfl ?_
 intro wx15 hx15
 refine a0b rfl rfl rfl (a0c (a0d (a0f (a0a ?_))))
 refine a0k ag26 sz26 rfl rfl hx15 rfl (i := 4) rfl rfl ?_
 refine a0k ag26 sz26 rfl rfl hx15 rfl (i := 3) rfl rfl ?_
 have hG1 := ((hF2.trans hF3).trans hF4).trans hF5
 obtain ⟨v6, hv6, hm⟩ := bind_some hm
 refine a0g ent15 rfl rfl rfl rfl hx15 (b7u _ _ _ _ hv6 hx15.sat (hs1.mono hG1) (hs2.mono hG1) (((hs3.mono hF3).mono hF4).mono hF5) (((hs4.mono hF3).mono hF4).mono hF5)) ?_
 rintro _ Fx6 _ wx16 hF6 hx16 ⟨as11, ns11, cs11, as12, ns12, cs12, rfl, rfl, hs11, hs12⟩
 refine a0e rfl rfl rfl (a0j rfl rfl rfl rfl (a0j rfl rfl rfl rfl ?_))
 refine a0y ze26 rfl rfl rfl hx16 ?_
 intro b6 wx17 hx17
 refine a0o sz26 rfl hx17 rfl rfl rfl rfl (i := 0) rfl rfl rfl rfl ?_
 intro wx18 hx18
 refine a0b rfl rfl rfl (a0c (a0d (a0f (a0a ?_))))
 refine a0k ag26 sz26 rfl rfl hx18 rfl (i := 5) rfl rfl ?_
 refine a0k ag26 sz26 rfl rfl hx18 rfl (i := 4) rfl rfl ?_
 have hG2 := ((hF3.trans hF4).trans hF5).trans hF6
 obtain ⟨v7, hv7, hm⟩ := bind_some hm
 refine a0g ent17 rfl rfl rfl rfl hx18 (b8e _ _ _ _ hv7 hx18.sat ((hs1.mono hG1).mono hF6) ((hs2.mono hG1).mono hF6) (hs3.mono hG2) (hs4.mono hG2)) ?_
 rintro _ Fx7 _ wx19 hF7 hx19 ⟨as13, ns13, cs13, as14, ns14, cs14, rfl, rfl, hs13, hs14⟩
 refine a0e rfl rfl rfl (a0j rfl rfl rfl rfl (a0j rfl rfl rfl rfl ?_))
 refine a0y ze26 rfl rfl rfl hx19 ?_
 intro b7 wx20 hx20
 refine a0o sz26 rfl hx20 rfl rfl rfl rfl (i := 0) rfl rfl rfl rfl ?_
 intro wx21 hx21
 refine a0b rfl rfl rfl (a0c (a0d (a0f (a0a ?_))))
 have hG3 := (((((hF1.trans hF2).trans hF3).trans hF4).trans hF5).trans hF6).trans hF7
 obtain ⟨v8, hv8, hm⟩ := bind_some hm
 refine a0g ent21 rfl rfl rfl rfl hx21 (b2l _ _ _ hv8 hx21.sat (hg3.mono hG3)) ?_
 rintro _ Fx8 _ wx22 hF8 hx22 ⟨as15, ns15, cs15, as16, ns16, cs16, rfl, rfl, hs15, hs16⟩
 refine a0e rfl rfl rfl (a0j rfl rfl rfl rfl (a0j rfl rfl rfl rfl ?_))
 refine a0y ze26 rfl rfl rfl hx22 ?_
 intro b8 wx23 hx23
 refine a0o sz26 rfl hx23 rfl rfl rfl rfl (i := 0) rfl rfl rfl rfl ?_
 intro wx24 hx24
 refine a0b rfl rfl rfl (a0c (a0d (a0f (a0a ?_))))
 obtain ⟨v9, hv9, hm⟩ := bind_some hm
 refine a0g ent21 rfl rfl rfl rfl hx24 (b2l _ _ _ hv9 hx24.sat ((hg3.mono hG3).mono hF8)) ?_
 rintro _ Fx9 _ wx25 hF9 hx25 ⟨as17, ns17, cs17, as18, ns18, cs18, rfl, rfl, hs17, hs18⟩
 refine a0e rfl rfl rfl (a0j rfl rfl rfl rfl (a0j rfl rfl rfl rfl ?_))
 refine a0y ze26 rfl rfl rfl hx25 ?_
 intro b9 wx26 hx26
 refine a0o sz26 rfl hx26 rfl rfl rfl rfl (i := 0) rfl rfl rfl rfl ?_
 intro wx27 hx27
 refine a0b rfl rfl rfl (a0c (a0d (a0f (a0a ?_))))
 obtain ⟨v10, hv10, hm⟩ := bind_some hm
 refine a0g ent46 rfl rfl rfl rfl hx27 (a5b _ _ _ _ hv10 hx27.sat) ?_
 rintro _ Fx10 _ wx28 hF10 hx28 ⟨as19, ns19, cs19, as20, ns20, cs20, rfl, rfl, hs19, hs20⟩
 obtain ⟨v11, hv11, hm⟩ := bind_some hm
 refine a0g ent40 rfl rfl rfl rfl hx28 (a5y _ _ _ hv11 hx28.sat hs19 hs20 ((((hg3.mono hG3).mono hF8).mono hF9).mono hF10)) ?_
 rintro _ Fx11 _ wx29 hF11 hx29 ⟨rfl, rfl⟩
 refine b2d rfl rfl rfl rfl rfl ?_
 refine a0e rfl rfl rfl ?_
 obtain ⟨v12, hb1, hm⟩ := bind_some hm
 refine a2k 4 (fun a w' => ∃ (Fx12 : Frz), Frz.le Fx11 Fx12 ∧ HS F w [] Fx12 [.box b9 26 [.int .i64 v9.1.P.Sign, .slice as17 ns17 cs17, .int .i64 v9.1.Q.Sign, .slice as18 ns18 cs18], .box b8 26 [.int .i64 v8.1.P.Sign, .slice as15 ns15 cs15, .int .i64 v8.1.Q.Sign, .slice as16 ns16 cs16], .box b7 26 [.int .i64 v7.1.P.Sign, .slice as13 ns13 cs13, .int .i64 v7.1.Q.Sign, .slice as14 ns14 cs14], .box b6 26 [.int .i64 v6.1.P.Sign, .slice as11 ns11 cs11, .int .i64 v6.1.Q.Sign, .slice as12 ns12 cs12], .box b5 26 [.int .i64 v5.1.P.Sign, .slice as9 ns9 cs9, .int .i64 v5.1.Q.Sign, .slice as10 ns10 cs10], .box b4 26 [.int .i64 v4.1.P.Sign, .slice as7 ns7 cs7, .int .i64 v4.1.Q.Sign, .slice as8 ns8 cs8], .box b3 26 [.int .i64 v3.1.P.Sign, .slice as5 ns5 cs5, .int .i64 v3.1.Q.Sign, .slice as6 ns6 cs6], .box b2 26 [.int .i64 v2.P.Sign, .slice as3 ns3 cs3, .int .i64 v2.Q.Sign, .slice as4 ns4 cs4], .box b1 26 [.int .i64 v1.P.Sign, .slice as1 ns1 cs1, .int .i64 v1.Q.Sign, .slice as2 ns2 cs2]] w' ∧ Has 144 a [(1, .pointer (some ⟨b1, 0, none⟩)), (2, .pointer (some ⟨b2, 0, none⟩)), (4, .int .i64 v3.2), (5, .pointer (some ⟨b4, 0, none⟩)), (6, .int .i64 v4.2), (7, .pointer (some ⟨b5, 0, none⟩)), (8, .int .i64 v5.2), (9, .pointer (some ⟨b6, 0, none⟩)), (10, .int .i64 v6.2), (11, .pointer (some ⟨b7, 0, none⟩)), (12, .int .i64 v7.2), (14, .int .i64 v8.2), (15, .pointer (some ⟨b9, 0, none⟩)), (16, .int .i64 v9.2), (63, .bool v12)]) ?_ ?_
 ·rintro a wx30 ⟨Fx12, hF12, hx30, hax1⟩
  refine a1a hax1 ?_
  refine a0e rfl rfl rfl ?_
  obtain ⟨v13, hb2, hm⟩ := bind_some hm
  refine a2k 3 (fun a w' => wx30 = w' ∧ Has 144 a [(1, .pointer (some ⟨b1, 0, none⟩)), (2, .pointer (some ⟨b2, 0, none⟩)), (5, .pointer (some ⟨b4, 0, none⟩)), (6, .int .i64 v4.2), (7, .pointer (some ⟨b5, 0, none⟩)), (8, .int .i64 v5.2), (9, .pointer (some ⟨b6, 0, none⟩)), (10, .int .i64 v6.2), (11, .pointer (some ⟨b7, 0, none⟩)), (12, .int .i64 v7.2), (14, .int .i64 v8.2), (15, .pointer (some ⟨b9, 0, none⟩)), (16, .int .i64 v9.2), (67, .bool v13)]) ?_ ?_
  ·rintro a wx31 ⟨rfl, hax2⟩
   refine a1a hax2 ?_
   refine a0e rfl rfl rfl ?_
   obtain ⟨v14, hb3, hm⟩ := bind_some hm
   refine a2k 3 (fun a w' => wx30 = w' ∧ Has 144 a [(1, .pointer (some ⟨b1, 0, none⟩)), (2, .pointer (some ⟨b2, 0, none⟩)), (5, .pointer (some ⟨b4, 0, none⟩)), (7, .pointer (some ⟨b5, 0, none⟩)), (8, .int .i64 v5.2), (9, .pointer (some ⟨b6, 0, none⟩)), (10, .int .i64 v6.2), (11, .pointer (some ⟨b7, 0, none⟩)), (12, .int .i64 v7.2), (14, .int .i64 v8.2), (15, .pointer (some ⟨b9, 0, none⟩)), (16, .int .i64 v9.2), (71, .bool v14)]) ?_ ?_
   ·rintro a wx32 ⟨rfl, hax3⟩
    refine a1a hax3 ?_
    refine a0e rfl rfl rfl ?_
    obtain ⟨v15, hb4, hm⟩ := bind_some hm
    refine a2k 3 (fun a w' => wx30 = w' ∧ Has 144 a [(1, .pointer (some ⟨b1, 0, none⟩)), (2, .pointer (some ⟨b2, 0, none⟩)), (5, .pointer (some ⟨b4, 0, none⟩)), (7, .pointer (some ⟨b5, 0, none⟩)), (9, .pointer (some ⟨b6, 0, none⟩)), (10, .int .i64 v6.2), (11, .pointer (some ⟨b7, 0, none⟩)), (12, .int .i64 v7.2), (14, .int .i64 v8.2), (15, .pointer (some ⟨b9, 0, none⟩)), (16, .int .i64 v9.2), (75, .bool v15)]) ?_ ?_
    ·rintro a wx33 ⟨rfl, hax4⟩
     refine a1a hax4 ?_
     refine a0e rfl rfl rfl ?_
     obtain ⟨v16, hb5, hm⟩ := bind_some hm
     refine a2k 3 (fun a w' => wx30 = w' ∧ Has 144 a [(1, .pointer (some ⟨b1, 0, none⟩)), (2, .pointer (some ⟨b2, 0, none⟩)), (5, .pointer (some ⟨b4, 0, none⟩)), (7, .pointer (some ⟨b5, 0, none⟩)), (9, .pointer (some ⟨b6, 0, none⟩)), (11, .pointer (some ⟨b7, 0, none⟩)), (12, .int .i64 v7.2), (14, .int .i64 v8.2), (15, .pointer (some ⟨b9, 0, none⟩)), (16, .int .i64 v9.2), (79, .bool v16)]) ?_ ?_
     ·rintro a wx34 ⟨rfl, hax5⟩
      refine a1a hax5 ?_
      refine a0e rfl rfl rfl ?_
      obtain ⟨v17, hb6, hm⟩ := bind_some hm
      refine a2k 3 (fun a w' => wx30 = w' ∧ Has 144 a [(1, .pointer (some ⟨b1, 0, none⟩)), (2, .pointer (some ⟨b2, 0, none⟩)), (5, .pointer (some ⟨b4, 0, none⟩)), (7, .pointer (some ⟨b5, 0, none⟩)), (9, .pointer (some ⟨b6, 0, none⟩)), (11, .pointer (some ⟨b7, 0, none⟩)), (14, .int .i64 v8.2), (15, .pointer (some ⟨b9, 0, none⟩)), (16, .int .i64 v9.2), (83, .bool v17)]) ?_ ?_
      ·rintro a wx35 ⟨rfl, hax6⟩
       refine a1a hax6 ?_
       refine a0e rfl rfl rfl ?_
       obtain ⟨v18, hb7, hm⟩ := bind_some hm
       refine a2k 4 (fun a w' => ∃ (Fx13 : Frz), Frz.le Fx12 Fx13 ∧ HS F w [] Fx13 [.box b9 26 [.int .i64 v9.1.P.Sign, .slice as17 ns17 cs17, .int .i64 v9.1.Q.Sign, .slice as18 ns18 cs18], .box b8 26 [.int .i64 v8.1.P.Sign, .slice as15 ns15 cs15, .int .i64 v8.1.Q.Sign, .slice as16 ns16 cs16], .box b7 26 [.int .i64 v7.1.P.Sign, .slice as13 ns13 cs13, .int .i64 v7.1.Q.Sign, .slice as14 ns14 cs14], .box b6 26 [.int .i64 v6.1.P.Sign, .slice as11 ns11 cs11, .int .i64 v6.1.Q.Sign, .slice as12 ns12 cs12], .box b5 26 [.int .i64 v5.1.P.Sign, .slice as9 ns9 cs9, .int .i64 v5.1.Q.Sign, .slice as10 ns10 cs10], .box b4 26 [.int .i64 v4.1.P.Sign, .slice as7 ns7 cs7, .int .i64 v4.1.Q.Sign, .slice as8 ns8 cs8], .box b3 26 [.int .i64 v3.1.P.Sign, .slice as5 ns5 cs5, .int .i64 v3.1.Q.Sign, .slice as6 ns6 cs6], .box b2 26 [.int .i64 v2.P.Sign, .slice as3 ns3 cs3, .int .i64 v2.Q.Sign, .slice as4 ns4 cs4], .box b1 26 [.int .i64 v1.P.Sign, .slice as1 ns1 cs1, .int .i64 v1.Q.Sign, .slice as2 ns2 cs2]] w' ∧ Has 144 a [(1, .pointer (some ⟨b1, 0, none⟩)), (2, .pointer (some ⟨b2, 0, none⟩)), (7, .pointer (some ⟨b5, 0, none⟩)), (9, .pointer (some ⟨b6, 0, none⟩)), (11, .pointer (some ⟨b7, 0, none⟩)), (14, .int .i64 v8.2), (15, .pointer (some ⟨b9, 0, none⟩)), (16, .int .i64 v9.2), (88, .bool v18)]) ?_ ?_
       ·rintro a wx36 ⟨Fx13, hF13, hx31, hax7⟩
        refine a1a hax7 ?_
        refine a0e rfl rfl rfl ?_
        obtain ⟨v19, hb8, hm⟩ := bind_some hm
        refine a2k 4 (fun a w' => ∃ (Fx14 : Frz), Frz.le Fx13 Fx14 ∧ HS F w [] Fx14 [.box b9 26 [.int .i64 v9.1.P.Sign, .slice as17 ns17 cs17, .int .i64 v9.1.Q.Sign, .slice as18 ns18 cs18], .box b8 26 [.int .i64 v8.1.P.Sign, .slice as15 ns15 cs15, .int .i64 v8.1.Q.Sign, .slice as16 ns16 cs16], .box b7 26 [.int .i64 v7.1.P.Sign, .slice as13 ns13 cs13, .int .i64 v7.1.Q.Sign, .slice as14 ns14 cs14], .box b6 26 [.int .i64 v6.1.P.Sign, .slice as11 ns11 cs11, .int .i64 v6.1.Q.Sign, .slice as12 ns12 cs12], .box b5 26 [.int .i64 v5.1.P.Sign, .slice as9 ns9 cs9, .int .i64 v5.1.Q.Sign, .slice as10 ns10 cs10], .box b4 26 [.int .i64 v4.1.P.Sign, .slice as7 ns7 cs7, .int .i64 v4.1.Q.Sign, .slice as8 ns8 cs8], .box b3 26 [.int .i64 v3.1.P.Sign, .slice as5 ns5 cs5, .int .i64 v3.1.Q.Sign, .slice as6 ns6 cs6], .box b2 26 [.int .i64 v2.P.Sign, .slice as3 ns3 cs3, .int .i64 v2.Q.Sign, .slice as4 ns4 cs4], .box b1 26 [.int .i64 v1.P.Sign, .slice as1 ns1 cs1, .int .i64 v1.Q.Sign, .slice as2 ns2 cs2]] w' ∧ Has 144 a [(1, .pointer (some ⟨b1, 0, none⟩)), (2, .pointer (some ⟨b2, 0, none⟩)), (9, .pointer (some ⟨b6, 0, none⟩)), (11, .pointer (some ⟨b7, 0, none⟩)), (14, .int .i64 v8.2), (15, .pointer (some ⟨b9, 0, none⟩)), (16, .int .i64 v9.2), (93, .bool v19)]) ?_ ?_
        ·rintro a wx37 ⟨Fx14, hF14, hx32, hax8⟩
         refine a1a hax8 ?_
         refine a0e rfl rfl rfl ?_
         obtain ⟨v20, hb9, hm⟩ := bind_some hm
         refine a2k 4 (fun a w' => ∃ (Fx15 : Frz), Frz.le Fx14 Fx15 ∧ HS F w [] Fx15 [.box b9 26 [.int .i64 v9.1.P.Sign, .slice as17 ns17 cs17, .int .i64 v9.1.Q.Sign, .slice as18 ns18 cs18], .box b8 26 [.int .i64 v8.1.P.Sign, .slice as15 ns15 cs15, .int .i64 v8.1.Q.Sign, .slice as16 ns16 cs16], .box b7 26 [.int .i64 v7.1.P.Sign, .slice as13 ns13 cs13, .int .i64 v7.1.Q.Sign, .slice as14 ns14 cs14], .box b6 26 [.int .i64 v6.1.P.Sign, .slice as11 ns11 cs11, .int .i64 v6.1.Q.Sign, .slice as12 ns12 cs12], .box b5 26 [.int .i64 v5.1.P.Sign, .slice as9 ns9 cs9, .int .i64 v5.1.Q.Sign, .slice as10 ns10 cs10], .box b4 26 [.int .i64 v4.1.P.Sign, .slice as7 ns7 cs7, .int .i64 v4.1.Q.Sign, .slice as8 ns8 cs8], .box b3 26 [.int .i64 v3.1.P.Sign, .slice as5 ns5 cs5, .int .i64 v3.1.Q.Sign, .slice as6 ns6 cs6], .box b2 26 [.int .i64 v2.P.Sign, .slice as3 ns3 cs3, .int .i64 v2.Q.Sign, .slice as4 ns4 cs4], .box b1 26 [.int .i64 v1.P.Sign, .slice as1 ns1 cs1, .int .i64 v1.Q.Sign, .slice as2 ns2 cs2]] w' ∧ Has 144 a [(1, .pointer (some ⟨b1, 0, none⟩)), (2, .pointer (some ⟨b2, 0, none⟩)), (11, .pointer (some ⟨b7, 0, none⟩)), (14, .int .i64 v8.2), (15, .pointer (some ⟨b9, 0, none⟩)), (16, .int .i64 v9.2), (98, .bool v20)]) ?_ ?_
         ·rintro a wx38 ⟨Fx15, hF15, hx33, hax9⟩
          refine a1a hax9 ?_
          refine a0e rfl rfl rfl ?_
          obtain ⟨v21, hb10, hm⟩ := bind_some hm
          refine a2k 4 (fun a w' => ∃ (Fx16 : Frz), Frz.le Fx15 Fx16 ∧ HS F w [] Fx16 [.box b9 26 [.int .i64 v9.1.P.Sign, .slice as17 ns17 cs17, .int .i64 v9.1.Q.Sign, .slice as18 ns18 cs18], .box b8 26 [.int .i64 v8.1.P.Sign, .slice as15 ns15 cs15, .int .i64 v8.1.Q.Sign, .slice as16 ns16 cs16], .box b7 26 [.int .i64 v7.1.P.Sign, .slice as13 ns13 cs13, .int .i64 v7.1.Q.Sign, .slice as14 ns14 cs14], .box b6 26 [.int .i64 v6.1.P.Sign, .slice as11 ns11 cs11, .int .i64 v6.1.Q.Sign, .slice as12 ns12 cs12], .box b5 26 [.int .i64 v5.1.P.Sign, .slice as9 ns9 cs9, .int .i64 v5.1.Q.Sign, .slice as10 ns10 cs10], .box b4 26 [.int .i64 v4.1.P.Sign, .slice as7 ns7 cs7, .int .i64 v4.1.Q.Sign, .slice as8 ns8 cs8], .box b3 26 [.int .i64 v3.1.P.Sign, .slice as5 ns5 cs5, .int .i64 v3.1.Q.Sign, .slice as6 ns6 cs6], .box b2 26 [.int .i64 v2.P.Sign, .slice as3 ns3 cs3, .int .i64 v2.Q.Sign, .slice as4 ns4 cs4], .box b1 26 [.int .i64 v1.P.Sign, .slice as1 ns1 cs1, .int .i64 v1.Q.Sign, .slice as2 ns2 cs2]] w' ∧ Has 144 a [(1, .pointer (some ⟨b1, 0, none⟩)), (2, .pointer (some ⟨b2, 0, none⟩)), (14, .int .i64 v8.2), (15, .pointer (some ⟨b9, 0, none⟩)), (16, .int .i64 v9.2), (103, .bool v21)]) ?_ ?_
          ·rintro a wx39 ⟨Fx16, hF16, hx34, hax10⟩
           refine a1a hax10 ?_
           refine a0b rfl rfl rfl (a0c (a0d (a0f ?_)))
           refine a2m (SH Fx16 [.box b9 26 [.int .i64 v9.1.P.Sign, .slice as17 ns17 cs17, .int .i64 v9.1.Q.Sign, .slice as18 ns18 cs18], .box b8 26 [.int .i64 v8.1.P.Sign, .slice as15 ns15 cs15, .int .i64 v8.1.Q.Sign, .slice as16 ns16 cs16], .box b7 26 [.int .i64 v7.1.P.Sign, .slice as13 ns13 cs13, .int .i64 v7.1.Q.Sign, .slice as14 ns14 cs14], .box b6 26 [.int .i64 v6.1.P.Sign, .slice as11 ns11 cs11, .int .i64 v6.1.Q.Sign, .slice as12 ns12 cs12], .box b5 26 [.int .i64 v5.1.P.Sign, .slice as9 ns9 cs9, .int .i64 v5.1.Q.Sign, .slice as10 ns10 cs10], .box b4 26 [.int .i64 v4.1.P.Sign, .slice as7 ns7 cs7, .int .i64 v4.1.Q.Sign, .slice as8 ns8 cs8], .box b3 26 [.int .i64 v3.1.P.Sign, .slice as5 ns5 cs5, .int .i64 v3.1.Q.Sign, .slice as6 ns6 cs6], .box b2 26 [.int .i64 v2.P.Sign, .slice as3 ns3 cs3, .int .i64 v2.Q.Sign, .slice as4 ns4 cs4], .box b1 26 [.int .i64 v1.P.Sign, .slice as1 ns1 cs1, .int .i64 v1.Q.Sign, .slice as2 ns2 cs2]]) 41 rfl (by kernel_rfl) hx34 ?_
           intro wx40 hx35
           refine d_tk 0 rfl (by kernel_rfl) rfl rfl rfl rfl (hx35.sh (Frz.refl _) [0, 1, 2, 3, 4, 5, 6, 7, 8] (by decide) rfl) (fun _ _ _ _ _ => a0e rfl rfl rfl (a0c (qq rfl))) ?_
           refine d_tk 1 rfl (by kernel_rfl) rfl rfl rfl rfl (hx35.sh (Frz.refl _) [0, 1, 2, 3, 4, 5, 6, 7, 8] (by decide) rfl) (fun _ _ _ _ _ => a0e rfl rfl rfl (a0c (qq rfl))) ?_
           obtain ⟨v22, hb11, hm⟩ := bind_some hm
           refine b1i (fuel' := 34) (listed' := #[true, true, true, true, true, true, true, false, false, false, false, false, false, false, false, false, false, false, false, false, false, false, false, false, false, false, false, false, false, false, false, false, false, false, false, false, false, false, false, false, false]) (fun a w' => ∃ (Fx17 : Frz), Frz.le Fx16 Fx17 ∧ HS F w [] Fx17 [.box b9 26 [.int .i64 v9.1.P.Sign, .slice as17 ns17 cs17, .int .i64 v9.1.Q.Sign, .slice as18 ns18 cs18], .box b8 26 [.int .i64 v8.1.P.Sign, .slice as15 ns15 cs15, .int .i64 v8.1.Q.Sign, .slice as16 ns16 cs16], .box b7 26 [.int .i64 v7.1.P.Sign, .slice as13 ns13 cs13, .int .i64 v7.1.Q.Sign, .slice as14 ns14 cs14], .box b6 26 [.int .i64 v6.1.P.Sign, .slice as11 ns11 cs11, .int .i64 v6.1.Q.Sign, .slice as12 ns12 cs12], .box b5 26 [.int .i64 v5.1.P.Sign, .slice as9 ns9 cs9, .int .i64 v5.1.Q.Sign, .slice as10 ns10 cs10], .box b4 26 [.int .i64 v4.1.P.Sign, .slice as7 ns7 cs7, .int .i64 v4.1.Q.Sign, .slice as8 ns8 cs8], .box b3 26 [.int .i64 v3.1.P.Sign, .slice as5 ns5 cs5, .int .i64 v3.1.Q.Sign, .slice as6 ns6 cs6], .box b2 26 [.int .i64 v2.P.Sign, .slice as3 ns3 cs3, .int .i64 v2.Q.Sign, .slice as4 ns4 cs4], .box b1 26 [.int .i64 v1.P.Sign, .slice as1 ns1 cs1, .int .i64 v1.Q.Sign, .slice as2 ns2 cs2]] w' ∧ Has 144 a [(1, .pointer (some ⟨b1, 0, none⟩)), (2, .pointer (some ⟨b2, 0, none⟩)), (14, .int .i64 v8.2), (15, .pointer (some ⟨b9, 0, none⟩)), (16, .int .i64 v9.2), (110, .bool v22)]) ?_ (fun hK1 => ?_)
           ·rintro a wx41 ⟨Fx17, hF17, hx36, hax11⟩
            refine a4k hax11 ?_
            refine d_tk 7 rfl (by kernel_rfl) rfl rfl rfl rfl (hx36.sh hF17 [0, 1, 2, 3, 4, 5, 6, 7, 8] (by decide) rfl) (fun _ _ _ _ _ => a0e rfl rfl rfl (a0c (qq rfl))) ?_
            obtain ⟨v23, hb12, hm⟩ := bind_some hm
            refine b1i (fuel' := 28) (listed' := #[true, true, true, true, true, true, true, true, true, true, true, true, true, false, false, false, false, false, false, false, false, false, false, false, false, false, false, false, false, false, false, false, false, false, false, false, false, false, false, false, false]) (fun a w' => ∃ (Fx18 : Frz), Frz.le Fx17 Fx18 ∧ HS F w [] Fx18 [.box b9 26 [.int .i64 v9.1.P.Sign, .slice as17 ns17 cs17, .int .i64 v9.1.Q.Sign, .slice as18 ns18 cs18], .box b8 26 [.int .i64 v8.1.P.Sign, .slice as15 ns15 cs15, .int .i64 v8.1.Q.Sign, .slice as16 ns16 cs16], .box b7 26 [.int .i64 v7.1.P.Sign, .slice as13 ns13 cs13, .int .i64 v7.1.Q.Sign, .slice as14 ns14 cs14], .box b6 26 [.int .i64 v6.1.P.Sign, .slice as11 ns11 cs11, .int .i64 v6.1.Q.Sign, .slice as12 ns12 cs12], .box b5 26 [.int .i64 v5.1.P.Sign, .slice as9 ns9 cs9, .int .i64 v5.1.Q.Sign, .slice as10 ns10 cs10], .box b4 26 [.int .i64 v4.1.P.Sign, .slice as7 ns7 cs7, .int .i64 v4.1.Q.Sign, .slice as8 ns8 cs8], .box b3 26 [.int .i64 v3.1.P.Sign, .slice as5 ns5 cs5, .int .i64 v3.1.Q.Sign, .slice as6 ns6 cs6], .box b2 26 [.int .i64 v2.P.Sign, .slice as3 ns3 cs3, .int .i64 v2.Q.Sign, .slice as4 ns4 cs4], .box b1 26 [.int .i64 v1.P.Sign, .slice as1 ns1 cs1, .int .i64 v1.Q.Sign, .slice as2 ns2 cs2]] w' ∧ Has 144 a [(1, .pointer (some ⟨b1, 0, none⟩)), (2, .pointer (some ⟨b2, 0, none⟩)), (14, .int .i64 v8.2), (15, .pointer (some ⟨b9, 0, none⟩)), (16, .int .i64 v9.2), (116, .bool v23)]) ?_ (fun hK2 => ?_)
            ·rintro a wx42 ⟨Fx18, hF18, hx37, hax12⟩
             refine a4k hax12 ?_
             refine d_tk 13 rfl (by kernel_rfl) rfl rfl rfl rfl (hx37.sh (hF17.trans hF18) [0, 1, 2, 3, 4, 5, 6, 7, 8] (by decide) rfl) (fun _ _ _ _ _ => a0e rfl rfl rfl (a0c (qq rfl))) ?_
             obtain ⟨v24, hb13, hm⟩ := bind_some hm
             refine b1i (fuel' := 24) (listed' := #[true, true, true, true, true, true, true, true, true, true, true, true, true, true, true, true, true, false, false, false, false, false, false, false, false, false, false, false, false, false, false, false, false, false, false, false, false, false, false, false, false]) (fun a w' => wx42 = w' ∧ Has 144 a [(1, .pointer (some ⟨b1, 0, none⟩)), (2, .pointer (some ⟨b2, 0, none⟩)), (15, .pointer (some ⟨b9, 0, none⟩)), (16, .int .i64 v9.2), (120, .bool v24)]) ?_ (fun hK3 => ?_)
             ·rintro a wx43 ⟨rfl, hax13⟩
              refine a4k hax13 ?_
              refine d_tk 17 rfl (by kernel_rfl) rfl rfl rfl rfl (hx37.sh (hF17.trans hF18) [0, 1, 2, 3, 4, 5, 6, 7, 8] (by decide) rfl) (fun _ _ _ _ _ => a0e rfl rfl rfl (a0c (qq rfl))) ?_
              obtain ⟨v25, hb14, hm⟩ := bind_some hm
              refine b1i (fuel' := 20) (listed' := #[true, true, true, true, true, true, true, true, true, true, true, true, true, true, true, true, true, true, true, true, true, false, false, false, false, false, false, false, false, false, false, false, false, false, false, false, false, false, false, false, false]) (fun a w' => wx42 = w' ∧ Has 144 a [(1, .pointer (some ⟨b1, 0, none⟩)), (2, .pointer (some ⟨b2, 0, none⟩)), (15, .pointer (some ⟨b9, 0, none⟩)), (124, .bool v25)]) ?_ (fun hK4 => ?_)
              ·rintro a wx44 ⟨rfl, hax14⟩
               refine a4k hax14 ?_
               refine d_tk 21 rfl (by kernel_rfl) rfl rfl rfl rfl (hx37.sh (hF17.trans hF18) [0, 1, 2, 3, 4, 5, 6, 7, 8] (by decide) rfl) (fun _ _ _ _ _ => a0e rfl rfl rfl (a0c (qq rfl))) ?_
               obtain ⟨v26, hb15, hm⟩ := bind_some hm
               refine b1i (fuel' := 15) (listed' := #[true, true, true, true, true, true, true, true, true, true, true, true, true, true, true, true, true, true, true, true, true, true, true, true, true, true, false, false, false, false, false, false, false, false, false, false, false, false, false, false, false]) (fun a w' => ∃ (Fx19 : Frz), Frz.le Fx18 Fx19 ∧ HS F w [] Fx19 [.box b9 26 [.int .i64 v9.1.P.Sign, .slice as17 ns17 cs17, .int .i64 v9.1.Q.Sign, .slice as18 ns18 cs18], .box b8 26 [.int .i64 v8.1.P.Sign, .slice as15 ns15 cs15, .int .i64 v8.1.Q.Sign, .slice as16 ns16 cs16], .box b7 26 [.int .i64 v7.1.P.Sign, .slice as13 ns13 cs13, .int .i64 v7.1.Q.Sign, .slice as14 ns14 cs14], .box b6 26 [.int .i64 v6.1.P.Sign, .slice as11 ns11 cs11, .int .i64 v6.1.Q.Sign, .slice as12 ns12 cs12], .box b5 26 [.int .i64 v5.1.P.Sign, .slice as9 ns9 cs9, .int .i64 v5.1.Q.Sign, .slice as10 ns10 cs10], .box b4 26 [.int .i64 v4.1.P.Sign, .slice as7 ns7 cs7, .int .i64 v4.1.Q.Sign, .slice as8 ns8 cs8], .box b3 26 [.int .i64 v3.1.P.Sign, .slice as5 ns5 cs5, .int .i64 v3.1.Q.Sign, .slice as6 ns6 cs6], .box b2 26 [.int .i64 v2.P.Sign, .slice as3 ns3 cs3, .int .i64 v2.Q.Sign, .slice as4 ns4 cs4], .box b1 26 [.int .i64 v1.P.Sign, .slice as1 ns1 cs1, .int .i64 v1.Q.Sign, .slice as2 ns2 cs2]] w' ∧ Has 144 a [(1, .pointer (some ⟨b1, 0, none⟩)), (2, .pointer (some ⟨b2, 0, none⟩)), (129, .bool v26)]) ?_ (fun hK5 => ?_)
               ·rintro a wx45 ⟨Fx19, hF19, hx38, hax15⟩
                refine a4k hax15 ?_
                refine d_tk 26 rfl (by kernel_rfl) rfl rfl rfl rfl (hx38.sh ((hF17.trans hF18).trans hF19) [0, 1, 2, 3, 4, 5, 6, 7, 8] (by decide) rfl) (fun _ _ _ _ _ => a0e rfl rfl rfl (a0c (qq rfl))) ?_
                obtain ⟨v27, hb16, hm⟩ := bind_some hm
                refine b1i (fuel' := 11) (listed' := #[true, true, true, true, true, true, true, true, true, true, true, true, true, true, true, true, true, true, true, true, true, true, true, true, true, true, true, true, true, true, false, false, false, false, false, false, false, false, false, false, false]) (fun a w' => ∃ (Fx20 : Frz), Frz.le Fx19 Fx20 ∧ HS F w [] Fx20 [.box b9 26 [.int .i64 v9.1.P.Sign, .slice as17 ns17 cs17, .int .i64 v9.1.Q.Sign, .slice as18 ns18 cs18], .box b8 26 [.int .i64 v8.1.P.Sign, .slice as15 ns15 cs15, .int .i64 v8.1.Q.Sign, .slice as16 ns16 cs16], .box b7 26 [.int .i64 v7.1.P.Sign, .slice as13 ns13 cs13, .int .i64 v7.1.Q.Sign, .slice as14 ns14 cs14], .box b6 26 [.int .i64 v6.1.P.Sign, .slice as11 ns11 cs11, .int .i64 v6.1.Q.Sign, .slice as12 ns12 cs12], .box b5 26 [.int .i64 v5.1.P.Sign, .slice as9 ns9 cs9, .int .i64 v5.1.Q.Sign, .slice as10 ns10 cs10], .box b4 26 [.int .i64 v4.1.P.Sign, .slice as7 ns7 cs7, .int .i64 v4.1.Q.Sign, .slice as8 ns8 cs8], .box b3 26 [.int .i64 v3.1.P.Sign, .slice as5 ns5 cs5, .int .i64 v3.1.Q.Sign, .slice as6 ns6 cs6], .box b2 26 [.int .i64 v2.P.Sign, .slice as3 ns3 cs3, .int .i64 v2.Q.Sign, .slice as4 ns4 cs4], .box b1 26 [.int .i64 v1.P.Sign, .slice as1 ns1 cs1, .int .i64 v1.Q.Sign, .slice as2 ns2 cs2]] w' ∧ Has 144 a [(2, .pointer (some ⟨b2, 0, none⟩)), (133, .bool v27)]) ?_ (fun hK6 => ?_)
                ·rintro a wx46 ⟨Fx20, hF20, hx39, hax16⟩
                 refine a4k hax16 ?_
                 refine d_tk 30 rfl (by kernel_rfl) rfl rfl rfl rfl (hx39.sh (((hF17.trans hF18).trans hF19).trans hF20) [0, 1, 2, 3, 4, 5, 6, 7, 8] (by decide) rfl) (fun _ _ _ _ _ => a0e rfl rfl rfl (a0c (qq rfl))) ?_
                 obtain ⟨v28, hb17, hm⟩ := bind_some hm
                 refine b1i (fuel' := 6) (listed' := #[true, true, true, true, true, true, true, true, true, true, true, true, true, true, true, true, true, true, true, true, true, true, true, true, true, true, true, true, true, true, true, true, true, true, true, false, false, false, false, false, false]) (fun a w' => ∃ (Fx21 : Frz), Frz.le Fx20 Fx21 ∧ HS F w [] Fx21 [.box b9 26 [.int .i64 v9.1.P.Sign, .slice as17 ns17 cs17, .int .i64 v9.1.Q.Sign, .slice as18 ns18 cs18], .box b8 26 [.int .i64 v8.1.P.Sign, .slice as15 ns15 cs15, .int .i64 v8.1.Q.Sign, .slice as16 ns16 cs16], .box b7 26 [.int .i64 v7.1.P.Sign, .slice as13 ns13 cs13, .int .i64 v7.1.Q.Sign, .slice as14 ns14 cs14], .box b6 26 [.int .i64 v6.1.P.Sign, .slice as11 ns11 cs11, .int .i64 v6.1.Q.Sign, .slice as12 ns12 cs12], .box b5 26 [.int .i64 v5.1.P.Sign, .slice as9 ns9 cs9, .int .i64 v5.1.Q.Sign, .slice as10 ns10 cs10], .box b4 26 [.int .i64 v4.1.P.Sign, .slice as7 ns7 cs7, .int .i64 v4.1.Q.Sign, .slice as8 ns8 cs8], .box b3 26 [.int .i64 v3.1.P.Sign, .slice as5 ns5 cs5, .int .i64 v3.1.Q.Sign, .slice as6 ns6 cs6], .box b2 26 [.int .i64 v2.P.Sign, .slice as3 ns3 cs3, .int .i64 v2.Q.Sign, .slice as4 ns4 cs4], .box b1 26 [.int .i64 v1.P.Sign, .slice as1 ns1 cs1, .int .i64 v1.Q.Sign, .slice as2 ns2 cs2]] w' ∧ Has 144 a [(2, .pointer (some ⟨b2, 0, none⟩)), (138, .bool v28)]) ?_ (fun hK7 => ?_)
                 ·rintro a wx47 ⟨Fx21, hF21, hx40, hax17⟩
                  refine a4k hax17 ?_
                  refine d_tk 35 rfl (by kernel_rfl) rfl rfl rfl rfl (hx40.sh ((((hF17.trans hF18).trans hF19).trans hF20).trans hF21) [0, 1, 2, 3, 4, 5, 6, 7, 8] (by decide) rfl) (fun _ _ _ _ _ => a0e rfl rfl rfl (a0c (qq rfl))) ?_
                  obtain ⟨v29, hb18, hm⟩ := bind_some hm
                  refine b1i (fuel' := 1) (listed' := #[true, true, true, true, true, true, true, true, true, true, true, true, true, true, true, true, true, true, true, true, true, true, true, true, true, true, true, true, true, true, true, true, true, true, true, true, true, true, true, true, false]) (fun a w' => ∃ (Fx22 : Frz), Frz.le Fx21 Fx22 ∧ HS F w [] Fx22 [.box b9 26 [.int .i64 v9.1.P.Sign, .slice as17 ns17 cs17, .int .i64 v9.1.Q.Sign, .slice as18 ns18 cs18], .box b8 26 [.int .i64 v8.1.P.Sign, .slice as15 ns15 cs15, .int .i64 v8.1.Q.Sign, .slice as16 ns16 cs16], .box b7 26 [.int .i64 v7.1.P.Sign, .slice as13 ns13 cs13, .int .i64 v7.1.Q.Sign, .slice as14 ns14 cs14], .box b6 26 [.int .i64 v6.1.P.Sign, .slice as11 ns11 cs11, .int .i64 v6.1.Q.Sign, .slice as12 ns12 cs12], .box b5 26 [.int .i64 v5.1.P.Sign, .slice as9 ns9 cs9, .int .i64 v5.1.Q.Sign, .slice as10 ns10 cs10], .box b4 26 [.int .i64 v4.1.P.Sign, .slice as7 ns7 cs7, .int .i64 v4.1.Q.Sign, .slice as8 ns8 cs8], .box b3 26 [.int .i64 v3.1.P.Sign, .slice as5 ns5 cs5, .int .i64 v3.1.Q.Sign, .slice as6 ns6 cs6], .box b2 26 [.int .i64 v2.P.Sign, .slice as3 ns3 cs3, .int .i64 v2.Q.Sign, .slice as4 ns4 cs4], .box b1 26 [.int .i64 v1.P.Sign, .slice as1 ns1 cs1, .int .i64 v1.Q.Sign, .slice as2 ns2 cs2]] w' ∧ Has 144 a [(143, .bool v29)]) ?_ (fun hK8 => ?_)
                  ·rintro a wx48 ⟨Fx22, hF22, hx41, hax18⟩
                   refine a4k hax18 ?_
                   refine d_tk 40 rfl (by kernel_rfl) rfl rfl rfl rfl (hx41.sh (((((hF17.trans hF18).trans hF19).trans hF20).trans hF21).trans hF22) [0, 1, 2, 3, 4, 5, 6, 7, 8] (by decide) rfl) (fun _ _ _ _ _ => a0b rfl rfl rfl (a0c (qq rfl))) ?_
                   refine a3v (by kernel_rfl) ?_
                   refine a0d (a1d ?_)
                   refine a1p rfl rfl ?_
                   obtain rfl := Option.some.inj hm
                   exact ⟨_, _, _, rfl, hx41.pick [] (by decide) rfl, rfl, rfl⟩
                  clear hm
                  rcases a0i hb18 with ⟨hb19, hb18⟩ | ⟨hb19, hb18⟩
                  ·refine a5q 139 rfl hb19 ?_
                   refine d_tk 37 rfl (by kernel_rfl) rfl rfl rfl rfl (hx40.sh ((((hF17.trans hF18).trans hF19).trans hF20).trans hF21) [0, 1, 2, 3, 4, 5, 6, 7, 8] (by decide) rfl) (fun _ _ _ _ hq => a0k ag26 sz26 rfl rfl hq rfl (i := 7) rfl rfl (a0c (qq rfl))) ?_
                   refine a1c 36 rfl (by kernel_rfl) ?_
                   obtain ⟨v30, hv12, hb18⟩ := bind_some hb18
                   refine a0g ent46 rfl rfl rfl rfl hx40 (a5b _ _ _ _ hv12 hx40.sat) ?_
                   rintro _ Fx23 _ wx49 hF23 hx42 ⟨as21, ns21, cs21, as22, ns22, cs22, rfl, rfl, hs21, hs22⟩
                   refine a0w (hx42.sh (((((hF17.trans hF18).trans hF19).trans hF20).trans hF21).trans hF23) [0, 1, 2, 3, 4, 5, 6, 7, 8] (by decide) rfl) ?_
                   refine a1c 38 rfl (by kernel_rfl) ?_
                   have hG4 := (((((((((((((((hG2.trans hF7).trans hF8).trans hF9).trans hF10).trans hF11).trans hF12).trans hF13).trans hF14).trans hF15).trans hF16).trans hF17).trans hF18).trans hF19).trans hF20).trans hF21).trans hF23
                   obtain ⟨v31, hv13, hb18⟩ := bind_some hb18
                   refine a0g ent51 rfl rfl rfl rfl hx42 (b8y _ _ _ _ hv13 hx42.sat hs21 hs22 (hs3.mono hG4) (hs4.mono hG4)) ?_
                   rintro _ Fx24 _ wx50 hF24 hx43 ⟨rfl, rfl⟩
                   refine a0w (hx43.sh ((((((hF17.trans hF18).trans hF19).trans hF20).trans hF21).trans hF23).trans hF24) [0, 1, 2, 3, 4, 5, 6, 7, 8] (by decide) rfl) ?_
                   refine d_tk 39 rfl (by kernel_rfl) rfl rfl rfl rfl (hx43.sh ((((((hF17.trans hF18).trans hF19).trans hF20).trans hF21).trans hF23).trans hF24) [0, 1, 2, 3, 4, 5, 6, 7, 8] (by decide) rfl) (fun _ _ _ _ _ => a0m rfl rfl rfl rfl (a0c (qq rfl))) ?_
                   refine a5p hK8 (by kernel_rfl) (fun a ha => ?_)
                   cases hb18
                   exact ⟨_, (hF23.trans hF24), hx43.pick [0, 1, 2, 3, 4, 5, 6, 7, 8] (by decide) rfl, ha.cut (l := [143]) rfl⟩
                  refine a5q 139 rfl hb19 ?_
                  refine d_of 36 rfl (by kernel_rfl) rfl rfl rfl (hx40.sh ((((hF17.trans hF18).trans hF19).trans hF20).trans hF21) [0, 1, 2, 3, 4, 5, 6, 7, 8] (by decide) rfl) ?_
                  refine d_of 37 rfl (by kernel_rfl) rfl rfl rfl (hx40.sh ((((hF17.trans hF18).trans hF19).trans hF20).trans hF21) [0, 1, 2, 3, 4, 5, 6, 7, 8] (by decide) rfl) ?_
                  refine d_of 38 rfl (by kernel_rfl) rfl rfl rfl (hx40.sh ((((hF17.trans hF18).trans hF19).trans hF20).trans hF21) [0, 1, 2, 3, 4, 5, 6, 7, 8] (by decide) rfl) ?_
                  refine d_tk 39 rfl (by kernel_rfl) rfl rfl rfl rfl (hx40.sh ((((hF17.trans hF18).trans hF19).trans hF20).trans hF21) [0, 1, 2, 3, 4, 5, 6, 7, 8] (by decide) rfl) (fun _ _ _ _ _ => a0l rfl rfl rfl rfl (a0c (qq rfl))) ?_
                  refine a5p hK8 (by kernel_rfl) (fun a ha => ?_)
                  cases hb18
                  exact ⟨_, Frz.refl _, hx40.pick [0, 1, 2, 3, 4, 5, 6, 7, 8] (by decide) rfl, ha.cut (l := [143]) rfl⟩
                 clear hm
                 rcases a0i hb17 with ⟨hb20, hb17⟩ | ⟨hb20, hb17⟩
                 ·refine a5q 134 rfl hb20 ?_
                  refine d_tk 31 rfl (by kernel_rfl) rfl rfl rfl rfl (hx39.sh (((hF17.trans hF18).trans hF19).trans hF20) [0, 1, 2, 3, 4, 5, 6, 7, 8] (by decide) rfl) (fun _ _ _ _ _ => a1r (v := .agg #[.int .i64 0, .slice none 0 0, .int .i64 0, .slice none 0 0]) rfl rfl rfl (fun _ => by kernel_rfl) (a0c (qq rfl))) ?_
                  refine a1c 32 rfl (by kernel_rfl) ?_
                  obtain ⟨v32, hv14, hb17⟩ := bind_some hb17
                  refine a0g ent25 rfl rfl rfl rfl hx39 (a2e _ _ _ hv14 hx39.sat (SlR.nil _ _) (SlR.nil _ _)) ?_
                  rintro _ Fx25 _ wx51 hF25 hx44 ⟨rfl, rfl⟩
                  refine a0w (hx44.sh ((((hF17.trans hF18).trans hF19).trans hF20).trans hF25) [0, 1, 2, 3, 4, 5, 6, 7, 8] (by decide) rfl) ?_
                  refine d_tk 33 rfl (by kernel_rfl) rfl rfl rfl rfl (hx44.sh ((((hF17.trans hF18).trans hF19).trans hF20).trans hF25) [0, 1, 2, 3, 4, 5, 6, 7, 8] (by decide) rfl) (fun _ _ _ _ _ => a2x rfl rfl rfl (a0c (qq rfl))) ?_
                  refine d_tk 34 rfl (by kernel_rfl) rfl rfl rfl rfl (hx44.sh ((((hF17.trans hF18).trans hF19).trans hF20).trans hF25) [0, 1, 2, 3, 4, 5, 6, 7, 8] (by decide) rfl) (fun _ _ _ _ _ => a0m rfl rfl rfl rfl (a0c (qq rfl))) ?_
                  refine a5p hK7 (by kernel_rfl) (fun a ha => ?_)
                  cases hb17
                  exact ⟨_, hF25, hx44.pick [0, 1, 2, 3, 4, 5, 6, 7, 8] (by decide) rfl, ha.cut (l := [2, 138]) rfl⟩
                 refine a5q 134 rfl hb20 ?_
                 refine d_of 31 rfl (by kernel_rfl) rfl rfl rfl (hx39.sh (((hF17.trans hF18).trans hF19).trans hF20) [0, 1, 2, 3, 4, 5, 6, 7, 8] (by decide) rfl) ?_
                 refine d_of 32 rfl (by kernel_rfl) rfl rfl rfl (hx39.sh (((hF17.trans hF18).trans hF19).trans hF20) [0, 1, 2, 3, 4, 5, 6, 7, 8] (by decide) rfl) ?_
                 refine d_of 33 rfl (by kernel_rfl) rfl rfl rfl (hx39.sh (((hF17.trans hF18).trans hF19).trans hF20) [0, 1, 2, 3, 4, 5, 6, 7, 8] (by decide) rfl) ?_
                 refine d_tk 34 rfl (by kernel_rfl) rfl rfl rfl rfl (hx39.sh (((hF17.trans hF18).trans hF19).trans hF20) [0, 1, 2, 3, 4, 5, 6, 7, 8] (by decide) rfl) (fun _ _ _ _ _ => a0l rfl rfl rfl rfl (a0c (qq rfl))) ?_
                 refine a5p hK7 (by kernel_rfl) (fun a ha => ?_)
                 cases hb17
                 exact ⟨_, Frz.refl _, hx39.pick [0, 1, 2, 3, 4, 5, 6, 7, 8] (by decide) rfl, ha.cut (l := [2, 138]) rfl⟩
                clear hm
                rcases a0i hb16 with ⟨hb21, hb16⟩ | ⟨hb21, hb16⟩
                ·refine a5q 130 rfl hb21 ?_
                 refine d_tk 27 rfl (by kernel_rfl) rfl rfl rfl rfl (hx38.sh ((hF17.trans hF18).trans hF19) [0, 1, 2, 3, 4, 5, 6, 7, 8] (by decide) rfl) (fun _ _ _ _ hq => a0k ag26 sz26 rfl rfl hq rfl (i := 8) rfl rfl (a0c (qq rfl))) ?_
                 refine a1c 28 rfl (by kernel_rfl) ?_
                 have hG5 := (((((((((((((hG1.trans hF6).trans hF7).trans hF8).trans hF9).trans hF10).trans hF11).trans hF12).trans hF13).trans hF14).trans hF15).trans hF16).trans hF17).trans hF18).trans hF19
                 obtain ⟨v33, hv15, hb16⟩ := bind_some hb16
                 refine a0g ent25 rfl rfl rfl rfl hx38 (a2e _ _ _ hv15 hx38.sat (hs1.mono hG5) (hs2.mono hG5)) ?_
                 rintro _ Fx26 _ wx52 hF26 hx45 ⟨rfl, rfl⟩
                 refine a0w (hx45.sh (((hF17.trans hF18).trans hF19).trans hF26) [0, 1, 2, 3, 4, 5, 6, 7, 8] (by decide) rfl) ?_
                 refine d_tk 29 rfl (by kernel_rfl) rfl rfl rfl rfl (hx45.sh (((hF17.trans hF18).trans hF19).trans hF26) [0, 1, 2, 3, 4, 5, 6, 7, 8] (by decide) rfl) (fun _ _ _ _ _ => a0m rfl rfl rfl rfl (a0c (qq rfl))) ?_
                 refine a5p hK6 (by kernel_rfl) (fun a ha => ?_)
                 cases hb16
                 exact ⟨_, hF26, hx45.pick [0, 1, 2, 3, 4, 5, 6, 7, 8] (by decide) rfl, ha.cut (l := [2, 133]) rfl⟩
                refine a5q 130 rfl hb21 ?_
                refine d_of 27 rfl (by kernel_rfl) rfl rfl rfl (hx38.sh ((hF17.trans hF18).trans hF19) [0, 1, 2, 3, 4, 5, 6, 7, 8] (by decide) rfl) ?_
                refine d_of 28 rfl (by kernel_rfl) rfl rfl rfl (hx38.sh ((hF17.trans hF18).trans hF19) [0, 1, 2, 3, 4, 5, 6, 7, 8] (by decide) rfl) ?_
                refine d_tk 29 rfl (by kernel_rfl) rfl rfl rfl rfl (hx38.sh ((hF17.trans hF18).trans hF19) [0, 1, 2, 3, 4, 5, 6, 7, 8] (by decide) rfl) (fun _ _ _ _ _ => a0l rfl rfl rfl rfl (a0c (qq rfl))) ?_
                refine a5p hK6 (by kernel_rfl) (fun a ha => ?_)
                cases hb16
                exact ⟨_, Frz.refl _, hx38.pick [0, 1, 2, 3, 4, 5, 6, 7, 8] (by decide) rfl, ha.cut (l := [2, 133]) rfl⟩
               clear hm
               rcases a0i hb15 with ⟨hb22, hb15⟩ | ⟨hb22, hb15⟩
               ·refine a5q 125 rfl hb22 ?_
                refine d_tk 22 rfl (by kernel_rfl) rfl rfl rfl rfl (hx37.sh (hF17.trans hF18) [0, 1, 2, 3, 4, 5, 6, 7, 8] (by decide) rfl) (fun _ _ _ _ hq => a0k ag26 sz26 rfl rfl hq rfl (i := 0) rfl rfl (a0c (qq rfl))) ?_
                refine a1c 23 rfl (by kernel_rfl) ?_
                obtain ⟨v34, hv16, hb15⟩ := bind_some hb15
                refine a0g ent46 rfl rfl rfl rfl hx37 (a5b _ _ _ _ hv16 hx37.sat) ?_
                rintro _ Fx27 _ wx53 hF27 hx46 ⟨as23, ns23, cs23, as24, ns24, cs24, rfl, rfl, hs23, hs24⟩
                refine a0w (hx46.sh ((hF17.trans hF18).trans hF27) [0, 1, 2, 3, 4, 5, 6, 7, 8] (by decide) rfl) ?_
                refine a1c 24 rfl (by kernel_rfl) ?_
                have hG6 := ((((((((hF10.trans hF11).trans hF12).trans hF13).trans hF14).trans hF15).trans hF16).trans hF17).trans hF18).trans hF27
                obtain ⟨v35, hv17, hb15⟩ := bind_some hb15
                refine a0g ent14 rfl rfl rfl rfl hx46 (a3c _ _ _ _ hv17 hx46.sat (hs17.mono hG6) (hs18.mono hG6) hs23 hs24) ?_
                rintro _ Fx28 _ wx54 hF28 hx47 ⟨rfl, rfl⟩
                refine a0w (hx47.sh (((hF17.trans hF18).trans hF27).trans hF28) [0, 1, 2, 3, 4, 5, 6, 7, 8] (by decide) rfl) ?_
                refine d_tk 25 rfl (by kernel_rfl) rfl rfl rfl rfl (hx47.sh (((hF17.trans hF18).trans hF27).trans hF28) [0, 1, 2, 3, 4, 5, 6, 7, 8] (by decide) rfl) (fun _ _ _ _ _ => a0m rfl rfl rfl rfl (a0c (qq rfl))) ?_
                refine a5p hK5 (by kernel_rfl) (fun a ha => ?_)
                cases hb15
                exact ⟨_, (hF27.trans hF28), hx47.pick [0, 1, 2, 3, 4, 5, 6, 7, 8] (by decide) rfl, ha.cut (l := [1, 2, 129]) rfl⟩
               refine a5q 125 rfl hb22 ?_
               refine d_of 22 rfl (by kernel_rfl) rfl rfl rfl (hx37.sh (hF17.trans hF18) [0, 1, 2, 3, 4, 5, 6, 7, 8] (by decide) rfl) ?_
               refine d_of 23 rfl (by kernel_rfl) rfl rfl rfl (hx37.sh (hF17.trans hF18) [0, 1, 2, 3, 4, 5, 6, 7, 8] (by decide) rfl) ?_
               refine d_of 24 rfl (by kernel_rfl) rfl rfl rfl (hx37.sh (hF17.trans hF18) [0, 1, 2, 3, 4, 5, 6, 7, 8] (by decide) rfl) ?_
               refine d_tk 25 rfl (by kernel_rfl) rfl rfl rfl rfl (hx37.sh (hF17.trans hF18) [0, 1, 2, 3, 4, 5, 6, 7, 8] (by decide) rfl) (fun _ _ _ _ _ => a0l rfl rfl rfl rfl (a0c (qq rfl))) ?_
               refine a5p hK5 (by kernel_rfl) (fun a ha => ?_)
               cases hb15
               exact ⟨_, Frz.refl _, hx37.pick [0, 1, 2, 3, 4, 5, 6, 7, 8] (by decide) rfl, ha.cut (l := [1, 2, 129]) rfl⟩
              clear hm
              rcases a0i hb14 with ⟨hb23, hb14⟩ | ⟨hb23, hb14⟩
              ·refine a5q 121 rfl hb23 ?_
               refine d_tk 18 rfl (by kernel_rfl) rfl rfl rfl rfl (hx37.sh (hF17.trans hF18) [0, 1, 2, 3, 4, 5, 6, 7, 8] (by decide) rfl) (fun _ _ _ _ _ => a0e rfl rfl rfl (a0c (qq rfl))) ?_
               refine d_tk 19 rfl (by kernel_rfl) rfl rfl rfl rfl (hx37.sh (hF17.trans hF18) [0, 1, 2, 3, 4, 5, 6, 7, 8] (by decide) rfl) (fun _ _ _ _ _ => a0v rfl rfl rfl rfl rfl (a0c (qq rfl))) ?_
               refine d_tk 20 rfl (by kernel_rfl) rfl rfl rfl rfl (hx37.sh (hF17.trans hF18) [0, 1, 2, 3, 4, 5, 6, 7, 8] (by decide) rfl) (fun _ _ _ _ _ => a0m rfl rfl rfl rfl (a0c (qq rfl))) ?_
               refine a5p hK4 (by kernel_rfl) (fun a ha => ?_)
               cases hb14
               exact ⟨rfl, ha.cut (l := [1, 2, 15, 124]) rfl⟩
              refine a5q 121 rfl hb23 ?_
              refine d_of 18 rfl (by kernel_rfl) rfl rfl rfl (hx37.sh (hF17.trans hF18) [0, 1, 2, 3, 4, 5, 6, 7, 8] (by decide) rfl) ?_
              refine d_of 19 rfl (by kernel_rfl) rfl rfl rfl (hx37.sh (hF17.trans hF18) [0, 1, 2, 3, 4, 5, 6, 7, 8] (by decide) rfl) ?_
              refine d_tk 20 rfl (by kernel_rfl) rfl rfl rfl rfl (hx37.sh (hF17.trans hF18) [0, 1, 2, 3, 4, 5, 6, 7, 8] (by decide) rfl) (fun _ _ _ _ _ => a0l rfl rfl rfl rfl (a0c (qq rfl))) ?_
              refine a5p hK4 (by kernel_rfl) (fun a ha => ?_)
              cases hb14
              exact ⟨rfl, ha.cut (l := [1, 2, 15, 124]) rfl⟩
             clear hm
             rcases a0i hb13 with ⟨hb24, hb13⟩ | ⟨hb24, hb13⟩
             ·refine a5q 117 rfl hb24 ?_
              refine d_tk 14 rfl (by kernel_rfl) rfl rfl rfl rfl (hx37.sh (hF17.trans hF18) [0, 1, 2, 3, 4, 5, 6, 7, 8] (by decide) rfl) (fun _ _ _ _ _ => a0e rfl rfl rfl (a0c (qq rfl))) ?_
              refine d_tk 15 rfl (by kernel_rfl) rfl rfl rfl rfl (hx37.sh (hF17.trans hF18) [0, 1, 2, 3, 4, 5, 6, 7, 8] (by decide) rfl) (fun _ _ _ _ _ => a0v rfl rfl rfl rfl rfl (a0c (qq rfl))) ?_
              refine d_tk 16 rfl (by kernel_rfl) rfl rfl rfl rfl (hx37.sh (hF17.trans hF18) [0, 1, 2, 3, 4, 5, 6, 7, 8] (by decide) rfl) (fun _ _ _ _ _ => a0m rfl rfl rfl rfl (a0c (qq rfl))) ?_
              refine a5p hK3 (by kernel_rfl) (fun a ha => ?_)
              cases hb13
              exact ⟨rfl, ha.cut (l := [1, 2, 15, 16, 120]) rfl⟩
             refine a5q 117 rfl hb24 ?_
             refine d_of 14 rfl (by kernel_rfl) rfl rfl rfl (hx37.sh (hF17.trans hF18) [0, 1, 2, 3, 4, 5, 6, 7, 8] (by decide) rfl) ?_
             refine d_of 15 rfl (by kernel_rfl) rfl rfl rfl (hx37.sh (hF17.trans hF18) [0, 1, 2, 3, 4, 5, 6, 7, 8] (by decide) rfl) ?_
             refine d_tk 16 rfl (by kernel_rfl) rfl rfl rfl rfl (hx37.sh (hF17.trans hF18) [0, 1, 2, 3, 4, 5, 6, 7, 8] (by decide) rfl) (fun _ _ _ _ _ => a0l rfl rfl rfl rfl (a0c (qq rfl))) ?_
             refine a5p hK3 (by kernel_rfl) (fun a ha => ?_)
             cases hb13
             exact ⟨rfl, ha.cut (l := [1, 2, 15, 16, 120]) rfl⟩
            clear hm
            rcases a0i hb12 with ⟨hb25, hb12⟩ | ⟨hb25, hb12⟩
            ·refine a5q 111 rfl hb25 ?_
             refine a1c 8 rfl (by kernel_rfl) ?_
             obtain ⟨v36, hv18, hb12⟩ := bind_some hb12
             refine a0g ent46 rfl rfl rfl rfl hx36 (a5b _ _ _ _ hv18 hx36.sat) ?_
             rintro _ Fx29 _ wx55 hF29 hx48 ⟨as25, ns25, cs25, as26, ns26, cs26, rfl, rfl, hs25, hs26⟩
             refine a0w (hx48.sh (hF17.trans hF29) [0, 1, 2, 3, 4, 5, 6, 7, 8] (by decide) rfl) ?_
             refine a1c 9 rfl (by kernel_rfl) ?_
             obtain ⟨v37, hv19, hb12⟩ := bind_some hb12
             refine a0g ent43 rfl rfl rfl rfl hx48 (b4y _ _ _ hv19 hx48.sat hs25 hs26) ?_
             rintro _ Fx30 _ wx56 hF30 hx49 ⟨as27, ns27, cs27, rfl, rfl, hs27⟩
             refine a0w (hx49.sh ((hF17.trans hF29).trans hF30) [0, 1, 2, 3, 4, 5, 6, 7, 8] (by decide) rfl) ?_
             refine a1c 10 rfl (by kernel_rfl) ?_
             obtain ⟨v38, hv20, hb12⟩ := bind_some hb12
             refine a0g ent48 rfl rfl rfl rfl hx49 (b2r _ _ _ hv20 hx49.sat) ?_
             rintro _ Fx31 _ wx57 hF31 hx50 ⟨as28, ns28, cs28, rfl, rfl, hs28⟩
             refine a0w (hx50.sh (((hF17.trans hF29).trans hF30).trans hF31) [0, 1, 2, 3, 4, 5, 6, 7, 8] (by decide) rfl) ?_
             refine a1c 11 rfl (by kernel_rfl) ?_
             obtain ⟨v39, hv21, hb12⟩ := bind_some hb12
             refine a0g ent42 rfl rfl rfl rfl hx50 (a7m _ _ _ _ hv21 hx50.sat (hs27.mono hF31) hs28) ?_
             rintro _ Fx32 _ wx58 hF32 hx51 ⟨rfl, rfl⟩
             refine a0w (hx51.sh ((((hF17.trans hF29).trans hF30).trans hF31).trans hF32) [0, 1, 2, 3, 4, 5, 6, 7, 8] (by decide) rfl) ?_
             refine d_tk 12 rfl (by kernel_rfl) rfl rfl rfl rfl (hx51.sh ((((hF17.trans hF29).trans hF30).trans hF31).trans hF32) [0, 1, 2, 3, 4, 5, 6, 7, 8] (by decide) rfl) (fun _ _ _ _ _ => a0m rfl rfl rfl rfl (a0c (qq rfl))) ?_
             refine a5p hK2 (by kernel_rfl) (fun a ha => ?_)
             cases hb12
             exact ⟨_, (((hF29.trans hF30).trans hF31).trans hF32), hx51.pick [0, 1, 2, 3, 4, 5, 6, 7, 8] (by decide) rfl, ha.cut (l := [1, 2, 14, 15, 16, 116]) rfl⟩
            refine a5q 111 rfl hb25 ?_
            refine d_of 8 rfl (by kernel_rfl) rfl rfl rfl (hx36.sh hF17 [0, 1, 2, 3, 4, 5, 6, 7, 8] (by decide) rfl) ?_
            refine d_of 9 rfl (by kernel_rfl) rfl rfl rfl (hx36.sh hF17 [0, 1, 2, 3, 4, 5, 6, 7, 8] (by decide) rfl) ?_
            refine d_of 10 rfl (by kernel_rfl) rfl rfl rfl (hx36.sh hF17 [0, 1, 2, 3, 4, 5, 6, 7, 8] (by decide) rfl) ?_
            refine d_of 11 rfl (by kernel_rfl) rfl rfl rfl (hx36.sh hF17 [0, 1, 2, 3, 4, 5, 6, 7, 8] (by decide) rfl) ?_
            refine d_tk 12 rfl (by kernel_rfl) rfl rfl rfl rfl (hx36.sh hF17 [0, 1, 2, 3, 4, 5, 6, 7, 8] (by decide) rfl) (fun _ _ _ _ _ => a0l rfl rfl rfl rfl (a0c (qq rfl))) ?_
            refine a5p hK2 (by kernel_rfl) (fun a ha => ?_)
            cases hb12
            exact ⟨_, Frz.refl _, hx36.pick [0, 1, 2, 3, 4, 5, 6, 7, 8] (by decide) rfl, ha.cut (l := [1, 2, 14, 15, 16, 116]) rfl⟩
           clear hm
           rcases a0i hb11 with ⟨hb26, hb11⟩ | ⟨hb26, hb11⟩
           ·refine a5q 105 rfl hb26 ?_
            refine a1c 2 rfl (by kernel_rfl) ?_
            obtain ⟨v40, hv22, hb11⟩ := bind_some hb11
            refine a0g ent46 rfl rfl rfl rfl hx35 (a5b _ _ _ _ hv22 hx35.sat) ?_
            rintro _ Fx33 _ wx59 hF33 hx52 ⟨as29, ns29, cs29, as30, ns30, cs30, rfl, rfl, hs29, hs30⟩
            refine a0w (hx52.sh hF33 [0, 1, 2, 3, 4, 5, 6, 7, 8] (by decide) rfl) ?_
            refine a1c 3 rfl (by kernel_rfl) ?_
            obtain ⟨v41, hv23, hb11⟩ := bind_some hb11
            refine a0g ent46 rfl rfl rfl rfl hx52 (a5b _ _ _ _ hv23 hx52.sat) ?_
            rintro _ Fx34 _ wx60 hF34 hx53 ⟨as31, ns31, cs31, as32, ns32, cs32, rfl, rfl, hs31, hs32⟩
            refine a0w (hx53.sh (hF33.trans hF34) [0, 1, 2, 3, 4, 5, 6, 7, 8] (by decide) rfl) ?_
            refine a1c 4 rfl (by kernel_rfl) ?_
            obtain ⟨v42, hv24, hb11⟩ := bind_some hb11
            refine a0g ent27 rfl rfl rfl rfl hx53 (a9t _ _ _ _ hv24 hx53.sat (hs29.mono hF34) (hs30.mono hF34) hs31 hs32) ?_
            rintro _ Fx35 _ wx61 hF35 hx54 ⟨rfl, rfl⟩
            refine a0w (hx54.sh ((hF33.trans hF34).trans hF35) [0, 1, 2, 3, 4, 5, 6, 7, 8] (by decide) rfl) ?_
            refine d_tk 5 rfl (by kernel_rfl) rfl rfl rfl rfl (hx54.sh ((hF33.trans hF34).trans hF35) [0, 1, 2, 3, 4, 5, 6, 7, 8] (by decide) rfl) (fun _ _ _ _ _ => a0v rfl rfl rfl rfl rfl (a0c (qq rfl))) ?_
            refine d_tk 6 rfl (by kernel_rfl) rfl rfl rfl rfl (hx54.sh ((hF33.trans hF34).trans hF35) [0, 1, 2, 3, 4, 5, 6, 7, 8] (by decide) rfl) (fun _ _ _ _ _ => a0m rfl rfl rfl rfl (a0c (qq rfl))) ?_
            refine a5p hK1 (by kernel_rfl) (fun a ha => ?_)
            cases hb11
            exact ⟨_, ((hF33.trans hF34).trans hF35), hx54.pick [0, 1, 2, 3, 4, 5, 6, 7, 8] (by decide) rfl, ha.cut (l := [1, 2, 14, 15, 16, 110]) rfl⟩
           refine a5q 105 rfl hb26 ?_
           refine d_of 2 rfl (by kernel_rfl) rfl rfl rfl (hx35.sh (Frz.refl _) [0, 1, 2, 3, 4, 5, 6, 7, 8] (by decide) rfl) ?_
           refine d_of 3 rfl (by kernel_rfl) rfl rfl rfl (hx35.sh (Frz.refl _) [0, 1, 2, 3, 4, 5, 6, 7, 8] (by decide) rfl) ?_
           refine d_of 4 rfl (by kernel_rfl) rfl rfl rfl (hx35.sh (Frz.refl _) [0, 1, 2, 3, 4, 5, 6, 7, 8] (by decide) rfl) ?_
           refine d_of 5 rfl (by kernel_rfl) rfl rfl rfl (hx35.sh (Frz.refl _) [0, 1, 2, 3, 4, 5, 6, 7, 8] (by decide) rfl) ?_
           refine d_tk 6 rfl (by kernel_rfl) rfl rfl rfl rfl (hx35.sh (Frz.refl _) [0, 1, 2, 3, 4, 5, 6, 7, 8] (by decide) rfl) (fun _ _ _ _ _ => a0l rfl rfl rfl rfl (a0c (qq rfl))) ?_
           refine a5p hK1 (by kernel_rfl) (fun a ha => ?_)
           cases hb11
           exact ⟨_, Frz.refl _, hx35.pick [0, 1, 2, 3, 4, 5, 6, 7, 8] (by decide) rfl, ha.cut (l := [1, 2, 14, 15, 16, 110]) rfl⟩
          clear hm
          rcases a0i hb10 with ⟨hb27, hb10⟩ | ⟨hb27, hb10⟩
          ·refine a1e 99 rfl hb27 ?_
           refine a0k ag26 sz26 rfl rfl hx33 rfl (i := 2) rfl rfl ?_
           have hG7 := ((((((hF8.trans hF9).trans hF10).trans hF11).trans hF12).trans hF13).trans hF14).trans hF15
           have hG8 := (((((((hG3.trans hF8).trans hF9).trans hF10).trans hF11).trans hF12).trans hF13).trans hF14).trans hF15
           obtain ⟨v43, hv25, hb10⟩ := bind_some hb10
           refine a0g ent40 rfl rfl rfl rfl hx33 (a5y _ _ _ hv25 hx33.sat (hs13.mono hG7) (hs14.mono hG7) (hg3.mono hG8)) ?_
           rintro _ Fx36 _ wx62 hF36 hx55 ⟨rfl, rfl⟩
           refine b2d rfl rfl rfl rfl rfl ?_
           refine a0m rfl rfl rfl rfl (a0c ?_)
           refine a0p (fun a ha => ?_)
           cases hb10
           exact ⟨_, hF36, hx55.pick [0, 1, 2, 3, 4, 5, 6, 7, 8] (by decide) rfl, ha.cut (l := [1, 2, 14, 15, 16, 103]) rfl⟩
          refine a1e 99 rfl hb27 ?_
          refine a0r rfl (by decide) rfl (a0r rfl (by decide) rfl (a0r rfl (by decide) rfl (a0l rfl rfl rfl rfl (a0c ?_))))
          refine a0p (fun a ha => ?_)
          cases hb10
          exact ⟨_, Frz.refl _, hx33.pick [0, 1, 2, 3, 4, 5, 6, 7, 8] (by decide) rfl, ha.cut (l := [1, 2, 14, 15, 16, 103]) rfl⟩
         clear hm
         rcases a0i hb9 with ⟨hb28, hb9⟩ | ⟨hb28, hb9⟩
         ·refine a1e 94 rfl hb28 ?_
          refine a0k ag26 sz26 rfl rfl hx32 rfl (i := 3) rfl rfl ?_
          have hG9 := ((((((hF7.trans hF8).trans hF9).trans hF10).trans hF11).trans hF12).trans hF13).trans hF14
          have hG10 := ((((((hG3.trans hF8).trans hF9).trans hF10).trans hF11).trans hF12).trans hF13).trans hF14
          obtain ⟨v44, hv26, hb9⟩ := bind_some hb9
          refine a0g ent40 rfl rfl rfl rfl hx32 (a5y _ _ _ hv26 hx32.sat (hs11.mono hG9) (hs12.mono hG9) (hg3.mono hG10)) ?_
          rintro _ Fx37 _ wx63 hF37 hx56 ⟨rfl, rfl⟩
          refine b2d rfl rfl rfl rfl rfl ?_
          refine a0m rfl rfl rfl rfl (a0c ?_)
          refine a0p (fun a ha => ?_)
          cases hb9
          exact ⟨_, hF37, hx56.pick [0, 1, 2, 3, 4, 5, 6, 7, 8] (by decide) rfl, ha.cut (l := [1, 2, 11, 14, 15, 16, 98]) rfl⟩
         refine a1e 94 rfl hb28 ?_
         refine a0r rfl (by decide) rfl (a0r rfl (by decide) rfl (a0r rfl (by decide) rfl (a0l rfl rfl rfl rfl (a0c ?_))))
         refine a0p (fun a ha => ?_)
         cases hb9
         exact ⟨_, Frz.refl _, hx32.pick [0, 1, 2, 3, 4, 5, 6, 7, 8] (by decide) rfl, ha.cut (l := [1, 2, 11, 14, 15, 16, 98]) rfl⟩
        clear hm
        rcases a0i hb8 with ⟨hb29, hb8⟩ | ⟨hb29, hb8⟩
        ·refine a1e 89 rfl hb29 ?_
         refine a0k ag26 sz26 rfl rfl hx31 rfl (i := 4) rfl rfl ?_
         have hG11 := ((((((hF6.trans hF7).trans hF8).trans hF9).trans hF10).trans hF11).trans hF12).trans hF13
         have hG12 := (((((hG3.trans hF8).trans hF9).trans hF10).trans hF11).trans hF12).trans hF13
         obtain ⟨v45, hv27, hb8⟩ := bind_some hb8
         refine a0g ent40 rfl rfl rfl rfl hx31 (a5y _ _ _ hv27 hx31.sat (hs9.mono hG11) (hs10.mono hG11) (hg3.mono hG12)) ?_
         rintro _ Fx38 _ wx64 hF38 hx57 ⟨rfl, rfl⟩
         refine b2d rfl rfl rfl rfl rfl ?_
         refine a0m rfl rfl rfl rfl (a0c ?_)
         refine a0p (fun a ha => ?_)
         cases hb8
         exact ⟨_, hF38, hx57.pick [0, 1, 2, 3, 4, 5, 6, 7, 8] (by decide) rfl, ha.cut (l := [1, 2, 9, 11, 14, 15, 16, 93]) rfl⟩
        refine a1e 89 rfl hb29 ?_
        refine a0r rfl (by decide) rfl (a0r rfl (by decide) rfl (a0r rfl (by decide) rfl (a0l rfl rfl rfl rfl (a0c ?_))))
        refine a0p (fun a ha => ?_)
        cases hb8
        exact ⟨_, Frz.refl _, hx31.pick [0, 1, 2, 3, 4, 5, 6, 7, 8] (by decide) rfl, ha.cut (l := [1, 2, 9, 11, 14, 15, 16, 93]) rfl⟩
       clear hm
       rcases a0i hb7 with ⟨hb30, hb7⟩ | ⟨hb30, hb7⟩
       ·refine a1e 84 rfl hb30 ?_
        refine a0k ag26 sz26 rfl rfl hx30 rfl (i := 5) rfl rfl ?_
        have hG13 := ((((((hF5.trans hF6).trans hF7).trans hF8).trans hF9).trans hF10).trans hF11).trans hF12
        have hG14 := ((((hG3.trans hF8).trans hF9).trans hF10).trans hF11).trans hF12
        obtain ⟨v46, hv28, hb7⟩ := bind_some hb7
        refine a0g ent40 rfl rfl rfl rfl hx30 (a5y _ _ _ hv28 hx30.sat (hs7.mono hG13) (hs8.mono hG13) (hg3.mono hG14)) ?_
        rintro _ Fx39 _ wx65 hF39 hx58 ⟨rfl, rfl⟩
        refine b2d rfl rfl rfl rfl rfl ?_
        refine a0m rfl rfl rfl rfl (a0c ?_)
        refine a0p (fun a ha => ?_)
        cases hb7
        exact ⟨_, hF39, hx58.pick [0, 1, 2, 3, 4, 5, 6, 7, 8] (by decide) rfl, ha.cut (l := [1, 2, 7, 9, 11, 14, 15, 16, 88]) rfl⟩
       refine a1e 84 rfl hb30 ?_
       refine a0r rfl (by decide) rfl (a0r rfl (by decide) rfl (a0r rfl (by decide) rfl (a0l rfl rfl rfl rfl (a0c ?_))))
       refine a0p (fun a ha => ?_)
       cases hb7
       exact ⟨_, Frz.refl _, hx30.pick [0, 1, 2, 3, 4, 5, 6, 7, 8] (by decide) rfl, ha.cut (l := [1, 2, 7, 9, 11, 14, 15, 16, 88]) rfl⟩
      clear hm
      rcases a0i hb6 with ⟨hb31, hb6⟩ | ⟨hb31, hb6⟩
      ·refine a1e 80 rfl hb31 ?_
       refine a0e rfl rfl rfl ?_
       refine a0v rfl rfl rfl rfl rfl ?_
       refine a0m rfl rfl rfl rfl (a0c ?_)
       refine a0p (fun a ha => ?_)
       cases hb6
       exact ⟨rfl, ha.cut (l := [1, 2, 5, 7, 9, 11, 14, 15, 16, 83]) rfl⟩
      refine a1e 80 rfl hb31 ?_
      refine a0r rfl (by decide) rfl (a0r rfl (by decide) rfl (a0l rfl rfl rfl rfl (a0c ?_)))
      refine a0p (fun a ha => ?_)
      cases hb6
      exact ⟨rfl, ha.cut (l := [1, 2, 5, 7, 9, 11, 14, 15, 16, 83]) rfl⟩
     clear hm
     rcases a0i hb5 with ⟨hb32, hb5⟩ | ⟨hb32, hb5⟩
     ·refine a1e 76 rfl hb32 ?_
      refine a0e rfl rfl rfl ?_
      refine a0v rfl rfl rfl rfl rfl ?_
      refine a0m rfl rfl rfl rfl (a0c ?_)
      refine a0p (fun a ha => ?_)
      cases hb5
      exact ⟨rfl, ha.cut (l := [1, 2, 5, 7, 9, 11, 12, 14, 15, 16, 79]) rfl⟩
     refine a1e 76 rfl hb32 ?_
     refine a0r rfl (by decide) rfl (a0r rfl (by decide) rfl (a0l rfl rfl rfl rfl (a0c ?_)))
     refine a0p (fun a ha => ?_)
     cases hb5
     exact ⟨rfl, ha.cut (l := [1, 2, 5, 7, 9, 11, 12, 14, 15, 16, 79]) rfl⟩
    clear hm
    rcases a0i hb4 with ⟨hb33, hb4⟩ | ⟨hb33, hb4⟩
    ·refine a1e 72 rfl hb33 ?_
     refine a0e rfl rfl rfl ?_
     refine a0v rfl rfl rfl rfl rfl ?_
     refine a0m rfl rfl rfl rfl (a0c ?_)
     refine a0p (fun a ha => ?_)
     cases hb4
     exact ⟨rfl, ha.cut (l := [1, 2, 5, 7, 9, 10, 11, 12, 14, 15, 16, 75]) rfl⟩
    refine a1e 72 rfl hb33 ?_
    refine a0r rfl (by decide) rfl (a0r rfl (by decide) rfl (a0l rfl rfl rfl rfl (a0c ?_)))
    refine a0p (fun a ha => ?_)
    cases hb4
    exact ⟨rfl, ha.cut (l := [1, 2, 5, 7, 9, 10, 11, 12, 14, 15, 16, 75]) rfl⟩
   clear hm
   rcases a0i hb3 with ⟨hb34, hb3⟩ | ⟨hb34, hb3⟩
   ·refine a1e 68 rfl hb34 ?_
    refine a0e rfl rfl rfl ?_
    refine a0v rfl rfl rfl rfl rfl ?_
    refine a0m rfl rfl rfl rfl (a0c ?_)
    refine a0p (fun a ha => ?_)
    cases hb3
    exact ⟨rfl, ha.cut (l := [1, 2, 5, 7, 8, 9, 10, 11, 12, 14, 15, 16, 71]) rfl⟩
   refine a1e 68 rfl hb34 ?_
   refine a0r rfl (by decide) rfl (a0r rfl (by decide) rfl (a0l rfl rfl rfl rfl (a0c ?_)))
   refine a0p (fun a ha => ?_)
   cases hb3
   exact ⟨rfl, ha.cut (l := [1, 2, 5, 7, 8, 9, 10, 11, 12, 14, 15, 16, 71]) rfl⟩
  clear hm
  rcases a0i hb2 with ⟨hb35, hb2⟩ | ⟨hb35, hb2⟩
  ·refine a1e 64 rfl hb35 ?_
   refine a0e rfl rfl rfl ?_
   refine a0v rfl rfl rfl rfl rfl ?_
   refine a0m rfl rfl rfl rfl (a0c ?_)
   refine a0p (fun a ha => ?_)
   cases hb2
   exact ⟨rfl, ha.cut (l := [1, 2, 5, 6, 7, 8, 9, 10, 11, 12, 14, 15, 16, 67]) rfl⟩
  refine a1e 64 rfl hb35 ?_
  refine a0r rfl (by decide) rfl (a0r rfl (by decide) rfl (a0l rfl rfl rfl rfl (a0c ?_)))
  refine a0p (fun a ha => ?_)
  cases hb2
  exact ⟨rfl, ha.cut (l := [1, 2, 5, 6, 7, 8, 9, 10, 11, 12, 14, 15, 16, 67]) rfl⟩
 clear hm
 rcases a0i hb1 with ⟨hb36, hb1⟩ | ⟨hb36, hb1⟩
 ·refine a1e 59 rfl hb36 ?_
  obtain ⟨v47, hv29, hb1⟩ := bind_some hb1
  refine a0g ent46 rfl rfl rfl rfl hx29 (a5b _ _ _ _ hv29 hx29.sat) ?_
  rintro _ Fx40 _ wx66 hF40 hx59 ⟨as33, ns33, cs33, as34, ns34, cs34, rfl, rfl, hs33, hs34⟩
  have hG15 := ((((hG3.trans hF8).trans hF9).trans hF10).trans hF11).trans hF40
  obtain ⟨v48, hv30, hb1⟩ := bind_some hb1
  refine a0g ent40 rfl rfl rfl rfl hx59 (a5y _ _ _ hv30 hx59.sat hs33 hs34 (hg3.mono hG15)) ?_
  rintro _ Fx41 _ wx67 hF41 hx60 ⟨rfl, rfl⟩
  refine b2d rfl rfl rfl rfl rfl ?_
  refine a0m rfl rfl rfl rfl (a0c ?_)
  refine a0p (fun a ha => ?_)
  cases hb1
  exact ⟨_, (hF40.trans hF41), hx60.pick [0, 1, 2, 3, 4, 5, 6, 7, 8] (by decide) rfl, ha.cut (l := [1, 2, 4, 5, 6, 7, 8, 9, 10, 11, 12, 14, 15, 16, 63]) rfl⟩
 refine a1e 59 rfl hb36 ?_
 refine a0r rfl (by decide) rfl (a0r rfl (by decide) rfl (a0r rfl (by decide) rfl (a0l rfl rfl rfl rfl (a0c ?_))))
 refine a0p (fun a ha => ?_)
 cases hb1
 exact ⟨_, Frz.refl _, hx29.pick [0, 1, 2, 3, 4, 5, 6, 7, 8] (by decide) rfl, ha.cut (l := [1, 2, 4, 5, 6, 7, 8, 9, 10, 11, 12, 14, 15, 16, 63]) rfl⟩
end Go.Proofs.YtaanocaobllohaaGreatDoor.M
