/-
  THE MIRRORS of the fractions' and the big integers' functions, of their references and of the laws, and that each call returns what its mirror says. Printed by gen.py.
-/
import Derived.Test.YtaanocaobllohaaGreatDoorRows
import Derived.Test.YtaanocaobllohaaGreatDoorTrim
import Derived.Test.YtaanocaobllohaaGreatDoorExtC
import Derived.Test.YtaanocaobllohaaGreatDoorRtX
import Derived.Test.YtaanocaobllohaaGreatDoorMirF
namespace Go.Proofs.YtaanocaobllohaaGreatDoor.M
open Go Go.RowKit Rt

theorem ent12 : Ent Tryz.prog 12 := fun _ _ => by kernel_rfl

theorem ent15 : Ent Tryz.prog 15 := fun _ _ => by kernel_rfl

theorem ent17 : Ent Tryz.prog 17 := fun _ _ => by kernel_rfl

theorem ent21 : Ent Tryz.prog 21 := fun _ _ => by kernel_rfl

theorem ent51 : Ent Tryz.prog 51 := fun _ _ => by kernel_rfl

theorem ent14 : Ent Tryz.prog 14 := fun _ _ => by kernel_rfl

theorem ent43 : Ent Tryz.prog 43 := fun _ _ => by kernel_rfl

def law05_small (n : Nat)  : Option Bool :=
 (law05_of n 1 2).bind fun v1 =>
 (law05_of n 1 3).bind fun v2 =>
 (frac_Of n 1 0).bind fun v3 =>
 (frac_Add n (⟨(⟨v1.P.Sign, v1.P.Digits⟩ : Big), (⟨v1.Q.Sign, v1.Q.Digits⟩ : Big)⟩ : Frac) (⟨(⟨v2.P.Sign, v2.P.Digits⟩ : Big), (⟨v2.Q.Sign, v2.Q.Digits⟩ : Big)⟩ : Frac)).bind fun v4 =>
 (frac_Sub n (⟨(⟨v1.P.Sign, v1.P.Digits⟩ : Big), (⟨v1.Q.Sign, v1.Q.Digits⟩ : Big)⟩ : Frac) (⟨(⟨v2.P.Sign, v2.P.Digits⟩ : Big), (⟨v2.Q.Sign, v2.Q.Digits⟩ : Big)⟩ : Frac)).bind fun v5 =>
 (frac_Mul n (⟨(⟨v1.P.Sign, v1.P.Digits⟩ : Big), (⟨v1.Q.Sign, v1.Q.Digits⟩ : Big)⟩ : Frac) (⟨(⟨v2.P.Sign, v2.P.Digits⟩ : Big), (⟨v2.Q.Sign, v2.Q.Digits⟩ : Big)⟩ : Frac)).bind fun v6 =>
 (frac_Div n (⟨(⟨v1.P.Sign, v1.P.Digits⟩ : Big), (⟨v1.Q.Sign, v1.Q.Digits⟩ : Big)⟩ : Frac) (⟨(⟨v2.P.Sign, v2.P.Digits⟩ : Big), (⟨v2.Q.Sign, v2.Q.Digits⟩ : Big)⟩ : Frac)).bind fun v7 =>
 (frac_Read n [50, 47, 52]).bind fun v8 =>
 (frac_Read n [45, 51, 47, 50]).bind fun v9 =>
 (law05_of n 6 (-4)).bind fun v10 =>
 (frac_Text n v10).bind fun v11 =>
 (bif v11 == [45, 51, 47, 50] then
  (law05_of n 0 7).bind fun v47 =>
  (frac_Text n v47).bind fun v48 =>
  some (v48 == [48, 47, 49])
 else
  some false).bind fun v12 =>
 (bif v12 then
  some (v3.2 == 14)
 else
  some false).bind fun v13 =>
 (bif v13 then
  some (v4.2 == 0)
 else
  some false).bind fun v14 =>
 (bif v14 then
  some (v5.2 == 0)
 else
  some false).bind fun v15 =>
 (bif v15 then
  some (v6.2 == 0)
 else
  some false).bind fun v16 =>
 (bif v16 then
  some (v7.2 == 0)
 else
  some false).bind fun v17 =>
 (bif v17 then
  (frac_Text n (⟨(⟨v4.1.P.Sign, v4.1.P.Digits⟩ : Big), (⟨v4.1.Q.Sign, v4.1.Q.Digits⟩ : Big)⟩ : Frac)).bind fun v46 =>
  some (v46 == [53, 47, 54])
 else
  some false).bind fun v18 =>
 (bif v18 then
  (frac_Text n (⟨(⟨v5.1.P.Sign, v5.1.P.Digits⟩ : Big), (⟨v5.1.Q.Sign, v5.1.Q.Digits⟩ : Big)⟩ : Frac)).bind fun v45 =>
  some (v45 == [49, 47, 54])
 else
  some false).bind fun v19 =>
 (bif v19 then
  (frac_Text n (⟨(⟨v6.1.P.Sign, v6.1.P.Digits⟩ : Big), (⟨v6.1.Q.Sign, v6.1.Q.Digits⟩ : Big)⟩ : Frac)).bind fun v44 =>
  some (v44 == [49, 47, 54])
 else
  some false).bind fun v20 =>
 (bif v20 then
  (frac_Text n (⟨(⟨v7.1.P.Sign, v7.1.P.Digits⟩ : Big), (⟨v7.1.Q.Sign, v7.1.Q.Digits⟩ : Big)⟩ : Frac)).bind fun v43 =>
  some (v43 == [51, 47, 50])
 else
  some false).bind fun v21 =>
 (bif v21 then
  (law05_of n (-1) 2).bind fun v40 =>
  (law05_of n (-1) 3).bind fun v41 =>
  (frac_Compare n v40 v41).bind fun v42 =>
  some (v42 == (-1))
 else
  some false).bind fun v22 =>
 (bif v22 then
  (law05_of n (-3) 2).bind fun v36 =>
  (frac_Floor n v36).bind fun v37 =>
  (big_Of n (-2)).bind fun v38 =>
  (ref05_SameBig n v37 v38).bind fun v39 =>
  some v39
 else
  some false).bind fun v23 =>
 (bif v23 then
  some (v8.2 == 2)
 else
  some false).bind fun v24 =>
 (bif v24 then
  some (v9.2 == 0)
 else
  some false).bind fun v25 =>
 (bif v25 then
  (law05_of n (-3) 2).bind fun v34 =>
  (ref05_Same n (⟨(⟨v9.1.P.Sign, v9.1.P.Digits⟩ : Big), (⟨v9.1.Q.Sign, v9.1.Q.Digits⟩ : Big)⟩ : Frac) v34).bind fun v35 =>
  some v35
 else
  some false).bind fun v26 =>
 (bif v26 then
  (frac_Right n (⟨(⟨v1.P.Sign, v1.P.Digits⟩ : Big), (⟨v1.Q.Sign, v1.Q.Digits⟩ : Big)⟩ : Frac)).bind fun v33 =>
  some v33
 else
  some false).bind fun v27 =>
 (bif v27 then
  (frac_Right n (⟨(⟨0, []⟩ : Big), (⟨0, []⟩ : Big)⟩ : Frac)).bind fun v32 =>
  some (!v32)
 else
  some false).bind fun v28 =>
 (bif v28 then
  (law05_of n (-1) 2).bind fun v30 =>
  (law05_least n v30 (⟨(⟨v2.P.Sign, v2.P.Digits⟩ : Big), (⟨v2.Q.Sign, v2.Q.Digits⟩ : Big)⟩ : Frac)).bind fun v31 =>
  some v31
 else
  some false).bind fun v29 =>
 some v29

set_option maxHeartbeats 1000000 in
set_option maxRecDepth 1000000 in
theorem law05_small_ok (n : Nat)  (r : Bool) (hm : law05_small n  = some r) {w : World} {F : Frz} (hs : Sat F w) (hg3 : FX F 3 (Lib.pow10Tab.map (Value.int .u64))) :
  Calls Tryz.prog 8 #[] w fun e w' => ∃ v F' O', e = .returned v ∧ HS F w [] F' O' w' ∧ (v = .bool r ∧ O' = []) := by
 unfold law05_small at hm
 have h := HS.init hs
 refine calls_of (args := []) 144 Tryz.func8 rfl rfl rfl ?_
 refine c_seq (c_region (r_assign rfl rfl rfl (r_nil (q_then (c_seq (c_region ?_))))))
 obtain ⟨v1, hv1, hm⟩ := bind_some hm
 refine r_callG0 ent46 rfl rfl rfl rfl h (law05_of_ok _ _ _ _ hv1 h.sat) ?_
 rintro _ Fx1 _ wx1 hF1 hx1 ⟨as1, ns1, cs1, as2, ns2, cs2, rfl, rfl, hs1, hs2⟩
 refine r_alloc ze26 rfl rfl rfl hx1 ?_
 intro b1 wx2 hx2
 refine r_store sz26 rfl hx2 rfl rfl rfl rfl (i := 0) rfl rfl rfl rfl ?_
 intro wx3 hx3
 refine r_nil (q_then (c_seq (c_region ?_)))
 obtain ⟨v2, hv2, hm⟩ := bind_some hm
 refine r_callG0 ent46 rfl rfl rfl rfl hx3 (law05_of_ok _ _ _ _ hv2 hx3.sat) ?_
 rintro _ Fx2 _ wx4 hF2 hx4 ⟨as3, ns3, cs3, as4, ns4, cs4, rfl, rfl, hs3, hs4⟩
 refine r_alloc ze26 rfl rfl rfl hx4 ?_
 intro b2 wx5 hx5
 refine r_store sz26 rfl hx5 rfl rfl rfl rfl (i := 0) rfl rfl rfl rfl ?_
 intro wx6 hx6
 refine r_nil (q_then (c_seq (c_region ?_)))
 obtain ⟨v3, hv3, hm⟩ := bind_some hm
 refine r_callG0 ent19 rfl rfl rfl rfl hx6 (frac_Of_ok _ _ _ _ hv3 hx6.sat) ?_
 rintro _ Fx3 _ wx7 hF3 hx7 ⟨as5, ns5, cs5, as6, ns6, cs6, rfl, rfl, hs5, hs6⟩
 refine r_move rfl rfl rfl (r_extract rfl rfl rfl rfl (r_extract rfl rfl rfl rfl ?_))
 refine r_alloc ze26 rfl rfl rfl hx7 ?_
 intro b3 wx8 hx8
 refine r_store sz26 rfl hx8 rfl rfl rfl rfl (i := 0) rfl rfl rfl rfl ?_
 intro wx9 hx9
 refine r_assign rfl rfl rfl (r_nil (q_then (c_seq (c_region ?_))))
 refine r_loadBA (cs' := [.int .i64 v1.P.Sign, .slice as1 ns1 cs1, .int .i64 v1.Q.Sign, .slice as2 ns2 cs2]) ag26 sz26 rfl rfl hx9 rfl (i := 2) rfl rfl rfl ?_
 refine r_loadBA (cs' := [.int .i64 v2.P.Sign, .slice as3 ns3 cs3, .int .i64 v2.Q.Sign, .slice as4 ns4 cs4]) ag26 sz26 rfl rfl hx9 rfl (i := 1) rfl rfl rfl ?_
 obtain ⟨v4, hv4, hm⟩ := bind_some hm
 refine r_callG0 ent10 rfl rfl rfl rfl hx9 (frac_Add_ok _ _ _ _ hv4 hx9.sat ((hs1.mono hF2).mono hF3) ((hs2.mono hF2).mono hF3) (hs3.mono hF3) (hs4.mono hF3)) ?_
 rintro _ Fx4 _ wx10 hF4 hx10 ⟨as7, ns7, cs7, as8, ns8, cs8, rfl, rfl, hs7, hs8⟩
 refine r_move rfl rfl rfl (r_extract rfl rfl rfl rfl (r_extract rfl rfl rfl rfl ?_))
 refine r_alloc ze26 rfl rfl rfl hx10 ?_
 intro b4 wx11 hx11
 refine r_store sz26 rfl hx11 rfl rfl rfl rfl (i := 0) rfl rfl rfl rfl ?_
 intro wx12 hx12
 refine r_assign rfl rfl rfl (r_nil (q_then (c_seq (c_region ?_))))
 refine r_loadBA (cs' := [.int .i64 v1.P.Sign, .slice as1 ns1 cs1, .int .i64 v1.Q.Sign, .slice as2 ns2 cs2]) ag26 sz26 rfl rfl hx12 rfl (i := 3) rfl rfl rfl ?_
 refine r_loadBA (cs' := [.int .i64 v2.P.Sign, .slice as3 ns3 cs3, .int .i64 v2.Q.Sign, .slice as4 ns4 cs4]) ag26 sz26 rfl rfl hx12 rfl (i := 2) rfl rfl rfl ?_
 obtain ⟨v5, hv5, hm⟩ := bind_some hm
 refine r_callG0 ent12 rfl rfl rfl rfl hx12 (frac_Sub_ok _ _ _ _ hv5 hx12.sat (((hs1.mono hF2).mono hF3).mono hF4) (((hs2.mono hF2).mono hF3).mono hF4) ((hs3.mono hF3).mono hF4) ((hs4.mono hF3).mono hF4)) ?_
 rintro _ Fx5 _ wx13 hF5 hx13 ⟨as9, ns9, cs9, as10, ns10, cs10, rfl, rfl, hs9, hs10⟩
 refine r_move rfl rfl rfl (r_extract rfl rfl rfl rfl (r_extract rfl rfl rfl rfl ?_))
 refine r_alloc ze26 rfl rfl rfl hx13 ?_
 intro b5 wx14 hx14
 refine r_store sz26 rfl hx14 rfl rfl rfl rfl (i := 0) rfl rfl rfl rfl ?_
 intro wx15 hx15
 refine r_assign rfl rfl rfl (r_nil (q_then (c_seq (c_region ?_))))
 refine r_loadBA (cs' := [.int .i64 v1.P.Sign, .slice as1 ns1 cs1, .int .i64 v1.Q.Sign, .slice as2 ns2 cs2]) ag26 sz26 rfl rfl hx15 rfl (i := 4) rfl rfl rfl ?_
 refine r_loadBA (cs' := [.int .i64 v2.P.Sign, .slice as3 ns3 cs3, .int .i64 v2.Q.Sign, .slice as4 ns4 cs4]) ag26 sz26 rfl rfl hx15 rfl (i := 3) rfl rfl rfl ?_
 have hG1 := ((hF2.trans hF3).trans hF4).trans hF5
 obtain ⟨v6, hv6, hm⟩ := bind_some hm
 refine r_callG0 ent15 rfl rfl rfl rfl hx15 (frac_Mul_ok _ _ _ _ hv6 hx15.sat (hs1.mono hG1) (hs2.mono hG1) (((hs3.mono hF3).mono hF4).mono hF5) (((hs4.mono hF3).mono hF4).mono hF5)) ?_
 rintro _ Fx6 _ wx16 hF6 hx16 ⟨as11, ns11, cs11, as12, ns12, cs12, rfl, rfl, hs11, hs12⟩
 refine r_move rfl rfl rfl (r_extract rfl rfl rfl rfl (r_extract rfl rfl rfl rfl ?_))
 refine r_alloc ze26 rfl rfl rfl hx16 ?_
 intro b6 wx17 hx17
 refine r_store sz26 rfl hx17 rfl rfl rfl rfl (i := 0) rfl rfl rfl rfl ?_
 intro wx18 hx18
 refine r_assign rfl rfl rfl (r_nil (q_then (c_seq (c_region ?_))))
 refine r_loadBA (cs' := [.int .i64 v1.P.Sign, .slice as1 ns1 cs1, .int .i64 v1.Q.Sign, .slice as2 ns2 cs2]) ag26 sz26 rfl rfl hx18 rfl (i := 5) rfl rfl rfl ?_
 refine r_loadBA (cs' := [.int .i64 v2.P.Sign, .slice as3 ns3 cs3, .int .i64 v2.Q.Sign, .slice as4 ns4 cs4]) ag26 sz26 rfl rfl hx18 rfl (i := 4) rfl rfl rfl ?_
 have hG2 := ((hF3.trans hF4).trans hF5).trans hF6
 obtain ⟨v7, hv7, hm⟩ := bind_some hm
 refine r_callG0 ent17 rfl rfl rfl rfl hx18 (frac_Div_ok _ _ _ _ hv7 hx18.sat ((hs1.mono hG1).mono hF6) ((hs2.mono hG1).mono hF6) (hs3.mono hG2) (hs4.mono hG2)) ?_
 rintro _ Fx7 _ wx19 hF7 hx19 ⟨as13, ns13, cs13, as14, ns14, cs14, rfl, rfl, hs13, hs14⟩
 refine r_move rfl rfl rfl (r_extract rfl rfl rfl rfl (r_extract rfl rfl rfl rfl ?_))
 refine r_alloc ze26 rfl rfl rfl hx19 ?_
 intro b7 wx20 hx20
 refine r_store sz26 rfl hx20 rfl rfl rfl rfl (i := 0) rfl rfl rfl rfl ?_
 intro wx21 hx21
 refine r_assign rfl rfl rfl (r_nil (q_then (c_seq (c_region ?_))))
 have hG3 := (((((hF1.trans hF2).trans hF3).trans hF4).trans hF5).trans hF6).trans hF7
 obtain ⟨v8, hv8, hm⟩ := bind_some hm
 refine r_callG0 ent21 rfl rfl rfl rfl hx21 (frac_Read_ok _ _ _ hv8 hx21.sat (hg3.mono hG3)) ?_
 rintro _ Fx8 _ wx22 hF8 hx22 ⟨as15, ns15, cs15, as16, ns16, cs16, rfl, rfl, hs15, hs16⟩
 refine r_move rfl rfl rfl (r_extract rfl rfl rfl rfl (r_extract rfl rfl rfl rfl ?_))
 refine r_alloc ze26 rfl rfl rfl hx22 ?_
 intro b8 wx23 hx23
 refine r_store sz26 rfl hx23 rfl rfl rfl rfl (i := 0) rfl rfl rfl rfl ?_
 intro wx24 hx24
 refine r_assign rfl rfl rfl (r_nil (q_then (c_seq (c_region ?_))))
 obtain ⟨v9, hv9, hm⟩ := bind_some hm
 refine r_callG0 ent21 rfl rfl rfl rfl hx24 (frac_Read_ok _ _ _ hv9 hx24.sat ((hg3.mono hG3).mono hF8)) ?_
 rintro _ Fx9 _ wx25 hF9 hx25 ⟨as17, ns17, cs17, as18, ns18, cs18, rfl, rfl, hs17, hs18⟩
 refine r_move rfl rfl rfl (r_extract rfl rfl rfl rfl (r_extract rfl rfl rfl rfl ?_))
 refine r_alloc ze26 rfl rfl rfl hx25 ?_
 intro b9 wx26 hx26
 refine r_store sz26 rfl hx26 rfl rfl rfl rfl (i := 0) rfl rfl rfl rfl ?_
 intro wx27 hx27
 refine r_assign rfl rfl rfl (r_nil (q_then (c_seq (c_region ?_))))
 obtain ⟨v10, hv10, hm⟩ := bind_some hm
 refine r_callG0 ent46 rfl rfl rfl rfl hx27 (law05_of_ok _ _ _ _ hv10 hx27.sat) ?_
 rintro _ Fx10 _ wx28 hF10 hx28 ⟨as19, ns19, cs19, as20, ns20, cs20, rfl, rfl, hs19, hs20⟩
 obtain ⟨v11, hv11, hm⟩ := bind_some hm
 refine r_callG0 ent40 rfl rfl rfl rfl hx28 (frac_Text_ok _ _ _ hv11 hx28.sat hs19 hs20 ((((hg3.mono hG3).mono hF8).mono hF9).mono hF10)) ?_
 rintro _ Fx11 _ wx29 hF11 hx29 ⟨rfl, rfl⟩
 refine r_str rfl rfl rfl rfl rfl ?_
 refine r_move rfl rfl rfl ?_
 obtain ⟨v12, hb1, hm⟩ := bind_some hm
 refine r_mid 4 (fun a w' => ∃ (Fx12 : Frz), Frz.le Fx11 Fx12 ∧ HS F w [] Fx12 [.box b9 26 [.int .i64 v9.1.P.Sign, .slice as17 ns17 cs17, .int .i64 v9.1.Q.Sign, .slice as18 ns18 cs18], .box b8 26 [.int .i64 v8.1.P.Sign, .slice as15 ns15 cs15, .int .i64 v8.1.Q.Sign, .slice as16 ns16 cs16], .box b7 26 [.int .i64 v7.1.P.Sign, .slice as13 ns13 cs13, .int .i64 v7.1.Q.Sign, .slice as14 ns14 cs14], .box b6 26 [.int .i64 v6.1.P.Sign, .slice as11 ns11 cs11, .int .i64 v6.1.Q.Sign, .slice as12 ns12 cs12], .box b5 26 [.int .i64 v5.1.P.Sign, .slice as9 ns9 cs9, .int .i64 v5.1.Q.Sign, .slice as10 ns10 cs10], .box b4 26 [.int .i64 v4.1.P.Sign, .slice as7 ns7 cs7, .int .i64 v4.1.Q.Sign, .slice as8 ns8 cs8], .box b3 26 [.int .i64 v3.1.P.Sign, .slice as5 ns5 cs5, .int .i64 v3.1.Q.Sign, .slice as6 ns6 cs6], .box b2 26 [.int .i64 v2.P.Sign, .slice as3 ns3 cs3, .int .i64 v2.Q.Sign, .slice as4 ns4 cs4], .box b1 26 [.int .i64 v1.P.Sign, .slice as1 ns1 cs1, .int .i64 v1.Q.Sign, .slice as2 ns2 cs2]] w' ∧ Has 144 a [(1, .pointer (some ⟨b1, 0, none⟩)), (2, .pointer (some ⟨b2, 0, none⟩)), (4, .int .i64 v3.2), (5, .pointer (some ⟨b4, 0, none⟩)), (6, .int .i64 v4.2), (7, .pointer (some ⟨b5, 0, none⟩)), (8, .int .i64 v5.2), (9, .pointer (some ⟨b6, 0, none⟩)), (10, .int .i64 v6.2), (11, .pointer (some ⟨b7, 0, none⟩)), (12, .int .i64 v7.2), (14, .int .i64 v8.2), (15, .pointer (some ⟨b9, 0, none⟩)), (16, .int .i64 v9.2), (63, .bool v12)]) ?_ ?_
 ·rintro a wx30 ⟨Fx12, hF12, hx30, hax1⟩
  refine rw_apply hax1 ?_
  refine r_move rfl rfl rfl ?_
  obtain ⟨v13, hb2, hm⟩ := bind_some hm
  refine r_mid 3 (fun a w' => wx30 = w' ∧ Has 144 a [(1, .pointer (some ⟨b1, 0, none⟩)), (2, .pointer (some ⟨b2, 0, none⟩)), (5, .pointer (some ⟨b4, 0, none⟩)), (6, .int .i64 v4.2), (7, .pointer (some ⟨b5, 0, none⟩)), (8, .int .i64 v5.2), (9, .pointer (some ⟨b6, 0, none⟩)), (10, .int .i64 v6.2), (11, .pointer (some ⟨b7, 0, none⟩)), (12, .int .i64 v7.2), (14, .int .i64 v8.2), (15, .pointer (some ⟨b9, 0, none⟩)), (16, .int .i64 v9.2), (67, .bool v13)]) ?_ ?_
  ·rintro a wx31 ⟨rfl, hax2⟩
   refine rw_apply hax2 ?_
   refine r_move rfl rfl rfl ?_
   obtain ⟨v14, hb3, hm⟩ := bind_some hm
   refine r_mid 3 (fun a w' => wx30 = w' ∧ Has 144 a [(1, .pointer (some ⟨b1, 0, none⟩)), (2, .pointer (some ⟨b2, 0, none⟩)), (5, .pointer (some ⟨b4, 0, none⟩)), (7, .pointer (some ⟨b5, 0, none⟩)), (8, .int .i64 v5.2), (9, .pointer (some ⟨b6, 0, none⟩)), (10, .int .i64 v6.2), (11, .pointer (some ⟨b7, 0, none⟩)), (12, .int .i64 v7.2), (14, .int .i64 v8.2), (15, .pointer (some ⟨b9, 0, none⟩)), (16, .int .i64 v9.2), (71, .bool v14)]) ?_ ?_
   ·rintro a wx32 ⟨rfl, hax3⟩
    refine rw_apply hax3 ?_
    refine r_move rfl rfl rfl ?_
    obtain ⟨v15, hb4, hm⟩ := bind_some hm
    refine r_mid 3 (fun a w' => wx30 = w' ∧ Has 144 a [(1, .pointer (some ⟨b1, 0, none⟩)), (2, .pointer (some ⟨b2, 0, none⟩)), (5, .pointer (some ⟨b4, 0, none⟩)), (7, .pointer (some ⟨b5, 0, none⟩)), (9, .pointer (some ⟨b6, 0, none⟩)), (10, .int .i64 v6.2), (11, .pointer (some ⟨b7, 0, none⟩)), (12, .int .i64 v7.2), (14, .int .i64 v8.2), (15, .pointer (some ⟨b9, 0, none⟩)), (16, .int .i64 v9.2), (75, .bool v15)]) ?_ ?_
    ·rintro a wx33 ⟨rfl, hax4⟩
     refine rw_apply hax4 ?_
     refine r_move rfl rfl rfl ?_
     obtain ⟨v16, hb5, hm⟩ := bind_some hm
     refine r_mid 3 (fun a w' => wx30 = w' ∧ Has 144 a [(1, .pointer (some ⟨b1, 0, none⟩)), (2, .pointer (some ⟨b2, 0, none⟩)), (5, .pointer (some ⟨b4, 0, none⟩)), (7, .pointer (some ⟨b5, 0, none⟩)), (9, .pointer (some ⟨b6, 0, none⟩)), (11, .pointer (some ⟨b7, 0, none⟩)), (12, .int .i64 v7.2), (14, .int .i64 v8.2), (15, .pointer (some ⟨b9, 0, none⟩)), (16, .int .i64 v9.2), (79, .bool v16)]) ?_ ?_
     ·rintro a wx34 ⟨rfl, hax5⟩
      refine rw_apply hax5 ?_
      refine r_move rfl rfl rfl ?_
      obtain ⟨v17, hb6, hm⟩ := bind_some hm
      refine r_mid 3 (fun a w' => wx30 = w' ∧ Has 144 a [(1, .pointer (some ⟨b1, 0, none⟩)), (2, .pointer (some ⟨b2, 0, none⟩)), (5, .pointer (some ⟨b4, 0, none⟩)), (7, .pointer (some ⟨b5, 0, none⟩)), (9, .pointer (some ⟨b6, 0, none⟩)), (11, .pointer (some ⟨b7, 0, none⟩)), (14, .int .i64 v8.2), (15, .pointer (some ⟨b9, 0, none⟩)), (16, .int .i64 v9.2), (83, .bool v17)]) ?_ ?_
      ·rintro a wx35 ⟨rfl, hax6⟩
       refine rw_apply hax6 ?_
       refine r_move rfl rfl rfl ?_
       obtain ⟨v18, hb7, hm⟩ := bind_some hm
       refine r_mid 4 (fun a w' => ∃ (Fx13 : Frz), Frz.le Fx12 Fx13 ∧ HS F w [] Fx13 [.box b9 26 [.int .i64 v9.1.P.Sign, .slice as17 ns17 cs17, .int .i64 v9.1.Q.Sign, .slice as18 ns18 cs18], .box b8 26 [.int .i64 v8.1.P.Sign, .slice as15 ns15 cs15, .int .i64 v8.1.Q.Sign, .slice as16 ns16 cs16], .box b7 26 [.int .i64 v7.1.P.Sign, .slice as13 ns13 cs13, .int .i64 v7.1.Q.Sign, .slice as14 ns14 cs14], .box b6 26 [.int .i64 v6.1.P.Sign, .slice as11 ns11 cs11, .int .i64 v6.1.Q.Sign, .slice as12 ns12 cs12], .box b5 26 [.int .i64 v5.1.P.Sign, .slice as9 ns9 cs9, .int .i64 v5.1.Q.Sign, .slice as10 ns10 cs10], .box b4 26 [.int .i64 v4.1.P.Sign, .slice as7 ns7 cs7, .int .i64 v4.1.Q.Sign, .slice as8 ns8 cs8], .box b3 26 [.int .i64 v3.1.P.Sign, .slice as5 ns5 cs5, .int .i64 v3.1.Q.Sign, .slice as6 ns6 cs6], .box b2 26 [.int .i64 v2.P.Sign, .slice as3 ns3 cs3, .int .i64 v2.Q.Sign, .slice as4 ns4 cs4], .box b1 26 [.int .i64 v1.P.Sign, .slice as1 ns1 cs1, .int .i64 v1.Q.Sign, .slice as2 ns2 cs2]] w' ∧ Has 144 a [(1, .pointer (some ⟨b1, 0, none⟩)), (2, .pointer (some ⟨b2, 0, none⟩)), (7, .pointer (some ⟨b5, 0, none⟩)), (9, .pointer (some ⟨b6, 0, none⟩)), (11, .pointer (some ⟨b7, 0, none⟩)), (14, .int .i64 v8.2), (15, .pointer (some ⟨b9, 0, none⟩)), (16, .int .i64 v9.2), (88, .bool v18)]) ?_ ?_
       ·rintro a wx36 ⟨Fx13, hF13, hx31, hax7⟩
        refine rw_apply hax7 ?_
        refine r_move rfl rfl rfl ?_
        obtain ⟨v19, hb8, hm⟩ := bind_some hm
        refine r_mid 4 (fun a w' => ∃ (Fx14 : Frz), Frz.le Fx13 Fx14 ∧ HS F w [] Fx14 [.box b9 26 [.int .i64 v9.1.P.Sign, .slice as17 ns17 cs17, .int .i64 v9.1.Q.Sign, .slice as18 ns18 cs18], .box b8 26 [.int .i64 v8.1.P.Sign, .slice as15 ns15 cs15, .int .i64 v8.1.Q.Sign, .slice as16 ns16 cs16], .box b7 26 [.int .i64 v7.1.P.Sign, .slice as13 ns13 cs13, .int .i64 v7.1.Q.Sign, .slice as14 ns14 cs14], .box b6 26 [.int .i64 v6.1.P.Sign, .slice as11 ns11 cs11, .int .i64 v6.1.Q.Sign, .slice as12 ns12 cs12], .box b5 26 [.int .i64 v5.1.P.Sign, .slice as9 ns9 cs9, .int .i64 v5.1.Q.Sign, .slice as10 ns10 cs10], .box b4 26 [.int .i64 v4.1.P.Sign, .slice as7 ns7 cs7, .int .i64 v4.1.Q.Sign, .slice as8 ns8 cs8], .box b3 26 [.int .i64 v3.1.P.Sign, .slice as5 ns5 cs5, .int .i64 v3.1.Q.Sign, .slice as6 ns6 cs6], .box b2 26 [.int .i64 v2.P.Sign, .slice as3 ns3 cs3, .int .i64 v2.Q.Sign, .slice as4 ns4 cs4], .box b1 26 [.int .i64 v1.P.Sign, .slice as1 ns1 cs1, .int .i64 v1.Q.Sign, .slice as2 ns2 cs2]] w' ∧ Has 144 a [(1, .pointer (some ⟨b1, 0, none⟩)), (2, .pointer (some ⟨b2, 0, none⟩)), (9, .pointer (some ⟨b6, 0, none⟩)), (11, .pointer (some ⟨b7, 0, none⟩)), (14, .int .i64 v8.2), (15, .pointer (some ⟨b9, 0, none⟩)), (16, .int .i64 v9.2), (93, .bool v19)]) ?_ ?_
        ·rintro a wx37 ⟨Fx14, hF14, hx32, hax8⟩
         refine rw_apply hax8 ?_
         refine r_move rfl rfl rfl ?_
         obtain ⟨v20, hb9, hm⟩ := bind_some hm
         refine r_mid 4 (fun a w' => ∃ (Fx15 : Frz), Frz.le Fx14 Fx15 ∧ HS F w [] Fx15 [.box b9 26 [.int .i64 v9.1.P.Sign, .slice as17 ns17 cs17, .int .i64 v9.1.Q.Sign, .slice as18 ns18 cs18], .box b8 26 [.int .i64 v8.1.P.Sign, .slice as15 ns15 cs15, .int .i64 v8.1.Q.Sign, .slice as16 ns16 cs16], .box b7 26 [.int .i64 v7.1.P.Sign, .slice as13 ns13 cs13, .int .i64 v7.1.Q.Sign, .slice as14 ns14 cs14], .box b6 26 [.int .i64 v6.1.P.Sign, .slice as11 ns11 cs11, .int .i64 v6.1.Q.Sign, .slice as12 ns12 cs12], .box b5 26 [.int .i64 v5.1.P.Sign, .slice as9 ns9 cs9, .int .i64 v5.1.Q.Sign, .slice as10 ns10 cs10], .box b4 26 [.int .i64 v4.1.P.Sign, .slice as7 ns7 cs7, .int .i64 v4.1.Q.Sign, .slice as8 ns8 cs8], .box b3 26 [.int .i64 v3.1.P.Sign, .slice as5 ns5 cs5, .int .i64 v3.1.Q.Sign, .slice as6 ns6 cs6], .box b2 26 [.int .i64 v2.P.Sign, .slice as3 ns3 cs3, .int .i64 v2.Q.Sign, .slice as4 ns4 cs4], .box b1 26 [.int .i64 v1.P.Sign, .slice as1 ns1 cs1, .int .i64 v1.Q.Sign, .slice as2 ns2 cs2]] w' ∧ Has 144 a [(1, .pointer (some ⟨b1, 0, none⟩)), (2, .pointer (some ⟨b2, 0, none⟩)), (11, .pointer (some ⟨b7, 0, none⟩)), (14, .int .i64 v8.2), (15, .pointer (some ⟨b9, 0, none⟩)), (16, .int .i64 v9.2), (98, .bool v20)]) ?_ ?_
         ·rintro a wx38 ⟨Fx15, hF15, hx33, hax9⟩
          refine rw_apply hax9 ?_
          refine r_move rfl rfl rfl ?_
          obtain ⟨v21, hb10, hm⟩ := bind_some hm
          refine r_mid 4 (fun a w' => ∃ (Fx16 : Frz), Frz.le Fx15 Fx16 ∧ HS F w [] Fx16 [.box b9 26 [.int .i64 v9.1.P.Sign, .slice as17 ns17 cs17, .int .i64 v9.1.Q.Sign, .slice as18 ns18 cs18], .box b8 26 [.int .i64 v8.1.P.Sign, .slice as15 ns15 cs15, .int .i64 v8.1.Q.Sign, .slice as16 ns16 cs16], .box b7 26 [.int .i64 v7.1.P.Sign, .slice as13 ns13 cs13, .int .i64 v7.1.Q.Sign, .slice as14 ns14 cs14], .box b6 26 [.int .i64 v6.1.P.Sign, .slice as11 ns11 cs11, .int .i64 v6.1.Q.Sign, .slice as12 ns12 cs12], .box b5 26 [.int .i64 v5.1.P.Sign, .slice as9 ns9 cs9, .int .i64 v5.1.Q.Sign, .slice as10 ns10 cs10], .box b4 26 [.int .i64 v4.1.P.Sign, .slice as7 ns7 cs7, .int .i64 v4.1.Q.Sign, .slice as8 ns8 cs8], .box b3 26 [.int .i64 v3.1.P.Sign, .slice as5 ns5 cs5, .int .i64 v3.1.Q.Sign, .slice as6 ns6 cs6], .box b2 26 [.int .i64 v2.P.Sign, .slice as3 ns3 cs3, .int .i64 v2.Q.Sign, .slice as4 ns4 cs4], .box b1 26 [.int .i64 v1.P.Sign, .slice as1 ns1 cs1, .int .i64 v1.Q.Sign, .slice as2 ns2 cs2]] w' ∧ Has 144 a [(1, .pointer (some ⟨b1, 0, none⟩)), (2, .pointer (some ⟨b2, 0, none⟩)), (14, .int .i64 v8.2), (15, .pointer (some ⟨b9, 0, none⟩)), (16, .int .i64 v9.2), (103, .bool v21)]) ?_ ?_
          ·rintro a wx39 ⟨Fx16, hF16, hx34, hax10⟩
           refine rw_apply hax10 ?_
           refine r_assign rfl rfl rfl (r_nil (q_then (c_seq ?_)))
           refine c_regionH (SH Fx16 [.box b9 26 [.int .i64 v9.1.P.Sign, .slice as17 ns17 cs17, .int .i64 v9.1.Q.Sign, .slice as18 ns18 cs18], .box b8 26 [.int .i64 v8.1.P.Sign, .slice as15 ns15 cs15, .int .i64 v8.1.Q.Sign, .slice as16 ns16 cs16], .box b7 26 [.int .i64 v7.1.P.Sign, .slice as13 ns13 cs13, .int .i64 v7.1.Q.Sign, .slice as14 ns14 cs14], .box b6 26 [.int .i64 v6.1.P.Sign, .slice as11 ns11 cs11, .int .i64 v6.1.Q.Sign, .slice as12 ns12 cs12], .box b5 26 [.int .i64 v5.1.P.Sign, .slice as9 ns9 cs9, .int .i64 v5.1.Q.Sign, .slice as10 ns10 cs10], .box b4 26 [.int .i64 v4.1.P.Sign, .slice as7 ns7 cs7, .int .i64 v4.1.Q.Sign, .slice as8 ns8 cs8], .box b3 26 [.int .i64 v3.1.P.Sign, .slice as5 ns5 cs5, .int .i64 v3.1.Q.Sign, .slice as6 ns6 cs6], .box b2 26 [.int .i64 v2.P.Sign, .slice as3 ns3 cs3, .int .i64 v2.Q.Sign, .slice as4 ns4 cs4], .box b1 26 [.int .i64 v1.P.Sign, .slice as1 ns1 cs1, .int .i64 v1.Q.Sign, .slice as2 ns2 cs2]]) 41 rfl (by kernel_rfl) hx34 ?_
           intro wx40 hx35
           refine d_take 0 (v := .bool v21) rfl (by kernel_rfl) (by kernel_rfl) (by kernel_rfl) rfl rfl rfl rfl (hx35.sh (Frz.refl _) [0, 1, 2, 3, 4, 5, 6, 7, 8] (by decide) rfl) (fun _ hC => ?_) ?_
           ·obtain ⟨_, _, hleq, hq⟩ := hC
            refine r_move rfl rfl rfl (r_nil (qq rfl))
           refine d_take 1 (v := .bool v21) rfl (by kernel_rfl) (by kernel_rfl) (by kernel_rfl) rfl rfl rfl rfl (hx35.sh (Frz.refl _) [0, 1, 2, 3, 4, 5, 6, 7, 8] (by decide) rfl) (fun _ hC => ?_) ?_
           ·obtain ⟨_, _, hleq, hq⟩ := hC
            refine r_move rfl rfl rfl (r_nil (qq rfl))
           obtain ⟨v22, hb11, hm⟩ := bind_some hm
           refine d_mid (fuel' := 34) (listed' := #[true, true, true, true, true, true, true, false, false, false, false, false, false, false, false, false, false, false, false, false, false, false, false, false, false, false, false, false, false, false, false, false, false, false, false, false, false, false, false, false, false]) (fun a w' => ∃ (Fx17 : Frz), Frz.le Fx16 Fx17 ∧ HS F w [] Fx17 [.box b9 26 [.int .i64 v9.1.P.Sign, .slice as17 ns17 cs17, .int .i64 v9.1.Q.Sign, .slice as18 ns18 cs18], .box b8 26 [.int .i64 v8.1.P.Sign, .slice as15 ns15 cs15, .int .i64 v8.1.Q.Sign, .slice as16 ns16 cs16], .box b7 26 [.int .i64 v7.1.P.Sign, .slice as13 ns13 cs13, .int .i64 v7.1.Q.Sign, .slice as14 ns14 cs14], .box b6 26 [.int .i64 v6.1.P.Sign, .slice as11 ns11 cs11, .int .i64 v6.1.Q.Sign, .slice as12 ns12 cs12], .box b5 26 [.int .i64 v5.1.P.Sign, .slice as9 ns9 cs9, .int .i64 v5.1.Q.Sign, .slice as10 ns10 cs10], .box b4 26 [.int .i64 v4.1.P.Sign, .slice as7 ns7 cs7, .int .i64 v4.1.Q.Sign, .slice as8 ns8 cs8], .box b3 26 [.int .i64 v3.1.P.Sign, .slice as5 ns5 cs5, .int .i64 v3.1.Q.Sign, .slice as6 ns6 cs6], .box b2 26 [.int .i64 v2.P.Sign, .slice as3 ns3 cs3, .int .i64 v2.Q.Sign, .slice as4 ns4 cs4], .box b1 26 [.int .i64 v1.P.Sign, .slice as1 ns1 cs1, .int .i64 v1.Q.Sign, .slice as2 ns2 cs2]] w' ∧ Has 144 a [(1, .pointer (some ⟨b1, 0, none⟩)), (2, .pointer (some ⟨b2, 0, none⟩)), (14, .int .i64 v8.2), (15, .pointer (some ⟨b9, 0, none⟩)), (16, .int .i64 v9.2), (110, .bool v22)]) ?_ (fun hK1 => ?_)
           ·rintro a wx41 ⟨Fx17, hF17, hx36, hax11⟩
            refine dw_apply hax11 ?_
            refine d_take 7 (v := .bool v22) rfl (by kernel_rfl) (by kernel_rfl) (by kernel_rfl) rfl rfl rfl rfl (hx36.sh hF17 [0, 1, 2, 3, 4, 5, 6, 7, 8] (by decide) rfl) (fun _ hC => ?_) ?_
            ·obtain ⟨_, _, hleq, hq⟩ := hC
             refine r_move rfl rfl rfl (r_nil (qq rfl))
            obtain ⟨v23, hb12, hm⟩ := bind_some hm
            refine d_mid (fuel' := 28) (listed' := #[true, true, true, true, true, true, true, true, true, true, true, true, true, false, false, false, false, false, false, false, false, false, false, false, false, false, false, false, false, false, false, false, false, false, false, false, false, false, false, false, false]) (fun a w' => ∃ (Fx18 : Frz), Frz.le Fx17 Fx18 ∧ HS F w [] Fx18 [.box b9 26 [.int .i64 v9.1.P.Sign, .slice as17 ns17 cs17, .int .i64 v9.1.Q.Sign, .slice as18 ns18 cs18], .box b8 26 [.int .i64 v8.1.P.Sign, .slice as15 ns15 cs15, .int .i64 v8.1.Q.Sign, .slice as16 ns16 cs16], .box b7 26 [.int .i64 v7.1.P.Sign, .slice as13 ns13 cs13, .int .i64 v7.1.Q.Sign, .slice as14 ns14 cs14], .box b6 26 [.int .i64 v6.1.P.Sign, .slice as11 ns11 cs11, .int .i64 v6.1.Q.Sign, .slice as12 ns12 cs12], .box b5 26 [.int .i64 v5.1.P.Sign, .slice as9 ns9 cs9, .int .i64 v5.1.Q.Sign, .slice as10 ns10 cs10], .box b4 26 [.int .i64 v4.1.P.Sign, .slice as7 ns7 cs7, .int .i64 v4.1.Q.Sign, .slice as8 ns8 cs8], .box b3 26 [.int .i64 v3.1.P.Sign, .slice as5 ns5 cs5, .int .i64 v3.1.Q.Sign, .slice as6 ns6 cs6], .box b2 26 [.int .i64 v2.P.Sign, .slice as3 ns3 cs3, .int .i64 v2.Q.Sign, .slice as4 ns4 cs4], .box b1 26 [.int .i64 v1.P.Sign, .slice as1 ns1 cs1, .int .i64 v1.Q.Sign, .slice as2 ns2 cs2]] w' ∧ Has 144 a [(1, .pointer (some ⟨b1, 0, none⟩)), (2, .pointer (some ⟨b2, 0, none⟩)), (14, .int .i64 v8.2), (15, .pointer (some ⟨b9, 0, none⟩)), (16, .int .i64 v9.2), (116, .bool v23)]) ?_ (fun hK2 => ?_)
            ·rintro a wx42 ⟨Fx18, hF18, hx37, hax12⟩
             refine dw_apply hax12 ?_
             refine d_take 13 (v := .bool v23) rfl (by kernel_rfl) (by kernel_rfl) (by kernel_rfl) rfl rfl rfl rfl (hx37.sh (hF17.trans hF18) [0, 1, 2, 3, 4, 5, 6, 7, 8] (by decide) rfl) (fun _ hC => ?_) ?_
             ·obtain ⟨_, _, hleq, hq⟩ := hC
              refine r_move rfl rfl rfl (r_nil (qq rfl))
             obtain ⟨v24, hb13, hm⟩ := bind_some hm
             refine d_mid (fuel' := 24) (listed' := #[true, true, true, true, true, true, true, true, true, true, true, true, true, true, true, true, true, false, false, false, false, false, false, false, false, false, false, false, false, false, false, false, false, false, false, false, false, false, false, false, false]) (fun a w' => wx42 = w' ∧ Has 144 a [(1, .pointer (some ⟨b1, 0, none⟩)), (2, .pointer (some ⟨b2, 0, none⟩)), (15, .pointer (some ⟨b9, 0, none⟩)), (16, .int .i64 v9.2), (120, .bool v24)]) ?_ (fun hK3 => ?_)
             ·rintro a wx43 ⟨rfl, hax13⟩
              refine dw_apply hax13 ?_
              refine d_take 17 (v := .bool v24) rfl (by kernel_rfl) (by kernel_rfl) (by kernel_rfl) rfl rfl rfl rfl (hx37.sh (hF17.trans hF18) [0, 1, 2, 3, 4, 5, 6, 7, 8] (by decide) rfl) (fun _ hC => ?_) ?_
              ·obtain ⟨_, _, hleq, hq⟩ := hC
               refine r_move rfl rfl rfl (r_nil (qq rfl))
              obtain ⟨v25, hb14, hm⟩ := bind_some hm
              refine d_mid (fuel' := 20) (listed' := #[true, true, true, true, true, true, true, true, true, true, true, true, true, true, true, true, true, true, true, true, true, false, false, false, false, false, false, false, false, false, false, false, false, false, false, false, false, false, false, false, false]) (fun a w' => wx42 = w' ∧ Has 144 a [(1, .pointer (some ⟨b1, 0, none⟩)), (2, .pointer (some ⟨b2, 0, none⟩)), (15, .pointer (some ⟨b9, 0, none⟩)), (124, .bool v25)]) ?_ (fun hK4 => ?_)
              ·rintro a wx44 ⟨rfl, hax14⟩
               refine dw_apply hax14 ?_
               refine d_take 21 (v := .bool v25) rfl (by kernel_rfl) (by kernel_rfl) (by kernel_rfl) rfl rfl rfl rfl (hx37.sh (hF17.trans hF18) [0, 1, 2, 3, 4, 5, 6, 7, 8] (by decide) rfl) (fun _ hC => ?_) ?_
               ·obtain ⟨_, _, hleq, hq⟩ := hC
                refine r_move rfl rfl rfl (r_nil (qq rfl))
               obtain ⟨v26, hb15, hm⟩ := bind_some hm
               refine d_mid (fuel' := 15) (listed' := #[true, true, true, true, true, true, true, true, true, true, true, true, true, true, true, true, true, true, true, true, true, true, true, true, true, true, false, false, false, false, false, false, false, false, false, false, false, false, false, false, false]) (fun a w' => ∃ (Fx19 : Frz), Frz.le Fx18 Fx19 ∧ HS F w [] Fx19 [.box b9 26 [.int .i64 v9.1.P.Sign, .slice as17 ns17 cs17, .int .i64 v9.1.Q.Sign, .slice as18 ns18 cs18], .box b8 26 [.int .i64 v8.1.P.Sign, .slice as15 ns15 cs15, .int .i64 v8.1.Q.Sign, .slice as16 ns16 cs16], .box b7 26 [.int .i64 v7.1.P.Sign, .slice as13 ns13 cs13, .int .i64 v7.1.Q.Sign, .slice as14 ns14 cs14], .box b6 26 [.int .i64 v6.1.P.Sign, .slice as11 ns11 cs11, .int .i64 v6.1.Q.Sign, .slice as12 ns12 cs12], .box b5 26 [.int .i64 v5.1.P.Sign, .slice as9 ns9 cs9, .int .i64 v5.1.Q.Sign, .slice as10 ns10 cs10], .box b4 26 [.int .i64 v4.1.P.Sign, .slice as7 ns7 cs7, .int .i64 v4.1.Q.Sign, .slice as8 ns8 cs8], .box b3 26 [.int .i64 v3.1.P.Sign, .slice as5 ns5 cs5, .int .i64 v3.1.Q.Sign, .slice as6 ns6 cs6], .box b2 26 [.int .i64 v2.P.Sign, .slice as3 ns3 cs3, .int .i64 v2.Q.Sign, .slice as4 ns4 cs4], .box b1 26 [.int .i64 v1.P.Sign, .slice as1 ns1 cs1, .int .i64 v1.Q.Sign, .slice as2 ns2 cs2]] w' ∧ Has 144 a [(1, .pointer (some ⟨b1, 0, none⟩)), (2, .pointer (some ⟨b2, 0, none⟩)), (129, .bool v26)]) ?_ (fun hK5 => ?_)
               ·rintro a wx45 ⟨Fx19, hF19, hx38, hax15⟩
                refine dw_apply hax15 ?_
                refine d_take 26 (v := .bool v26) rfl (by kernel_rfl) (by kernel_rfl) (by kernel_rfl) rfl rfl rfl rfl (hx38.sh ((hF17.trans hF18).trans hF19) [0, 1, 2, 3, 4, 5, 6, 7, 8] (by decide) rfl) (fun _ hC => ?_) ?_
                ·obtain ⟨_, _, hleq, hq⟩ := hC
                 refine r_move rfl rfl rfl (r_nil (qq rfl))
                obtain ⟨v27, hb16, hm⟩ := bind_some hm
                refine d_mid (fuel' := 11) (listed' := #[true, true, true, true, true, true, true, true, true, true, true, true, true, true, true, true, true, true, true, true, true, true, true, true, true, true, true, true, true, true, false, false, false, false, false, false, false, false, false, false, false]) (fun a w' => ∃ (Fx20 : Frz), Frz.le Fx19 Fx20 ∧ HS F w [] Fx20 [.box b9 26 [.int .i64 v9.1.P.Sign, .slice as17 ns17 cs17, .int .i64 v9.1.Q.Sign, .slice as18 ns18 cs18], .box b8 26 [.int .i64 v8.1.P.Sign, .slice as15 ns15 cs15, .int .i64 v8.1.Q.Sign, .slice as16 ns16 cs16], .box b7 26 [.int .i64 v7.1.P.Sign, .slice as13 ns13 cs13, .int .i64 v7.1.Q.Sign, .slice as14 ns14 cs14], .box b6 26 [.int .i64 v6.1.P.Sign, .slice as11 ns11 cs11, .int .i64 v6.1.Q.Sign, .slice as12 ns12 cs12], .box b5 26 [.int .i64 v5.1.P.Sign, .slice as9 ns9 cs9, .int .i64 v5.1.Q.Sign, .slice as10 ns10 cs10], .box b4 26 [.int .i64 v4.1.P.Sign, .slice as7 ns7 cs7, .int .i64 v4.1.Q.Sign, .slice as8 ns8 cs8], .box b3 26 [.int .i64 v3.1.P.Sign, .slice as5 ns5 cs5, .int .i64 v3.1.Q.Sign, .slice as6 ns6 cs6], .box b2 26 [.int .i64 v2.P.Sign, .slice as3 ns3 cs3, .int .i64 v2.Q.Sign, .slice as4 ns4 cs4], .box b1 26 [.int .i64 v1.P.Sign, .slice as1 ns1 cs1, .int .i64 v1.Q.Sign, .slice as2 ns2 cs2]] w' ∧ Has 144 a [(2, .pointer (some ⟨b2, 0, none⟩)), (133, .bool v27)]) ?_ (fun hK6 => ?_)
                ·rintro a wx46 ⟨Fx20, hF20, hx39, hax16⟩
                 refine dw_apply hax16 ?_
                 refine d_take 30 (v := .bool v27) rfl (by kernel_rfl) (by kernel_rfl) (by kernel_rfl) rfl rfl rfl rfl (hx39.sh (((hF17.trans hF18).trans hF19).trans hF20) [0, 1, 2, 3, 4, 5, 6, 7, 8] (by decide) rfl) (fun _ hC => ?_) ?_
                 ·obtain ⟨_, _, hleq, hq⟩ := hC
                  refine r_move rfl rfl rfl (r_nil (qq rfl))
                 obtain ⟨v28, hb17, hm⟩ := bind_some hm
                 refine d_mid (fuel' := 6) (listed' := #[true, true, true, true, true, true, true, true, true, true, true, true, true, true, true, true, true, true, true, true, true, true, true, true, true, true, true, true, true, true, true, true, true, true, true, false, false, false, false, false, false]) (fun a w' => ∃ (Fx21 : Frz), Frz.le Fx20 Fx21 ∧ HS F w [] Fx21 [.box b9 26 [.int .i64 v9.1.P.Sign, .slice as17 ns17 cs17, .int .i64 v9.1.Q.Sign, .slice as18 ns18 cs18], .box b8 26 [.int .i64 v8.1.P.Sign, .slice as15 ns15 cs15, .int .i64 v8.1.Q.Sign, .slice as16 ns16 cs16], .box b7 26 [.int .i64 v7.1.P.Sign, .slice as13 ns13 cs13, .int .i64 v7.1.Q.Sign, .slice as14 ns14 cs14], .box b6 26 [.int .i64 v6.1.P.Sign, .slice as11 ns11 cs11, .int .i64 v6.1.Q.Sign, .slice as12 ns12 cs12], .box b5 26 [.int .i64 v5.1.P.Sign, .slice as9 ns9 cs9, .int .i64 v5.1.Q.Sign, .slice as10 ns10 cs10], .box b4 26 [.int .i64 v4.1.P.Sign, .slice as7 ns7 cs7, .int .i64 v4.1.Q.Sign, .slice as8 ns8 cs8], .box b3 26 [.int .i64 v3.1.P.Sign, .slice as5 ns5 cs5, .int .i64 v3.1.Q.Sign, .slice as6 ns6 cs6], .box b2 26 [.int .i64 v2.P.Sign, .slice as3 ns3 cs3, .int .i64 v2.Q.Sign, .slice as4 ns4 cs4], .box b1 26 [.int .i64 v1.P.Sign, .slice as1 ns1 cs1, .int .i64 v1.Q.Sign, .slice as2 ns2 cs2]] w' ∧ Has 144 a [(2, .pointer (some ⟨b2, 0, none⟩)), (138, .bool v28)]) ?_ (fun hK7 => ?_)
                 ·rintro a wx47 ⟨Fx21, hF21, hx40, hax17⟩
                  refine dw_apply hax17 ?_
                  refine d_take 35 (v := .bool v28) rfl (by kernel_rfl) (by kernel_rfl) (by kernel_rfl) rfl rfl rfl rfl (hx40.sh ((((hF17.trans hF18).trans hF19).trans hF20).trans hF21) [0, 1, 2, 3, 4, 5, 6, 7, 8] (by decide) rfl) (fun _ hC => ?_) ?_
                  ·obtain ⟨_, _, hleq, hq⟩ := hC
                   refine r_move rfl rfl rfl (r_nil (qq rfl))
                  obtain ⟨v29, hb18, hm⟩ := bind_some hm
                  refine d_mid (fuel' := 1) (listed' := #[true, true, true, true, true, true, true, true, true, true, true, true, true, true, true, true, true, true, true, true, true, true, true, true, true, true, true, true, true, true, true, true, true, true, true, true, true, true, true, true, false]) (fun a w' => ∃ (Fx22 : Frz), Frz.le Fx21 Fx22 ∧ HS F w [] Fx22 [.box b9 26 [.int .i64 v9.1.P.Sign, .slice as17 ns17 cs17, .int .i64 v9.1.Q.Sign, .slice as18 ns18 cs18], .box b8 26 [.int .i64 v8.1.P.Sign, .slice as15 ns15 cs15, .int .i64 v8.1.Q.Sign, .slice as16 ns16 cs16], .box b7 26 [.int .i64 v7.1.P.Sign, .slice as13 ns13 cs13, .int .i64 v7.1.Q.Sign, .slice as14 ns14 cs14], .box b6 26 [.int .i64 v6.1.P.Sign, .slice as11 ns11 cs11, .int .i64 v6.1.Q.Sign, .slice as12 ns12 cs12], .box b5 26 [.int .i64 v5.1.P.Sign, .slice as9 ns9 cs9, .int .i64 v5.1.Q.Sign, .slice as10 ns10 cs10], .box b4 26 [.int .i64 v4.1.P.Sign, .slice as7 ns7 cs7, .int .i64 v4.1.Q.Sign, .slice as8 ns8 cs8], .box b3 26 [.int .i64 v3.1.P.Sign, .slice as5 ns5 cs5, .int .i64 v3.1.Q.Sign, .slice as6 ns6 cs6], .box b2 26 [.int .i64 v2.P.Sign, .slice as3 ns3 cs3, .int .i64 v2.Q.Sign, .slice as4 ns4 cs4], .box b1 26 [.int .i64 v1.P.Sign, .slice as1 ns1 cs1, .int .i64 v1.Q.Sign, .slice as2 ns2 cs2]] w' ∧ Has 144 a [(143, .bool v29)]) ?_ (fun hK8 => ?_)
                  ·rintro a wx48 ⟨Fx22, hF22, hx41, hax18⟩
                   refine dw_apply hax18 ?_
                   refine d_take 40 (v := .bool v29) rfl (by kernel_rfl) (by kernel_rfl) (by kernel_rfl) rfl rfl rfl rfl (hx41.sh (((((hF17.trans hF18).trans hF19).trans hF20).trans hF21).trans hF22) [0, 1, 2, 3, 4, 5, 6, 7, 8] (by decide) rfl) (fun _ hC => ?_) ?_
                   ·obtain ⟨_, _, hleq, hq⟩ := hC
                    refine r_assign rfl rfl rfl (r_nil (qq rfl))
                   refine d_done (by kernel_rfl) ?_
                   refine q_then (c_ret ?_)
                   refine b_ret1 rfl rfl ?_
                   obtain rfl := Option.some.inj hm
                   exact ⟨_, _, _, rfl, hx41.pick [] (by decide) rfl, rfl, rfl⟩
                  ·clear hm
                   rcases cond_some hb18 with ⟨hb19, hb18⟩ | ⟨hb19, hb18⟩
                   ·refine d_lit 139 rfl hb19 ?_
                    refine d_take 37 (v := .agg #[.int .i64 v2.P.Sign, .slice as3 ns3 cs3, .int .i64 v2.Q.Sign, .slice as4 ns4 cs4]) rfl (by kernel_rfl) (by kernel_rfl) (by kernel_rfl) rfl rfl rfl rfl (hx40.sh ((((hF17.trans hF18).trans hF19).trans hF20).trans hF21) [0, 1, 2, 3, 4, 5, 6, 7, 8] (by decide) rfl) (fun _ hC => ?_) ?_
                    ·obtain ⟨_, _, hleq, hq⟩ := hC
                     refine r_loadBA (cs' := [.int .i64 v2.P.Sign, .slice as3 ns3 cs3, .int .i64 v2.Q.Sign, .slice as4 ns4 cs4]) ag26 sz26 rfl rfl hq rfl (i := 7) rfl rfl rfl (r_nil (qq rfl))
                    refine d_step 36 rfl (by kernel_rfl) ?_
                    obtain ⟨v30, hv12, hb18⟩ := bind_some hb18
                    refine r_callG0 ent46 rfl rfl rfl rfl hx40 (law05_of_ok _ _ _ _ hv12 hx40.sat) ?_
                    rintro _ Fx23 _ wx49 hF23 hx42 ⟨as21, ns21, cs21, as22, ns22, cs22, rfl, rfl, hs21, hs22⟩
                    refine d_next (hx42.sh (((((hF17.trans hF18).trans hF19).trans hF20).trans hF21).trans hF23) [0, 1, 2, 3, 4, 5, 6, 7, 8] (by decide) rfl) ?_
                    refine d_step 38 rfl (by kernel_rfl) ?_
                    have hG4 := (((((((((((((((hG2.trans hF7).trans hF8).trans hF9).trans hF10).trans hF11).trans hF12).trans hF13).trans hF14).trans hF15).trans hF16).trans hF17).trans hF18).trans hF19).trans hF20).trans hF21).trans hF23
                    obtain ⟨v31, hv13, hb18⟩ := bind_some hb18
                    refine r_callG0 ent51 rfl rfl rfl rfl hx42 (law05_least_ok _ _ _ _ hv13 hx42.sat hs21 hs22 (hs3.mono hG4) (hs4.mono hG4)) ?_
                    rintro _ Fx24 _ wx50 hF24 hx43 ⟨rfl, rfl⟩
                    refine d_next (hx43.sh ((((((hF17.trans hF18).trans hF19).trans hF20).trans hF21).trans hF23).trans hF24) [0, 1, 2, 3, 4, 5, 6, 7, 8] (by decide) rfl) ?_
                    refine d_take 39 (v := .bool v31) rfl (by kernel_rfl) (by kernel_rfl) (by kernel_rfl) rfl rfl rfl rfl (hx43.sh ((((((hF17.trans hF18).trans hF19).trans hF20).trans hF21).trans hF23).trans hF24) [0, 1, 2, 3, 4, 5, 6, 7, 8] (by decide) rfl) (fun _ hC => ?_) ?_
                    ·obtain ⟨_, _, hleq, hq⟩ := hC
                     refine r_pick_true rfl rfl rfl rfl (r_nil (qq rfl))
                    refine d_fin hK8 (by kernel_rfl) (fun a ha => ?_)
                    cases hb18
                    exact ⟨_, (hF23.trans hF24), hx43.pick [0, 1, 2, 3, 4, 5, 6, 7, 8] (by decide) rfl, ha.cut (l := [143]) rfl⟩
                   ·refine d_lit 139 rfl hb19 ?_
                    refine d_off 36 rfl (by kernel_rfl) (by kernel_rfl) (by kernel_rfl) rfl rfl rfl (hx40.sh ((((hF17.trans hF18).trans hF19).trans hF20).trans hF21) [0, 1, 2, 3, 4, 5, 6, 7, 8] (by decide) rfl) ?_
                    refine d_off 37 rfl (by kernel_rfl) (by kernel_rfl) (by kernel_rfl) rfl rfl rfl (hx40.sh ((((hF17.trans hF18).trans hF19).trans hF20).trans hF21) [0, 1, 2, 3, 4, 5, 6, 7, 8] (by decide) rfl) ?_
                    refine d_off 38 rfl (by kernel_rfl) (by kernel_rfl) (by kernel_rfl) rfl rfl rfl (hx40.sh ((((hF17.trans hF18).trans hF19).trans hF20).trans hF21) [0, 1, 2, 3, 4, 5, 6, 7, 8] (by decide) rfl) ?_
                    refine d_take 39 (v := .bool false) rfl (by kernel_rfl) (by kernel_rfl) (by kernel_rfl) rfl rfl rfl rfl (hx40.sh ((((hF17.trans hF18).trans hF19).trans hF20).trans hF21) [0, 1, 2, 3, 4, 5, 6, 7, 8] (by decide) rfl) (fun _ hC => ?_) ?_
                    ·obtain ⟨_, _, hleq, hq⟩ := hC
                     refine r_pick_false rfl rfl rfl rfl (r_nil (qq rfl))
                    refine d_fin hK8 (by kernel_rfl) (fun a ha => ?_)
                    cases hb18
                    exact ⟨_, Frz.refl _, hx40.pick [0, 1, 2, 3, 4, 5, 6, 7, 8] (by decide) rfl, ha.cut (l := [143]) rfl⟩
                 ·clear hm
                  rcases cond_some hb17 with ⟨hb20, hb17⟩ | ⟨hb20, hb17⟩
                  ·refine d_lit 134 rfl hb20 ?_
                   refine d_take 31 (v := .agg #[.int .i64 0, .slice none 0 0, .int .i64 0, .slice none 0 0]) rfl (by kernel_rfl) (by kernel_rfl) (by kernel_rfl) rfl rfl rfl rfl (hx39.sh (((hF17.trans hF18).trans hF19).trans hF20) [0, 1, 2, 3, 4, 5, 6, 7, 8] (by decide) rfl) (fun _ hC => ?_) ?_
                   ·obtain ⟨_, _, hleq, hq⟩ := hC
                    refine r_build (v := .agg #[.int .i64 0, .slice none 0 0, .int .i64 0, .slice none 0 0]) rfl rfl rfl (fun _ => by kernel_rfl) (r_nil (qq rfl))
                   refine d_step 32 rfl (by kernel_rfl) ?_
                   obtain ⟨v32, hv14, hb17⟩ := bind_some hb17
                   refine r_callG0 ent25 rfl rfl rfl rfl hx39 (frac_Right_ok _ _ _ hv14 hx39.sat (SlR.nil _ _) (SlR.nil _ _)) ?_
                   rintro _ Fx25 _ wx51 hF25 hx44 ⟨rfl, rfl⟩
                   refine d_next (hx44.sh ((((hF17.trans hF18).trans hF19).trans hF20).trans hF25) [0, 1, 2, 3, 4, 5, 6, 7, 8] (by decide) rfl) ?_
                   refine d_take 33 (v := .bool (!v32)) rfl (by kernel_rfl) (by kernel_rfl) (by kernel_rfl) rfl rfl rfl rfl (hx44.sh ((((hF17.trans hF18).trans hF19).trans hF20).trans hF25) [0, 1, 2, 3, 4, 5, 6, 7, 8] (by decide) rfl) (fun _ hC => ?_) ?_
                   ·obtain ⟨_, _, hleq, hq⟩ := hC
                    refine r_not rfl rfl rfl (r_nil (qq rfl))
                   refine d_take 34 (v := .bool (!v32)) rfl (by kernel_rfl) (by kernel_rfl) (by kernel_rfl) rfl rfl rfl rfl (hx44.sh ((((hF17.trans hF18).trans hF19).trans hF20).trans hF25) [0, 1, 2, 3, 4, 5, 6, 7, 8] (by decide) rfl) (fun _ hC => ?_) ?_
                   ·obtain ⟨_, _, hleq, hq⟩ := hC
                    refine r_pick_true rfl rfl rfl rfl (r_nil (qq rfl))
                   refine d_fin hK7 (by kernel_rfl) (fun a ha => ?_)
                   cases hb17
                   exact ⟨_, hF25, hx44.pick [0, 1, 2, 3, 4, 5, 6, 7, 8] (by decide) rfl, ha.cut (l := [2, 138]) rfl⟩
                  ·refine d_lit 134 rfl hb20 ?_
                   refine d_off 31 rfl (by kernel_rfl) (by kernel_rfl) (by kernel_rfl) rfl rfl rfl (hx39.sh (((hF17.trans hF18).trans hF19).trans hF20) [0, 1, 2, 3, 4, 5, 6, 7, 8] (by decide) rfl) ?_
                   refine d_off 32 rfl (by kernel_rfl) (by kernel_rfl) (by kernel_rfl) rfl rfl rfl (hx39.sh (((hF17.trans hF18).trans hF19).trans hF20) [0, 1, 2, 3, 4, 5, 6, 7, 8] (by decide) rfl) ?_
                   refine d_off 33 rfl (by kernel_rfl) (by kernel_rfl) (by kernel_rfl) rfl rfl rfl (hx39.sh (((hF17.trans hF18).trans hF19).trans hF20) [0, 1, 2, 3, 4, 5, 6, 7, 8] (by decide) rfl) ?_
                   refine d_take 34 (v := .bool false) rfl (by kernel_rfl) (by kernel_rfl) (by kernel_rfl) rfl rfl rfl rfl (hx39.sh (((hF17.trans hF18).trans hF19).trans hF20) [0, 1, 2, 3, 4, 5, 6, 7, 8] (by decide) rfl) (fun _ hC => ?_) ?_
                   ·obtain ⟨_, _, hleq, hq⟩ := hC
                    refine r_pick_false rfl rfl rfl rfl (r_nil (qq rfl))
                   refine d_fin hK7 (by kernel_rfl) (fun a ha => ?_)
                   cases hb17
                   exact ⟨_, Frz.refl _, hx39.pick [0, 1, 2, 3, 4, 5, 6, 7, 8] (by decide) rfl, ha.cut (l := [2, 138]) rfl⟩
                ·clear hm
                 rcases cond_some hb16 with ⟨hb21, hb16⟩ | ⟨hb21, hb16⟩
                 ·refine d_lit 130 rfl hb21 ?_
                  refine d_take 27 (v := .agg #[.int .i64 v1.P.Sign, .slice as1 ns1 cs1, .int .i64 v1.Q.Sign, .slice as2 ns2 cs2]) rfl (by kernel_rfl) (by kernel_rfl) (by kernel_rfl) rfl rfl rfl rfl (hx38.sh ((hF17.trans hF18).trans hF19) [0, 1, 2, 3, 4, 5, 6, 7, 8] (by decide) rfl) (fun _ hC => ?_) ?_
                  ·obtain ⟨_, _, hleq, hq⟩ := hC
                   refine r_loadBA (cs' := [.int .i64 v1.P.Sign, .slice as1 ns1 cs1, .int .i64 v1.Q.Sign, .slice as2 ns2 cs2]) ag26 sz26 rfl rfl hq rfl (i := 8) rfl rfl rfl (r_nil (qq rfl))
                  refine d_step 28 rfl (by kernel_rfl) ?_
                  have hG5 := (((((((((((((hG1.trans hF6).trans hF7).trans hF8).trans hF9).trans hF10).trans hF11).trans hF12).trans hF13).trans hF14).trans hF15).trans hF16).trans hF17).trans hF18).trans hF19
                  obtain ⟨v33, hv15, hb16⟩ := bind_some hb16
                  refine r_callG0 ent25 rfl rfl rfl rfl hx38 (frac_Right_ok _ _ _ hv15 hx38.sat (hs1.mono hG5) (hs2.mono hG5)) ?_
                  rintro _ Fx26 _ wx52 hF26 hx45 ⟨rfl, rfl⟩
                  refine d_next (hx45.sh (((hF17.trans hF18).trans hF19).trans hF26) [0, 1, 2, 3, 4, 5, 6, 7, 8] (by decide) rfl) ?_
                  refine d_take 29 (v := .bool v33) rfl (by kernel_rfl) (by kernel_rfl) (by kernel_rfl) rfl rfl rfl rfl (hx45.sh (((hF17.trans hF18).trans hF19).trans hF26) [0, 1, 2, 3, 4, 5, 6, 7, 8] (by decide) rfl) (fun _ hC => ?_) ?_
                  ·obtain ⟨_, _, hleq, hq⟩ := hC
                   refine r_pick_true rfl rfl rfl rfl (r_nil (qq rfl))
                  refine d_fin hK6 (by kernel_rfl) (fun a ha => ?_)
                  cases hb16
                  exact ⟨_, hF26, hx45.pick [0, 1, 2, 3, 4, 5, 6, 7, 8] (by decide) rfl, ha.cut (l := [2, 133]) rfl⟩
                 ·refine d_lit 130 rfl hb21 ?_
                  refine d_off 27 rfl (by kernel_rfl) (by kernel_rfl) (by kernel_rfl) rfl rfl rfl (hx38.sh ((hF17.trans hF18).trans hF19) [0, 1, 2, 3, 4, 5, 6, 7, 8] (by decide) rfl) ?_
                  refine d_off 28 rfl (by kernel_rfl) (by kernel_rfl) (by kernel_rfl) rfl rfl rfl (hx38.sh ((hF17.trans hF18).trans hF19) [0, 1, 2, 3, 4, 5, 6, 7, 8] (by decide) rfl) ?_
                  refine d_take 29 (v := .bool false) rfl (by kernel_rfl) (by kernel_rfl) (by kernel_rfl) rfl rfl rfl rfl (hx38.sh ((hF17.trans hF18).trans hF19) [0, 1, 2, 3, 4, 5, 6, 7, 8] (by decide) rfl) (fun _ hC => ?_) ?_
                  ·obtain ⟨_, _, hleq, hq⟩ := hC
                   refine r_pick_false rfl rfl rfl rfl (r_nil (qq rfl))
                  refine d_fin hK6 (by kernel_rfl) (fun a ha => ?_)
                  cases hb16
                  exact ⟨_, Frz.refl _, hx38.pick [0, 1, 2, 3, 4, 5, 6, 7, 8] (by decide) rfl, ha.cut (l := [2, 133]) rfl⟩
               ·clear hm
                rcases cond_some hb15 with ⟨hb22, hb15⟩ | ⟨hb22, hb15⟩
                ·refine d_lit 125 rfl hb22 ?_
                 refine d_take 22 (v := .agg #[.int .i64 v9.1.P.Sign, .slice as17 ns17 cs17, .int .i64 v9.1.Q.Sign, .slice as18 ns18 cs18]) rfl (by kernel_rfl) (by kernel_rfl) (by kernel_rfl) rfl rfl rfl rfl (hx37.sh (hF17.trans hF18) [0, 1, 2, 3, 4, 5, 6, 7, 8] (by decide) rfl) (fun _ hC => ?_) ?_
                 ·obtain ⟨_, _, hleq, hq⟩ := hC
                  refine r_loadBA (cs' := [.int .i64 v9.1.P.Sign, .slice as17 ns17 cs17, .int .i64 v9.1.Q.Sign, .slice as18 ns18 cs18]) ag26 sz26 rfl rfl hq rfl (i := 0) rfl rfl rfl (r_nil (qq rfl))
                 refine d_step 23 rfl (by kernel_rfl) ?_
                 obtain ⟨v34, hv16, hb15⟩ := bind_some hb15
                 refine r_callG0 ent46 rfl rfl rfl rfl hx37 (law05_of_ok _ _ _ _ hv16 hx37.sat) ?_
                 rintro _ Fx27 _ wx53 hF27 hx46 ⟨as23, ns23, cs23, as24, ns24, cs24, rfl, rfl, hs23, hs24⟩
                 refine d_next (hx46.sh ((hF17.trans hF18).trans hF27) [0, 1, 2, 3, 4, 5, 6, 7, 8] (by decide) rfl) ?_
                 refine d_step 24 rfl (by kernel_rfl) ?_
                 have hG6 := ((((((((hF10.trans hF11).trans hF12).trans hF13).trans hF14).trans hF15).trans hF16).trans hF17).trans hF18).trans hF27
                 obtain ⟨v35, hv17, hb15⟩ := bind_some hb15
                 refine r_callG0 ent14 rfl rfl rfl rfl hx46 (ref05_Same_ok _ _ _ _ hv17 hx46.sat (hs17.mono hG6) (hs18.mono hG6) hs23 hs24) ?_
                 rintro _ Fx28 _ wx54 hF28 hx47 ⟨rfl, rfl⟩
                 refine d_next (hx47.sh (((hF17.trans hF18).trans hF27).trans hF28) [0, 1, 2, 3, 4, 5, 6, 7, 8] (by decide) rfl) ?_
                 refine d_take 25 (v := .bool v35) rfl (by kernel_rfl) (by kernel_rfl) (by kernel_rfl) rfl rfl rfl rfl (hx47.sh (((hF17.trans hF18).trans hF27).trans hF28) [0, 1, 2, 3, 4, 5, 6, 7, 8] (by decide) rfl) (fun _ hC => ?_) ?_
                 ·obtain ⟨_, _, hleq, hq⟩ := hC
                  refine r_pick_true rfl rfl rfl rfl (r_nil (qq rfl))
                 refine d_fin hK5 (by kernel_rfl) (fun a ha => ?_)
                 cases hb15
                 exact ⟨_, (hF27.trans hF28), hx47.pick [0, 1, 2, 3, 4, 5, 6, 7, 8] (by decide) rfl, ha.cut (l := [1, 2, 129]) rfl⟩
                ·refine d_lit 125 rfl hb22 ?_
                 refine d_off 22 rfl (by kernel_rfl) (by kernel_rfl) (by kernel_rfl) rfl rfl rfl (hx37.sh (hF17.trans hF18) [0, 1, 2, 3, 4, 5, 6, 7, 8] (by decide) rfl) ?_
                 refine d_off 23 rfl (by kernel_rfl) (by kernel_rfl) (by kernel_rfl) rfl rfl rfl (hx37.sh (hF17.trans hF18) [0, 1, 2, 3, 4, 5, 6, 7, 8] (by decide) rfl) ?_
                 refine d_off 24 rfl (by kernel_rfl) (by kernel_rfl) (by kernel_rfl) rfl rfl rfl (hx37.sh (hF17.trans hF18) [0, 1, 2, 3, 4, 5, 6, 7, 8] (by decide) rfl) ?_
                 refine d_take 25 (v := .bool false) rfl (by kernel_rfl) (by kernel_rfl) (by kernel_rfl) rfl rfl rfl rfl (hx37.sh (hF17.trans hF18) [0, 1, 2, 3, 4, 5, 6, 7, 8] (by decide) rfl) (fun _ hC => ?_) ?_
                 ·obtain ⟨_, _, hleq, hq⟩ := hC
                  refine r_pick_false rfl rfl rfl rfl (r_nil (qq rfl))
                 refine d_fin hK5 (by kernel_rfl) (fun a ha => ?_)
                 cases hb15
                 exact ⟨_, Frz.refl _, hx37.pick [0, 1, 2, 3, 4, 5, 6, 7, 8] (by decide) rfl, ha.cut (l := [1, 2, 129]) rfl⟩
              ·clear hm
               rcases cond_some hb14 with ⟨hb23, hb14⟩ | ⟨hb23, hb14⟩
               ·refine d_lit 121 rfl hb23 ?_
                refine d_take 18 (v := .int .i64 v9.2) rfl (by kernel_rfl) (by kernel_rfl) (by kernel_rfl) rfl rfl rfl rfl (hx37.sh (hF17.trans hF18) [0, 1, 2, 3, 4, 5, 6, 7, 8] (by decide) rfl) (fun _ hC => ?_) ?_
                ·obtain ⟨_, _, hleq, hq⟩ := hC
                 refine r_move rfl rfl rfl (r_nil (qq rfl))
                refine d_take 19 (v := .bool (v9.2 == 0)) rfl (by kernel_rfl) (by kernel_rfl) (by kernel_rfl) rfl rfl rfl rfl (hx37.sh (hF17.trans hF18) [0, 1, 2, 3, 4, 5, 6, 7, 8] (by decide) rfl) (fun _ hC => ?_) ?_
                ·obtain ⟨_, _, hleq, hq⟩ := hC
                 refine r_bin rfl rfl rfl rfl rfl (r_nil (qq rfl))
                refine d_take 20 (v := .bool (v9.2 == 0)) rfl (by kernel_rfl) (by kernel_rfl) (by kernel_rfl) rfl rfl rfl rfl (hx37.sh (hF17.trans hF18) [0, 1, 2, 3, 4, 5, 6, 7, 8] (by decide) rfl) (fun _ hC => ?_) ?_
                ·obtain ⟨_, _, hleq, hq⟩ := hC
                 refine r_pick_true rfl rfl rfl rfl (r_nil (qq rfl))
                refine d_fin hK4 (by kernel_rfl) (fun a ha => ?_)
                cases hb14
                exact ⟨rfl, ha.cut (l := [1, 2, 15, 124]) rfl⟩
               ·refine d_lit 121 rfl hb23 ?_
                refine d_off 18 rfl (by kernel_rfl) (by kernel_rfl) (by kernel_rfl) rfl rfl rfl (hx37.sh (hF17.trans hF18) [0, 1, 2, 3, 4, 5, 6, 7, 8] (by decide) rfl) ?_
                refine d_off 19 rfl (by kernel_rfl) (by kernel_rfl) (by kernel_rfl) rfl rfl rfl (hx37.sh (hF17.trans hF18) [0, 1, 2, 3, 4, 5, 6, 7, 8] (by decide) rfl) ?_
                refine d_take 20 (v := .bool false) rfl (by kernel_rfl) (by kernel_rfl) (by kernel_rfl) rfl rfl rfl rfl (hx37.sh (hF17.trans hF18) [0, 1, 2, 3, 4, 5, 6, 7, 8] (by decide) rfl) (fun _ hC => ?_) ?_
                ·obtain ⟨_, _, hleq, hq⟩ := hC
                 refine r_pick_false rfl rfl rfl rfl (r_nil (qq rfl))
                refine d_fin hK4 (by kernel_rfl) (fun a ha => ?_)
                cases hb14
                exact ⟨rfl, ha.cut (l := [1, 2, 15, 124]) rfl⟩
             ·clear hm
              rcases cond_some hb13 with ⟨hb24, hb13⟩ | ⟨hb24, hb13⟩
              ·refine d_lit 117 rfl hb24 ?_
               refine d_take 14 (v := .int .i64 v8.2) rfl (by kernel_rfl) (by kernel_rfl) (by kernel_rfl) rfl rfl rfl rfl (hx37.sh (hF17.trans hF18) [0, 1, 2, 3, 4, 5, 6, 7, 8] (by decide) rfl) (fun _ hC => ?_) ?_
               ·obtain ⟨_, _, hleq, hq⟩ := hC
                refine r_move rfl rfl rfl (r_nil (qq rfl))
               refine d_take 15 (v := .bool (v8.2 == 2)) rfl (by kernel_rfl) (by kernel_rfl) (by kernel_rfl) rfl rfl rfl rfl (hx37.sh (hF17.trans hF18) [0, 1, 2, 3, 4, 5, 6, 7, 8] (by decide) rfl) (fun _ hC => ?_) ?_
               ·obtain ⟨_, _, hleq, hq⟩ := hC
                refine r_bin rfl rfl rfl rfl rfl (r_nil (qq rfl))
               refine d_take 16 (v := .bool (v8.2 == 2)) rfl (by kernel_rfl) (by kernel_rfl) (by kernel_rfl) rfl rfl rfl rfl (hx37.sh (hF17.trans hF18) [0, 1, 2, 3, 4, 5, 6, 7, 8] (by decide) rfl) (fun _ hC => ?_) ?_
               ·obtain ⟨_, _, hleq, hq⟩ := hC
                refine r_pick_true rfl rfl rfl rfl (r_nil (qq rfl))
               refine d_fin hK3 (by kernel_rfl) (fun a ha => ?_)
               cases hb13
               exact ⟨rfl, ha.cut (l := [1, 2, 15, 16, 120]) rfl⟩
              ·refine d_lit 117 rfl hb24 ?_
               refine d_off 14 rfl (by kernel_rfl) (by kernel_rfl) (by kernel_rfl) rfl rfl rfl (hx37.sh (hF17.trans hF18) [0, 1, 2, 3, 4, 5, 6, 7, 8] (by decide) rfl) ?_
               refine d_off 15 rfl (by kernel_rfl) (by kernel_rfl) (by kernel_rfl) rfl rfl rfl (hx37.sh (hF17.trans hF18) [0, 1, 2, 3, 4, 5, 6, 7, 8] (by decide) rfl) ?_
               refine d_take 16 (v := .bool false) rfl (by kernel_rfl) (by kernel_rfl) (by kernel_rfl) rfl rfl rfl rfl (hx37.sh (hF17.trans hF18) [0, 1, 2, 3, 4, 5, 6, 7, 8] (by decide) rfl) (fun _ hC => ?_) ?_
               ·obtain ⟨_, _, hleq, hq⟩ := hC
                refine r_pick_false rfl rfl rfl rfl (r_nil (qq rfl))
               refine d_fin hK3 (by kernel_rfl) (fun a ha => ?_)
               cases hb13
               exact ⟨rfl, ha.cut (l := [1, 2, 15, 16, 120]) rfl⟩
            ·clear hm
             rcases cond_some hb12 with ⟨hb25, hb12⟩ | ⟨hb25, hb12⟩
             ·refine d_lit 111 rfl hb25 ?_
              refine d_step 8 rfl (by kernel_rfl) ?_
              obtain ⟨v36, hv18, hb12⟩ := bind_some hb12
              refine r_callG0 ent46 rfl rfl rfl rfl hx36 (law05_of_ok _ _ _ _ hv18 hx36.sat) ?_
              rintro _ Fx29 _ wx55 hF29 hx48 ⟨as25, ns25, cs25, as26, ns26, cs26, rfl, rfl, hs25, hs26⟩
              refine d_next (hx48.sh (hF17.trans hF29) [0, 1, 2, 3, 4, 5, 6, 7, 8] (by decide) rfl) ?_
              refine d_step 9 rfl (by kernel_rfl) ?_
              obtain ⟨v37, hv19, hb12⟩ := bind_some hb12
              refine r_callG0 ent43 rfl rfl rfl rfl hx48 (frac_Floor_ok _ _ _ hv19 hx48.sat hs25 hs26) ?_
              rintro _ Fx30 _ wx56 hF30 hx49 ⟨as27, ns27, cs27, rfl, rfl, hs27⟩
              refine d_next (hx49.sh ((hF17.trans hF29).trans hF30) [0, 1, 2, 3, 4, 5, 6, 7, 8] (by decide) rfl) ?_
              refine d_step 10 rfl (by kernel_rfl) ?_
              obtain ⟨v38, hv20, hb12⟩ := bind_some hb12
              refine r_callG0 ent48 rfl rfl rfl rfl hx49 (big_Of_ok _ _ _ hv20 hx49.sat) ?_
              rintro _ Fx31 _ wx57 hF31 hx50 ⟨as28, ns28, cs28, rfl, rfl, hs28⟩
              refine d_next (hx50.sh (((hF17.trans hF29).trans hF30).trans hF31) [0, 1, 2, 3, 4, 5, 6, 7, 8] (by decide) rfl) ?_
              refine d_step 11 rfl (by kernel_rfl) ?_
              obtain ⟨v39, hv21, hb12⟩ := bind_some hb12
              refine r_callG0 ent42 rfl rfl rfl rfl hx50 (ref05_SameBig_ok _ _ _ _ hv21 hx50.sat (hs27.mono hF31) hs28) ?_
              rintro _ Fx32 _ wx58 hF32 hx51 ⟨rfl, rfl⟩
              refine d_next (hx51.sh ((((hF17.trans hF29).trans hF30).trans hF31).trans hF32) [0, 1, 2, 3, 4, 5, 6, 7, 8] (by decide) rfl) ?_
              refine d_take 12 (v := .bool v39) rfl (by kernel_rfl) (by kernel_rfl) (by kernel_rfl) rfl rfl rfl rfl (hx51.sh ((((hF17.trans hF29).trans hF30).trans hF31).trans hF32) [0, 1, 2, 3, 4, 5, 6, 7, 8] (by decide) rfl) (fun _ hC => ?_) ?_
              ·obtain ⟨_, _, hleq, hq⟩ := hC
               refine r_pick_true rfl rfl rfl rfl (r_nil (qq rfl))
              refine d_fin hK2 (by kernel_rfl) (fun a ha => ?_)
              cases hb12
              exact ⟨_, (((hF29.trans hF30).trans hF31).trans hF32), hx51.pick [0, 1, 2, 3, 4, 5, 6, 7, 8] (by decide) rfl, ha.cut (l := [1, 2, 14, 15, 16, 116]) rfl⟩
             ·refine d_lit 111 rfl hb25 ?_
              refine d_off 8 rfl (by kernel_rfl) (by kernel_rfl) (by kernel_rfl) rfl rfl rfl (hx36.sh hF17 [0, 1, 2, 3, 4, 5, 6, 7, 8] (by decide) rfl) ?_
              refine d_off 9 rfl (by kernel_rfl) (by kernel_rfl) (by kernel_rfl) rfl rfl rfl (hx36.sh hF17 [0, 1, 2, 3, 4, 5, 6, 7, 8] (by decide) rfl) ?_
              refine d_off 10 rfl (by kernel_rfl) (by kernel_rfl) (by kernel_rfl) rfl rfl rfl (hx36.sh hF17 [0, 1, 2, 3, 4, 5, 6, 7, 8] (by decide) rfl) ?_
              refine d_off 11 rfl (by kernel_rfl) (by kernel_rfl) (by kernel_rfl) rfl rfl rfl (hx36.sh hF17 [0, 1, 2, 3, 4, 5, 6, 7, 8] (by decide) rfl) ?_
              refine d_take 12 (v := .bool false) rfl (by kernel_rfl) (by kernel_rfl) (by kernel_rfl) rfl rfl rfl rfl (hx36.sh hF17 [0, 1, 2, 3, 4, 5, 6, 7, 8] (by decide) rfl) (fun _ hC => ?_) ?_
              ·obtain ⟨_, _, hleq, hq⟩ := hC
               refine r_pick_false rfl rfl rfl rfl (r_nil (qq rfl))
              refine d_fin hK2 (by kernel_rfl) (fun a ha => ?_)
              cases hb12
              exact ⟨_, Frz.refl _, hx36.pick [0, 1, 2, 3, 4, 5, 6, 7, 8] (by decide) rfl, ha.cut (l := [1, 2, 14, 15, 16, 116]) rfl⟩
           ·clear hm
            rcases cond_some hb11 with ⟨hb26, hb11⟩ | ⟨hb26, hb11⟩
            ·refine d_lit 105 rfl hb26 ?_
             refine d_step 2 rfl (by kernel_rfl) ?_
             obtain ⟨v40, hv22, hb11⟩ := bind_some hb11
             refine r_callG0 ent46 rfl rfl rfl rfl hx35 (law05_of_ok _ _ _ _ hv22 hx35.sat) ?_
             rintro _ Fx33 _ wx59 hF33 hx52 ⟨as29, ns29, cs29, as30, ns30, cs30, rfl, rfl, hs29, hs30⟩
             refine d_next (hx52.sh hF33 [0, 1, 2, 3, 4, 5, 6, 7, 8] (by decide) rfl) ?_
             refine d_step 3 rfl (by kernel_rfl) ?_
             obtain ⟨v41, hv23, hb11⟩ := bind_some hb11
             refine r_callG0 ent46 rfl rfl rfl rfl hx52 (law05_of_ok _ _ _ _ hv23 hx52.sat) ?_
             rintro _ Fx34 _ wx60 hF34 hx53 ⟨as31, ns31, cs31, as32, ns32, cs32, rfl, rfl, hs31, hs32⟩
             refine d_next (hx53.sh (hF33.trans hF34) [0, 1, 2, 3, 4, 5, 6, 7, 8] (by decide) rfl) ?_
             refine d_step 4 rfl (by kernel_rfl) ?_
             obtain ⟨v42, hv24, hb11⟩ := bind_some hb11
             refine r_callG0 ent27 rfl rfl rfl rfl hx53 (frac_Compare_ok _ _ _ _ hv24 hx53.sat (hs29.mono hF34) (hs30.mono hF34) hs31 hs32) ?_
             rintro _ Fx35 _ wx61 hF35 hx54 ⟨rfl, rfl⟩
             refine d_next (hx54.sh ((hF33.trans hF34).trans hF35) [0, 1, 2, 3, 4, 5, 6, 7, 8] (by decide) rfl) ?_
             refine d_take 5 (v := .bool (v42 == (-1))) rfl (by kernel_rfl) (by kernel_rfl) (by kernel_rfl) rfl rfl rfl rfl (hx54.sh ((hF33.trans hF34).trans hF35) [0, 1, 2, 3, 4, 5, 6, 7, 8] (by decide) rfl) (fun _ hC => ?_) ?_
             ·obtain ⟨_, _, hleq, hq⟩ := hC
              refine r_bin rfl rfl rfl rfl rfl (r_nil (qq rfl))
             refine d_take 6 (v := .bool (v42 == (-1))) rfl (by kernel_rfl) (by kernel_rfl) (by kernel_rfl) rfl rfl rfl rfl (hx54.sh ((hF33.trans hF34).trans hF35) [0, 1, 2, 3, 4, 5, 6, 7, 8] (by decide) rfl) (fun _ hC => ?_) ?_
             ·obtain ⟨_, _, hleq, hq⟩ := hC
              refine r_pick_true rfl rfl rfl rfl (r_nil (qq rfl))
             refine d_fin hK1 (by kernel_rfl) (fun a ha => ?_)
             cases hb11
             exact ⟨_, ((hF33.trans hF34).trans hF35), hx54.pick [0, 1, 2, 3, 4, 5, 6, 7, 8] (by decide) rfl, ha.cut (l := [1, 2, 14, 15, 16, 110]) rfl⟩
            ·refine d_lit 105 rfl hb26 ?_
             refine d_off 2 rfl (by kernel_rfl) (by kernel_rfl) (by kernel_rfl) rfl rfl rfl (hx35.sh (Frz.refl _) [0, 1, 2, 3, 4, 5, 6, 7, 8] (by decide) rfl) ?_
             refine d_off 3 rfl (by kernel_rfl) (by kernel_rfl) (by kernel_rfl) rfl rfl rfl (hx35.sh (Frz.refl _) [0, 1, 2, 3, 4, 5, 6, 7, 8] (by decide) rfl) ?_
             refine d_off 4 rfl (by kernel_rfl) (by kernel_rfl) (by kernel_rfl) rfl rfl rfl (hx35.sh (Frz.refl _) [0, 1, 2, 3, 4, 5, 6, 7, 8] (by decide) rfl) ?_
             refine d_off 5 rfl (by kernel_rfl) (by kernel_rfl) (by kernel_rfl) rfl rfl rfl (hx35.sh (Frz.refl _) [0, 1, 2, 3, 4, 5, 6, 7, 8] (by decide) rfl) ?_
             refine d_take 6 (v := .bool false) rfl (by kernel_rfl) (by kernel_rfl) (by kernel_rfl) rfl rfl rfl rfl (hx35.sh (Frz.refl _) [0, 1, 2, 3, 4, 5, 6, 7, 8] (by decide) rfl) (fun _ hC => ?_) ?_
             ·obtain ⟨_, _, hleq, hq⟩ := hC
              refine r_pick_false rfl rfl rfl rfl (r_nil (qq rfl))
             refine d_fin hK1 (by kernel_rfl) (fun a ha => ?_)
             cases hb11
             exact ⟨_, Frz.refl _, hx35.pick [0, 1, 2, 3, 4, 5, 6, 7, 8] (by decide) rfl, ha.cut (l := [1, 2, 14, 15, 16, 110]) rfl⟩
          ·clear hm
           rcases cond_some hb10 with ⟨hb27, hb10⟩ | ⟨hb27, hb10⟩
           ·refine r_lit 99 rfl hb27 ?_
            refine r_loadBA (cs' := [.int .i64 v7.1.P.Sign, .slice as13 ns13 cs13, .int .i64 v7.1.Q.Sign, .slice as14 ns14 cs14]) ag26 sz26 rfl rfl hx33 rfl (i := 2) rfl rfl rfl ?_
            have hG7 := ((((((hF8.trans hF9).trans hF10).trans hF11).trans hF12).trans hF13).trans hF14).trans hF15
            have hG8 := (((((((hG3.trans hF8).trans hF9).trans hF10).trans hF11).trans hF12).trans hF13).trans hF14).trans hF15
            obtain ⟨v43, hv25, hb10⟩ := bind_some hb10
            refine r_callG0 ent40 rfl rfl rfl rfl hx33 (frac_Text_ok _ _ _ hv25 hx33.sat (hs13.mono hG7) (hs14.mono hG7) (hg3.mono hG8)) ?_
            rintro _ Fx36 _ wx62 hF36 hx55 ⟨rfl, rfl⟩
            refine r_str rfl rfl rfl rfl rfl ?_
            refine r_pick_true rfl rfl rfl rfl (r_nil ?_)
            refine q_next (fun a ha => ?_)
            cases hb10
            exact ⟨_, hF36, hx55.pick [0, 1, 2, 3, 4, 5, 6, 7, 8] (by decide) rfl, ha.cut (l := [1, 2, 14, 15, 16, 103]) rfl⟩
           ·refine r_lit 99 rfl hb27 ?_
            refine r_off rfl (by decide) rfl (r_off rfl (by decide) rfl (r_off rfl (by decide) rfl (r_pick_false rfl rfl rfl rfl (r_nil ?_))))
            refine q_next (fun a ha => ?_)
            cases hb10
            exact ⟨_, Frz.refl _, hx33.pick [0, 1, 2, 3, 4, 5, 6, 7, 8] (by decide) rfl, ha.cut (l := [1, 2, 14, 15, 16, 103]) rfl⟩
         ·clear hm
          rcases cond_some hb9 with ⟨hb28, hb9⟩ | ⟨hb28, hb9⟩
          ·refine r_lit 94 rfl hb28 ?_
           refine r_loadBA (cs' := [.int .i64 v6.1.P.Sign, .slice as11 ns11 cs11, .int .i64 v6.1.Q.Sign, .slice as12 ns12 cs12]) ag26 sz26 rfl rfl hx32 rfl (i := 3) rfl rfl rfl ?_
           have hG9 := ((((((hF7.trans hF8).trans hF9).trans hF10).trans hF11).trans hF12).trans hF13).trans hF14
           have hG10 := ((((((hG3.trans hF8).trans hF9).trans hF10).trans hF11).trans hF12).trans hF13).trans hF14
           obtain ⟨v44, hv26, hb9⟩ := bind_some hb9
           refine r_callG0 ent40 rfl rfl rfl rfl hx32 (frac_Text_ok _ _ _ hv26 hx32.sat (hs11.mono hG9) (hs12.mono hG9) (hg3.mono hG10)) ?_
           rintro _ Fx37 _ wx63 hF37 hx56 ⟨rfl, rfl⟩
           refine r_str rfl rfl rfl rfl rfl ?_
           refine r_pick_true rfl rfl rfl rfl (r_nil ?_)
           refine q_next (fun a ha => ?_)
           cases hb9
           exact ⟨_, hF37, hx56.pick [0, 1, 2, 3, 4, 5, 6, 7, 8] (by decide) rfl, ha.cut (l := [1, 2, 11, 14, 15, 16, 98]) rfl⟩
          ·refine r_lit 94 rfl hb28 ?_
           refine r_off rfl (by decide) rfl (r_off rfl (by decide) rfl (r_off rfl (by decide) rfl (r_pick_false rfl rfl rfl rfl (r_nil ?_))))
           refine q_next (fun a ha => ?_)
           cases hb9
           exact ⟨_, Frz.refl _, hx32.pick [0, 1, 2, 3, 4, 5, 6, 7, 8] (by decide) rfl, ha.cut (l := [1, 2, 11, 14, 15, 16, 98]) rfl⟩
        ·clear hm
         rcases cond_some hb8 with ⟨hb29, hb8⟩ | ⟨hb29, hb8⟩
         ·refine r_lit 89 rfl hb29 ?_
          refine r_loadBA (cs' := [.int .i64 v5.1.P.Sign, .slice as9 ns9 cs9, .int .i64 v5.1.Q.Sign, .slice as10 ns10 cs10]) ag26 sz26 rfl rfl hx31 rfl (i := 4) rfl rfl rfl ?_
          have hG11 := ((((((hF6.trans hF7).trans hF8).trans hF9).trans hF10).trans hF11).trans hF12).trans hF13
          have hG12 := (((((hG3.trans hF8).trans hF9).trans hF10).trans hF11).trans hF12).trans hF13
          obtain ⟨v45, hv27, hb8⟩ := bind_some hb8
          refine r_callG0 ent40 rfl rfl rfl rfl hx31 (frac_Text_ok _ _ _ hv27 hx31.sat (hs9.mono hG11) (hs10.mono hG11) (hg3.mono hG12)) ?_
          rintro _ Fx38 _ wx64 hF38 hx57 ⟨rfl, rfl⟩
          refine r_str rfl rfl rfl rfl rfl ?_
          refine r_pick_true rfl rfl rfl rfl (r_nil ?_)
          refine q_next (fun a ha => ?_)
          cases hb8
          exact ⟨_, hF38, hx57.pick [0, 1, 2, 3, 4, 5, 6, 7, 8] (by decide) rfl, ha.cut (l := [1, 2, 9, 11, 14, 15, 16, 93]) rfl⟩
         ·refine r_lit 89 rfl hb29 ?_
          refine r_off rfl (by decide) rfl (r_off rfl (by decide) rfl (r_off rfl (by decide) rfl (r_pick_false rfl rfl rfl rfl (r_nil ?_))))
          refine q_next (fun a ha => ?_)
          cases hb8
          exact ⟨_, Frz.refl _, hx31.pick [0, 1, 2, 3, 4, 5, 6, 7, 8] (by decide) rfl, ha.cut (l := [1, 2, 9, 11, 14, 15, 16, 93]) rfl⟩
       ·clear hm
        rcases cond_some hb7 with ⟨hb30, hb7⟩ | ⟨hb30, hb7⟩
        ·refine r_lit 84 rfl hb30 ?_
         refine r_loadBA (cs' := [.int .i64 v4.1.P.Sign, .slice as7 ns7 cs7, .int .i64 v4.1.Q.Sign, .slice as8 ns8 cs8]) ag26 sz26 rfl rfl hx30 rfl (i := 5) rfl rfl rfl ?_
         have hG13 := ((((((hF5.trans hF6).trans hF7).trans hF8).trans hF9).trans hF10).trans hF11).trans hF12
         have hG14 := ((((hG3.trans hF8).trans hF9).trans hF10).trans hF11).trans hF12
         obtain ⟨v46, hv28, hb7⟩ := bind_some hb7
         refine r_callG0 ent40 rfl rfl rfl rfl hx30 (frac_Text_ok _ _ _ hv28 hx30.sat (hs7.mono hG13) (hs8.mono hG13) (hg3.mono hG14)) ?_
         rintro _ Fx39 _ wx65 hF39 hx58 ⟨rfl, rfl⟩
         refine r_str rfl rfl rfl rfl rfl ?_
         refine r_pick_true rfl rfl rfl rfl (r_nil ?_)
         refine q_next (fun a ha => ?_)
         cases hb7
         exact ⟨_, hF39, hx58.pick [0, 1, 2, 3, 4, 5, 6, 7, 8] (by decide) rfl, ha.cut (l := [1, 2, 7, 9, 11, 14, 15, 16, 88]) rfl⟩
        ·refine r_lit 84 rfl hb30 ?_
         refine r_off rfl (by decide) rfl (r_off rfl (by decide) rfl (r_off rfl (by decide) rfl (r_pick_false rfl rfl rfl rfl (r_nil ?_))))
         refine q_next (fun a ha => ?_)
         cases hb7
         exact ⟨_, Frz.refl _, hx30.pick [0, 1, 2, 3, 4, 5, 6, 7, 8] (by decide) rfl, ha.cut (l := [1, 2, 7, 9, 11, 14, 15, 16, 88]) rfl⟩
      ·clear hm
       rcases cond_some hb6 with ⟨hb31, hb6⟩ | ⟨hb31, hb6⟩
       ·refine r_lit 80 rfl hb31 ?_
        refine r_move rfl rfl rfl ?_
        refine r_bin rfl rfl rfl rfl rfl ?_
        refine r_pick_true rfl rfl rfl rfl (r_nil ?_)
        refine q_next (fun a ha => ?_)
        cases hb6
        exact ⟨rfl, ha.cut (l := [1, 2, 5, 7, 9, 11, 14, 15, 16, 83]) rfl⟩
       ·refine r_lit 80 rfl hb31 ?_
        refine r_off rfl (by decide) rfl (r_off rfl (by decide) rfl (r_pick_false rfl rfl rfl rfl (r_nil ?_)))
        refine q_next (fun a ha => ?_)
        cases hb6
        exact ⟨rfl, ha.cut (l := [1, 2, 5, 7, 9, 11, 14, 15, 16, 83]) rfl⟩
     ·clear hm
      rcases cond_some hb5 with ⟨hb32, hb5⟩ | ⟨hb32, hb5⟩
      ·refine r_lit 76 rfl hb32 ?_
       refine r_move rfl rfl rfl ?_
       refine r_bin rfl rfl rfl rfl rfl ?_
       refine r_pick_true rfl rfl rfl rfl (r_nil ?_)
       refine q_next (fun a ha => ?_)
       cases hb5
       exact ⟨rfl, ha.cut (l := [1, 2, 5, 7, 9, 11, 12, 14, 15, 16, 79]) rfl⟩
      ·refine r_lit 76 rfl hb32 ?_
       refine r_off rfl (by decide) rfl (r_off rfl (by decide) rfl (r_pick_false rfl rfl rfl rfl (r_nil ?_)))
       refine q_next (fun a ha => ?_)
       cases hb5
       exact ⟨rfl, ha.cut (l := [1, 2, 5, 7, 9, 11, 12, 14, 15, 16, 79]) rfl⟩
    ·clear hm
     rcases cond_some hb4 with ⟨hb33, hb4⟩ | ⟨hb33, hb4⟩
     ·refine r_lit 72 rfl hb33 ?_
      refine r_move rfl rfl rfl ?_
      refine r_bin rfl rfl rfl rfl rfl ?_
      refine r_pick_true rfl rfl rfl rfl (r_nil ?_)
      refine q_next (fun a ha => ?_)
      cases hb4
      exact ⟨rfl, ha.cut (l := [1, 2, 5, 7, 9, 10, 11, 12, 14, 15, 16, 75]) rfl⟩
     ·refine r_lit 72 rfl hb33 ?_
      refine r_off rfl (by decide) rfl (r_off rfl (by decide) rfl (r_pick_false rfl rfl rfl rfl (r_nil ?_)))
      refine q_next (fun a ha => ?_)
      cases hb4
      exact ⟨rfl, ha.cut (l := [1, 2, 5, 7, 9, 10, 11, 12, 14, 15, 16, 75]) rfl⟩
   ·clear hm
    rcases cond_some hb3 with ⟨hb34, hb3⟩ | ⟨hb34, hb3⟩
    ·refine r_lit 68 rfl hb34 ?_
     refine r_move rfl rfl rfl ?_
     refine r_bin rfl rfl rfl rfl rfl ?_
     refine r_pick_true rfl rfl rfl rfl (r_nil ?_)
     refine q_next (fun a ha => ?_)
     cases hb3
     exact ⟨rfl, ha.cut (l := [1, 2, 5, 7, 8, 9, 10, 11, 12, 14, 15, 16, 71]) rfl⟩
    ·refine r_lit 68 rfl hb34 ?_
     refine r_off rfl (by decide) rfl (r_off rfl (by decide) rfl (r_pick_false rfl rfl rfl rfl (r_nil ?_)))
     refine q_next (fun a ha => ?_)
     cases hb3
     exact ⟨rfl, ha.cut (l := [1, 2, 5, 7, 8, 9, 10, 11, 12, 14, 15, 16, 71]) rfl⟩
  ·clear hm
   rcases cond_some hb2 with ⟨hb35, hb2⟩ | ⟨hb35, hb2⟩
   ·refine r_lit 64 rfl hb35 ?_
    refine r_move rfl rfl rfl ?_
    refine r_bin rfl rfl rfl rfl rfl ?_
    refine r_pick_true rfl rfl rfl rfl (r_nil ?_)
    refine q_next (fun a ha => ?_)
    cases hb2
    exact ⟨rfl, ha.cut (l := [1, 2, 5, 6, 7, 8, 9, 10, 11, 12, 14, 15, 16, 67]) rfl⟩
   ·refine r_lit 64 rfl hb35 ?_
    refine r_off rfl (by decide) rfl (r_off rfl (by decide) rfl (r_pick_false rfl rfl rfl rfl (r_nil ?_)))
    refine q_next (fun a ha => ?_)
    cases hb2
    exact ⟨rfl, ha.cut (l := [1, 2, 5, 6, 7, 8, 9, 10, 11, 12, 14, 15, 16, 67]) rfl⟩
 ·clear hm
  rcases cond_some hb1 with ⟨hb36, hb1⟩ | ⟨hb36, hb1⟩
  ·refine r_lit 59 rfl hb36 ?_
   obtain ⟨v47, hv29, hb1⟩ := bind_some hb1
   refine r_callG0 ent46 rfl rfl rfl rfl hx29 (law05_of_ok _ _ _ _ hv29 hx29.sat) ?_
   rintro _ Fx40 _ wx66 hF40 hx59 ⟨as33, ns33, cs33, as34, ns34, cs34, rfl, rfl, hs33, hs34⟩
   have hG15 := ((((hG3.trans hF8).trans hF9).trans hF10).trans hF11).trans hF40
   obtain ⟨v48, hv30, hb1⟩ := bind_some hb1
   refine r_callG0 ent40 rfl rfl rfl rfl hx59 (frac_Text_ok _ _ _ hv30 hx59.sat hs33 hs34 (hg3.mono hG15)) ?_
   rintro _ Fx41 _ wx67 hF41 hx60 ⟨rfl, rfl⟩
   refine r_str rfl rfl rfl rfl rfl ?_
   refine r_pick_true rfl rfl rfl rfl (r_nil ?_)
   refine q_next (fun a ha => ?_)
   cases hb1
   exact ⟨_, (hF40.trans hF41), hx60.pick [0, 1, 2, 3, 4, 5, 6, 7, 8] (by decide) rfl, ha.cut (l := [1, 2, 4, 5, 6, 7, 8, 9, 10, 11, 12, 14, 15, 16, 63]) rfl⟩
  ·refine r_lit 59 rfl hb36 ?_
   refine r_off rfl (by decide) rfl (r_off rfl (by decide) rfl (r_off rfl (by decide) rfl (r_pick_false rfl rfl rfl rfl (r_nil ?_))))
   refine q_next (fun a ha => ?_)
   cases hb1
   exact ⟨_, Frz.refl _, hx29.pick [0, 1, 2, 3, 4, 5, 6, 7, 8] (by decide) rfl, ha.cut (l := [1, 2, 4, 5, 6, 7, 8, 9, 10, 11, 12, 14, 15, 16, 63]) rfl⟩


end Go.Proofs.YtaanocaobllohaaGreatDoor.M
