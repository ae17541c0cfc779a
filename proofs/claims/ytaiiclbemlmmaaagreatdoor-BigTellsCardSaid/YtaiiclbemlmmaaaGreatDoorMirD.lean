/-
  THE MIRRORS of the big integers' functions, of their reference and of the laws, and that each call returns what its mirror says. Printed by gen.py.
-/
import Derived.Test.YtaiiclbemlmmaaaGreatDoorRows
import Derived.Test.YtaiiclbemlmmaaaGreatDoorTrim
import Derived.Test.YtaiiclbemlmmaaaGreatDoorRtX
import Derived.Test.YtaiiclbemlmmaaaGreatDoorMirC
namespace Go.Proofs.YtaiiclbemlmmaaaGreatDoor.M
open Go Go.RowKit Rt

theorem ent10 : Ent Tryz.prog 10 := fun _ _ => by kernel_rfl

theorem ent13 : Ent Tryz.prog 13 := fun _ _ => by kernel_rfl

theorem ent19 : Ent Tryz.prog 19 := fun _ _ => by kernel_rfl

theorem ent17 : Ent Tryz.prog 17 := fun _ _ => by kernel_rfl

theorem ent15 : Ent Tryz.prog 15 := fun _ _ => by kernel_rfl

theorem ent12 : Ent Tryz.prog 12 := fun _ _ => by kernel_rfl

theorem ent32 : Ent Tryz.prog 32 := fun _ _ => by kernel_rfl

theorem ent26 : Ent Tryz.prog 26 := fun _ _ => by kernel_rfl

def law04_small (n : Nat)  : Option Bool :=
 (big_Of n 1048577).bind fun v1 =>
 (big_Of n (-99999999999)).bind fun v2 =>
 (big_Of n 99999999999).bind fun v3 =>
 (big_Mul n v2 v3).bind fun v4 =>
 (big_Of n (-7)).bind fun v5 =>
 (big_Of n 2).bind fun v6 =>
 (big_Div n v5 v6).bind fun v7 =>
 (big_Of n 7).bind fun v8 =>
 (big_Of n (-2)).bind fun v9 =>
 (big_Div n v8 v9).bind fun v10 =>
 (big_Of n (-7)).bind fun v11 =>
 (big_Of n (-2)).bind fun v12 =>
 (big_Div n v11 v12).bind fun v13 =>
 (big_Of n (-12)).bind fun v14 =>
 (big_Of n 18).bind fun v15 =>
 (big_Gcd n v14 v15).bind fun v16 =>
 (big_Of n 0).bind fun v17 =>
 (big_Of n (-5)).bind fun v18 =>
 (big_Gcd n v17 v18).bind fun v19 =>
 (big_Read n [48, 48, 55]).bind fun v20 =>
 (big_Read n [45, 48]).bind fun v21 =>
 (big_Read n []).bind fun v22 =>
 (big_Int n (⟨1, [0, 0, 0, 8]⟩ : Big)).bind fun v23 =>
 (big_Neg n (⟨1, [0, 0, 0, 8]⟩ : Big)).bind fun v24 =>
 (big_Int n v24).bind fun v25 =>
 (ref04_Same n (⟨v1.Sign, v1.Digits⟩ : Big) (⟨1, [1, 1]⟩ : Big)).bind fun v26 =>
 (bif v26 then
  some (v4.2 == 0)
 else
  some false).bind fun v27 =>
 (bif v27 then
  (big_Text n (⟨v4.1.Sign, v4.1.Digits⟩ : Big)).bind fun v49 =>
  some (v49 == [45, 57, 57, 57, 57, 57, 57, 57, 57, 57, 57, 56, 48, 48, 48, 48, 48, 48, 48, 48, 48, 48, 49])
 else
  some false).bind fun v28 =>
 (bif v28 then
  (law04_pair n (⟨v7.1.Sign, v7.1.Digits⟩ : Big) (⟨v7.2.1.Sign, v7.2.1.Digits⟩ : Big) v7.2.2 (-4) 1).bind fun v48 =>
  some v48
 else
  some false).bind fun v29 =>
 (bif v29 then
  (law04_pair n (⟨v10.1.Sign, v10.1.Digits⟩ : Big) (⟨v10.2.1.Sign, v10.2.1.Digits⟩ : Big) v10.2.2 (-4) (-1)).bind fun v47 =>
  some v47
 else
  some false).bind fun v30 =>
 (bif v30 then
  (law04_pair n (⟨v13.1.Sign, v13.1.Digits⟩ : Big) (⟨v13.2.1.Sign, v13.2.1.Digits⟩ : Big) v13.2.2 3 (-1)).bind fun v46 =>
  some v46
 else
  some false).bind fun v31 =>
 (bif v31 then
  some (v16.2 == 0)
 else
  some false).bind fun v32 =>
 (bif v32 then
  (big_Of n 6).bind fun v44 =>
  (big_Same n (⟨v16.1.Sign, v16.1.Digits⟩ : Big) v44).bind fun v45 =>
  some v45
 else
  some false).bind fun v33 =>
 (bif v33 then
  some (v19.2 == 0)
 else
  some false).bind fun v34 =>
 (bif v34 then
  (big_Of n 5).bind fun v42 =>
  (big_Same n (⟨v19.1.Sign, v19.1.Digits⟩ : Big) v42).bind fun v43 =>
  some v43
 else
  some false).bind fun v35 =>
 (bif v35 then
  some (v20.2 == 2)
 else
  some false).bind fun v36 =>
 (bif v36 then
  some (v21.2 == 2)
 else
  some false).bind fun v37 =>
 (bif v37 then
  some (v22.2 == 2)
 else
  some false).bind fun v38 =>
 (bif v38 then
  some (!v23.2)
 else
  some false).bind fun v39 =>
 (bif v39 then
  some v25.2
 else
  some false).bind fun v40 =>
 (bif v40 then
  some (v25.1 == (-9223372036854775808))
 else
  some false).bind fun v41 =>
 some v41

set_option maxHeartbeats 1000000 in
set_option maxRecDepth 1000000 in
theorem law04_small_ok (n : Nat)  (r : Bool) (hm : law04_small n  = some r) {w : World} {F : Frz} (hs : Sat F w) (hg2 : FX F 2 (Lib.pow10Tab.map (Value.int .u64))) :
  Calls Tryz.prog 4 #[] w fun e w' => ∃ v F' O', e = .returned v ∧ HS F w [] F' O' w' ∧ (v = .bool r ∧ O' = []) := by
 unfold law04_small at hm
 have h := HS.init hs
 refine calls_of (args := []) 167 Tryz.func4 rfl rfl rfl ?_
 refine c_seq (c_region (r_assign rfl rfl rfl (r_nil (q_then (c_seq (c_region ?_))))))
 obtain ⟨v1, hv1, hm⟩ := bind_some hm
 refine r_callG0 ent30 rfl rfl rfl rfl h (big_Of_ok _ _ _ hv1 h.sat) ?_
 rintro _ Fx1 _ wx1 hF1 hx1 ⟨as1, ns1, cs1, rfl, rfl, hs1⟩
 refine r_alloc ze24 rfl rfl rfl hx1 ?_
 intro b1 wx2 hx2
 refine r_store sz24 rfl hx2 rfl rfl rfl rfl (i := 0) rfl rfl rfl rfl ?_
 intro wx3 hx3
 refine r_nil (q_then (c_seq (c_region ?_)))
 obtain ⟨v2, hv2, hm⟩ := bind_some hm
 refine r_callG0 ent30 rfl rfl rfl rfl hx3 (big_Of_ok _ _ _ hv2 hx3.sat) ?_
 rintro _ Fx2 _ wx4 hF2 hx4 ⟨as2, ns2, cs2, rfl, rfl, hs2⟩
 obtain ⟨v3, hv3, hm⟩ := bind_some hm
 refine r_callG0 ent30 rfl rfl rfl rfl hx4 (big_Of_ok _ _ _ hv3 hx4.sat) ?_
 rintro _ Fx3 _ wx5 hF3 hx5 ⟨as3, ns3, cs3, rfl, rfl, hs3⟩
 obtain ⟨v4, hv4, hm⟩ := bind_some hm
 refine r_callG0 ent10 rfl rfl rfl rfl hx5 (big_Mul_ok _ _ _ _ hv4 hx5.sat (hs2.mono hF3) hs3) ?_
 rintro _ Fx4 _ wx6 hF4 hx6 ⟨as4, ns4, cs4, rfl, rfl, hs4⟩
 refine r_move rfl rfl rfl (r_extract rfl rfl rfl rfl (r_extract rfl rfl rfl rfl ?_))
 refine r_alloc ze24 rfl rfl rfl hx6 ?_
 intro b2 wx7 hx7
 refine r_store sz24 rfl hx7 rfl rfl rfl rfl (i := 0) rfl rfl rfl rfl ?_
 intro wx8 hx8
 refine r_assign rfl rfl rfl (r_nil (q_then (c_seq (c_region ?_))))
 obtain ⟨v5, hv5, hm⟩ := bind_some hm
 refine r_callG0 ent30 rfl rfl rfl rfl hx8 (big_Of_ok _ _ _ hv5 hx8.sat) ?_
 rintro _ Fx5 _ wx9 hF5 hx9 ⟨as5, ns5, cs5, rfl, rfl, hs5⟩
 obtain ⟨v6, hv6, hm⟩ := bind_some hm
 refine r_callG0 ent30 rfl rfl rfl rfl hx9 (big_Of_ok _ _ _ hv6 hx9.sat) ?_
 rintro _ Fx6 _ wx10 hF6 hx10 ⟨as6, ns6, cs6, rfl, rfl, hs6⟩
 obtain ⟨v7, hv7, hm⟩ := bind_some hm
 refine r_callG0 ent13 rfl rfl rfl rfl hx10 (big_Div_ok _ _ _ _ hv7 hx10.sat (hs5.mono hF6) hs6) ?_
 rintro _ Fx7 _ wx11 hF7 hx11 ⟨as7, ns7, cs7, as8, ns8, cs8, rfl, rfl, hs7, hs8⟩
 refine r_move rfl rfl rfl (r_extract rfl rfl rfl rfl (r_extract rfl rfl rfl rfl (r_extract rfl rfl rfl rfl ?_)))
 refine r_alloc ze24 rfl rfl rfl hx11 ?_
 intro b3 wx12 hx12
 refine r_alloc ze24 rfl rfl rfl hx12 ?_
 intro b4 wx13 hx13
 refine r_store sz24 rfl hx13 rfl rfl rfl rfl (i := 1) rfl rfl rfl rfl ?_
 intro wx14 hx14
 refine r_store sz24 rfl hx14 rfl rfl rfl rfl (i := 0) rfl rfl rfl rfl ?_
 intro wx15 hx15
 refine r_assign rfl rfl rfl (r_nil (q_then (c_seq (c_region ?_))))
 obtain ⟨v8, hv8, hm⟩ := bind_some hm
 refine r_callG0 ent30 rfl rfl rfl rfl hx15 (big_Of_ok _ _ _ hv8 hx15.sat) ?_
 rintro _ Fx8 _ wx16 hF8 hx16 ⟨as9, ns9, cs9, rfl, rfl, hs9⟩
 obtain ⟨v9, hv9, hm⟩ := bind_some hm
 refine r_callG0 ent30 rfl rfl rfl rfl hx16 (big_Of_ok _ _ _ hv9 hx16.sat) ?_
 rintro _ Fx9 _ wx17 hF9 hx17 ⟨as10, ns10, cs10, rfl, rfl, hs10⟩
 obtain ⟨v10, hv10, hm⟩ := bind_some hm
 refine r_callG0 ent13 rfl rfl rfl rfl hx17 (big_Div_ok _ _ _ _ hv10 hx17.sat (hs9.mono hF9) hs10) ?_
 rintro _ Fx10 _ wx18 hF10 hx18 ⟨as11, ns11, cs11, as12, ns12, cs12, rfl, rfl, hs11, hs12⟩
 refine r_move rfl rfl rfl (r_extract rfl rfl rfl rfl (r_extract rfl rfl rfl rfl (r_extract rfl rfl rfl rfl ?_)))
 refine r_alloc ze24 rfl rfl rfl hx18 ?_
 intro b5 wx19 hx19
 refine r_alloc ze24 rfl rfl rfl hx19 ?_
 intro b6 wx20 hx20
 refine r_store sz24 rfl hx20 rfl rfl rfl rfl (i := 1) rfl rfl rfl rfl ?_
 intro wx21 hx21
 refine r_store sz24 rfl hx21 rfl rfl rfl rfl (i := 0) rfl rfl rfl rfl ?_
 intro wx22 hx22
 refine r_assign rfl rfl rfl (r_nil (q_then (c_seq (c_region ?_))))
 obtain ⟨v11, hv11, hm⟩ := bind_some hm
 refine r_callG0 ent30 rfl rfl rfl rfl hx22 (big_Of_ok _ _ _ hv11 hx22.sat) ?_
 rintro _ Fx11 _ wx23 hF11 hx23 ⟨as13, ns13, cs13, rfl, rfl, hs13⟩
 obtain ⟨v12, hv12, hm⟩ := bind_some hm
 refine r_callG0 ent30 rfl rfl rfl rfl hx23 (big_Of_ok _ _ _ hv12 hx23.sat) ?_
 rintro _ Fx12 _ wx24 hF12 hx24 ⟨as14, ns14, cs14, rfl, rfl, hs14⟩
 obtain ⟨v13, hv13, hm⟩ := bind_some hm
 refine r_callG0 ent13 rfl rfl rfl rfl hx24 (big_Div_ok _ _ _ _ hv13 hx24.sat (hs13.mono hF12) hs14) ?_
 rintro _ Fx13 _ wx25 hF13 hx25 ⟨as15, ns15, cs15, as16, ns16, cs16, rfl, rfl, hs15, hs16⟩
 refine r_move rfl rfl rfl (r_extract rfl rfl rfl rfl (r_extract rfl rfl rfl rfl (r_extract rfl rfl rfl rfl ?_)))
 refine r_alloc ze24 rfl rfl rfl hx25 ?_
 intro b7 wx26 hx26
 refine r_alloc ze24 rfl rfl rfl hx26 ?_
 intro b8 wx27 hx27
 refine r_store sz24 rfl hx27 rfl rfl rfl rfl (i := 1) rfl rfl rfl rfl ?_
 intro wx28 hx28
 refine r_store sz24 rfl hx28 rfl rfl rfl rfl (i := 0) rfl rfl rfl rfl ?_
 intro wx29 hx29
 refine r_assign rfl rfl rfl (r_nil (q_then (c_seq (c_region ?_))))
 obtain ⟨v14, hv14, hm⟩ := bind_some hm
 refine r_callG0 ent30 rfl rfl rfl rfl hx29 (big_Of_ok _ _ _ hv14 hx29.sat) ?_
 rintro _ Fx14 _ wx30 hF14 hx30 ⟨as17, ns17, cs17, rfl, rfl, hs17⟩
 obtain ⟨v15, hv15, hm⟩ := bind_some hm
 refine r_callG0 ent30 rfl rfl rfl rfl hx30 (big_Of_ok _ _ _ hv15 hx30.sat) ?_
 rintro _ Fx15 _ wx31 hF15 hx31 ⟨as18, ns18, cs18, rfl, rfl, hs18⟩
 obtain ⟨v16, hv16, hm⟩ := bind_some hm
 refine r_callG0 ent19 rfl rfl rfl rfl hx31 (big_Gcd_ok _ _ _ _ hv16 hx31.sat (hs17.mono hF15) hs18) ?_
 rintro _ Fx16 _ wx32 hF16 hx32 ⟨as19, ns19, cs19, rfl, rfl, hs19⟩
 refine r_move rfl rfl rfl (r_extract rfl rfl rfl rfl (r_extract rfl rfl rfl rfl ?_))
 refine r_alloc ze24 rfl rfl rfl hx32 ?_
 intro b9 wx33 hx33
 refine r_store sz24 rfl hx33 rfl rfl rfl rfl (i := 0) rfl rfl rfl rfl ?_
 intro wx34 hx34
 refine r_assign rfl rfl rfl (r_nil (q_then (c_seq (c_region ?_))))
 obtain ⟨v17, hv17, hm⟩ := bind_some hm
 refine r_callG0 ent30 rfl rfl rfl rfl hx34 (big_Of_ok _ _ _ hv17 hx34.sat) ?_
 rintro _ Fx17 _ wx35 hF17 hx35 ⟨as20, ns20, cs20, rfl, rfl, hs20⟩
 obtain ⟨v18, hv18, hm⟩ := bind_some hm
 refine r_callG0 ent30 rfl rfl rfl rfl hx35 (big_Of_ok _ _ _ hv18 hx35.sat) ?_
 rintro _ Fx18 _ wx36 hF18 hx36 ⟨as21, ns21, cs21, rfl, rfl, hs21⟩
 obtain ⟨v19, hv19, hm⟩ := bind_some hm
 refine r_callG0 ent19 rfl rfl rfl rfl hx36 (big_Gcd_ok _ _ _ _ hv19 hx36.sat (hs20.mono hF18) hs21) ?_
 rintro _ Fx19 _ wx37 hF19 hx37 ⟨as22, ns22, cs22, rfl, rfl, hs22⟩
 refine r_move rfl rfl rfl (r_extract rfl rfl rfl rfl (r_extract rfl rfl rfl rfl ?_))
 refine r_alloc ze24 rfl rfl rfl hx37 ?_
 intro b10 wx38 hx38
 refine r_store sz24 rfl hx38 rfl rfl rfl rfl (i := 0) rfl rfl rfl rfl ?_
 intro wx39 hx39
 refine r_assign rfl rfl rfl (r_nil (q_then (c_seq (c_region ?_))))
 obtain ⟨v20, hv20, hm⟩ := bind_some hm
 refine r_callG0 ent17 rfl rfl rfl rfl hx39 (big_Read_ok _ _ _ hv20 hx39.sat) ?_
 rintro _ Fx20 _ wx40 hF20 hx40 ⟨as23, ns23, cs23, rfl, rfl, hs23⟩
 refine r_move rfl rfl rfl (r_extract rfl rfl rfl rfl (r_extract rfl rfl rfl rfl ?_))
 refine r_alloc ze24 rfl rfl rfl hx40 ?_
 intro b11 wx41 hx41
 refine r_store sz24 rfl hx41 rfl rfl rfl rfl (i := 0) rfl rfl rfl rfl ?_
 intro wx42 hx42
 refine r_assign rfl rfl rfl (r_nil (q_then (c_seq (c_region ?_))))
 obtain ⟨v21, hv21, hm⟩ := bind_some hm
 refine r_callG0 ent17 rfl rfl rfl rfl hx42 (big_Read_ok _ _ _ hv21 hx42.sat) ?_
 rintro _ Fx21 _ wx43 hF21 hx43 ⟨as24, ns24, cs24, rfl, rfl, hs24⟩
 refine r_move rfl rfl rfl (r_extract rfl rfl rfl rfl (r_extract rfl rfl rfl rfl ?_))
 refine r_alloc ze24 rfl rfl rfl hx43 ?_
 intro b12 wx44 hx44
 refine r_store sz24 rfl hx44 rfl rfl rfl rfl (i := 0) rfl rfl rfl rfl ?_
 intro wx45 hx45
 refine r_assign rfl rfl rfl (r_nil (q_then (c_seq (c_region ?_))))
 obtain ⟨v22, hv22, hm⟩ := bind_some hm
 refine r_callG0 ent17 rfl rfl rfl rfl hx45 (big_Read_ok _ _ _ hv22 hx45.sat) ?_
 rintro _ Fx22 _ wx46 hF22 hx46 ⟨as25, ns25, cs25, rfl, rfl, hs25⟩
 refine r_move rfl rfl rfl (r_extract rfl rfl rfl rfl (r_extract rfl rfl rfl rfl ?_))
 refine r_alloc ze24 rfl rfl rfl hx46 ?_
 intro b13 wx47 hx47
 refine r_store sz24 rfl hx47 rfl rfl rfl rfl (i := 0) rfl rfl rfl rfl ?_
 intro wx48 hx48
 refine r_assign rfl rfl rfl (r_nil (q_then (c_seq (c_region ?_))))
 refine r_buildSlice (e := 3) (cs := [.int .i64 0, .int .i64 0, .int .i64 0, .int .i64 8]) (q := 1) rfl rfl hx48 rfl (fun _ => by kernel_rfl) rfl rfl ?_
 intro b14 wx49 hx49
 obtain ⟨Fx23, hF23, hx50, hsx1⟩ := freezeRow hx49 (i := 0) rfl ((show RowN (Rp.int .i64) Fx22 4 [.int .i64 0, .int .i64 0, .int .i64 0, .int .i64 8] [0, 0, 0, 8] from ⟨rfl, ⟨_, _, rfl, rfl, ⟨_, _, rfl, rfl, ⟨_, _, rfl, rfl, ⟨_, _, rfl, rfl, (rfl : RowR (Rp.int .i64) _ [] [])⟩⟩⟩⟩⟩))
 refine r_build (v := .agg #[.int .i64 1, .slice (some ⟨b14, 0, none⟩) 4 4]) rfl rfl rfl (fun _ => by kernel_rfl) ?_
 refine r_alloc ze24 rfl rfl rfl hx50 ?_
 intro b15 wx50 hx51
 refine r_store sz24 rfl hx51 rfl rfl rfl rfl (i := 0) rfl rfl rfl rfl ?_
 intro wx51 hx52
 refine r_nil (q_then (c_seq (c_region ?_)))
 refine r_loadBA (cs' := [.int .i64 1, .slice (some ⟨b14, 0, none⟩) 4 4]) ag24 sz24 rfl rfl hx52 rfl (i := 0) rfl rfl rfl ?_
 obtain ⟨v23, hv23, hm⟩ := bind_some hm
 refine r_callG0 ent15 rfl rfl rfl rfl hx52 (big_Int_ok _ _ _ hv23 hx52.sat hsx1) ?_
 rintro _ Fx24 _ wx52 hF24 hx53 ⟨rfl, rfl⟩
 refine r_move rfl rfl rfl (r_extract rfl rfl rfl rfl (r_extract rfl rfl rfl rfl (r_assign rfl rfl rfl (r_assign rfl rfl rfl (r_nil (q_then (c_seq (c_region ?_))))))))
 refine r_loadBA (cs' := [.int .i64 1, .slice (some ⟨b14, 0, none⟩) 4 4]) ag24 sz24 rfl rfl hx53 rfl (i := 0) rfl rfl rfl ?_
 obtain ⟨v24, hv24, hm⟩ := bind_some hm
 refine r_callG0 ent28 rfl rfl rfl rfl hx53 (big_Neg_ok _ _ _ hv24 hx53.sat (hsx1.mono hF24)) ?_
 rintro _ Fx25 _ wx53 hF25 hx54 ⟨as26, ns26, cs26, rfl, rfl, hs26⟩
 obtain ⟨v25, hv25, hm⟩ := bind_some hm
 refine r_callG0 ent15 rfl rfl rfl rfl hx54 (big_Int_ok _ _ _ hv25 hx54.sat hs26) ?_
 rintro _ Fx26 _ wx54 hF26 hx55 ⟨rfl, rfl⟩
 refine r_move rfl rfl rfl (r_extract rfl rfl rfl rfl (r_extract rfl rfl rfl rfl (r_assign rfl rfl rfl (r_assign rfl rfl rfl (r_nil (q_then (c_seq (c_region ?_))))))))
 refine r_loadBA (cs' := [.int .i64 v1.Sign, .slice as1 ns1 cs1]) ag24 sz24 rfl rfl hx55 rfl (i := 13) rfl rfl rfl ?_
 refine r_buildSlice (e := 3) (cs := [.int .i64 1, .int .i64 1]) (q := 1) rfl rfl hx55 rfl (fun _ => by kernel_rfl) rfl rfl ?_
 intro b16 wx55 hx56
 obtain ⟨Fx27, hF27, hx57, hsx2⟩ := freezeRow hx56 (i := 0) rfl ((show RowN (Rp.int .i64) Fx26 2 [.int .i64 1, .int .i64 1] [1, 1] from ⟨rfl, ⟨_, _, rfl, rfl, ⟨_, _, rfl, rfl, (rfl : RowR (Rp.int .i64) _ [] [])⟩⟩⟩))
 refine r_build (v := .agg #[.int .i64 1, .slice (some ⟨b16, 0, none⟩) 2 2]) rfl rfl rfl (fun _ => by kernel_rfl) ?_
 obtain ⟨v26, hv26, hm⟩ := bind_some hm
 refine r_callG0 ent12 rfl rfl rfl rfl hx57 (ref04_Same_ok _ _ _ _ hv26 hx57.sat ((((((((((((((((((((((((((hs1.mono hF2).mono hF3).mono hF4).mono hF5).mono hF6).mono hF7).mono hF8).mono hF9).mono hF10).mono hF11).mono hF12).mono hF13).mono hF14).mono hF15).mono hF16).mono hF17).mono hF18).mono hF19).mono hF20).mono hF21).mono hF22).mono hF23).mono hF24).mono hF25).mono hF26).mono hF27) hsx2) ?_
 rintro _ Fx28 _ wx56 hF28 hx58 ⟨rfl, rfl⟩
 refine r_move rfl rfl rfl ?_
 obtain ⟨v27, hb1, hm⟩ := bind_some hm
 refine r_mid 3 (fun a w' => wx56 = w' ∧ Has 167 a [(2, .pointer (some ⟨b2, 0, none⟩)), (4, .pointer (some ⟨b3, 0, none⟩)), (5, .pointer (some ⟨b4, 0, none⟩)), (6, .int .i64 v7.2.2), (7, .pointer (some ⟨b5, 0, none⟩)), (8, .pointer (some ⟨b6, 0, none⟩)), (9, .int .i64 v10.2.2), (10, .pointer (some ⟨b7, 0, none⟩)), (11, .pointer (some ⟨b8, 0, none⟩)), (12, .int .i64 v13.2.2), (13, .pointer (some ⟨b9, 0, none⟩)), (14, .int .i64 v16.2), (15, .pointer (some ⟨b10, 0, none⟩)), (16, .int .i64 v19.2), (18, .int .i64 v20.2), (20, .int .i64 v21.2), (22, .int .i64 v22.2), (25, .bool v23.2), (26, .int .i64 v25.1), (27, .bool v25.2), (101, .bool v27)]) ?_ ?_
 ·rintro a wx57 ⟨rfl, hax1⟩
  refine rw_apply hax1 ?_
  refine r_move rfl rfl rfl ?_
  obtain ⟨v28, hb2, hm⟩ := bind_some hm
  refine r_mid 4 (fun a w' => ∃ (Fx29 : Frz), Frz.le Fx28 Fx29 ∧ HS F w [] Fx29 [.box b15 24 [.int .i64 1, .slice (some ⟨b14, 0, none⟩) 4 4], .box b13 24 [.int .i64 v22.1.Sign, .slice as25 ns25 cs25], .box b12 24 [.int .i64 v21.1.Sign, .slice as24 ns24 cs24], .box b11 24 [.int .i64 v20.1.Sign, .slice as23 ns23 cs23], .box b10 24 [.int .i64 v19.1.Sign, .slice as22 ns22 cs22], .box b9 24 [.int .i64 v16.1.Sign, .slice as19 ns19 cs19], .box b8 24 [.int .i64 v13.2.1.Sign, .slice as16 ns16 cs16], .box b7 24 [.int .i64 v13.1.Sign, .slice as15 ns15 cs15], .box b6 24 [.int .i64 v10.2.1.Sign, .slice as12 ns12 cs12], .box b5 24 [.int .i64 v10.1.Sign, .slice as11 ns11 cs11], .box b4 24 [.int .i64 v7.2.1.Sign, .slice as8 ns8 cs8], .box b3 24 [.int .i64 v7.1.Sign, .slice as7 ns7 cs7], .box b2 24 [.int .i64 v4.1.Sign, .slice as4 ns4 cs4], .box b1 24 [.int .i64 v1.Sign, .slice as1 ns1 cs1]] w' ∧ Has 167 a [(4, .pointer (some ⟨b3, 0, none⟩)), (5, .pointer (some ⟨b4, 0, none⟩)), (6, .int .i64 v7.2.2), (7, .pointer (some ⟨b5, 0, none⟩)), (8, .pointer (some ⟨b6, 0, none⟩)), (9, .int .i64 v10.2.2), (10, .pointer (some ⟨b7, 0, none⟩)), (11, .pointer (some ⟨b8, 0, none⟩)), (12, .int .i64 v13.2.2), (13, .pointer (some ⟨b9, 0, none⟩)), (14, .int .i64 v16.2), (15, .pointer (some ⟨b10, 0, none⟩)), (16, .int .i64 v19.2), (18, .int .i64 v20.2), (20, .int .i64 v21.2), (22, .int .i64 v22.2), (25, .bool v23.2), (26, .int .i64 v25.1), (27, .bool v25.2), (106, .bool v28)]) ?_ ?_
  ·rintro a wx58 ⟨Fx29, hF29, hx59, hax2⟩
   refine rw_apply hax2 ?_
   refine r_move rfl rfl rfl ?_
   obtain ⟨v29, hb3, hm⟩ := bind_some hm
   refine r_mid 5 (fun a w' => ∃ (Fx30 : Frz), Frz.le Fx29 Fx30 ∧ HS F w [] Fx30 [.box b15 24 [.int .i64 1, .slice (some ⟨b14, 0, none⟩) 4 4], .box b13 24 [.int .i64 v22.1.Sign, .slice as25 ns25 cs25], .box b12 24 [.int .i64 v21.1.Sign, .slice as24 ns24 cs24], .box b11 24 [.int .i64 v20.1.Sign, .slice as23 ns23 cs23], .box b10 24 [.int .i64 v19.1.Sign, .slice as22 ns22 cs22], .box b9 24 [.int .i64 v16.1.Sign, .slice as19 ns19 cs19], .box b8 24 [.int .i64 v13.2.1.Sign, .slice as16 ns16 cs16], .box b7 24 [.int .i64 v13.1.Sign, .slice as15 ns15 cs15], .box b6 24 [.int .i64 v10.2.1.Sign, .slice as12 ns12 cs12], .box b5 24 [.int .i64 v10.1.Sign, .slice as11 ns11 cs11], .box b4 24 [.int .i64 v7.2.1.Sign, .slice as8 ns8 cs8], .box b3 24 [.int .i64 v7.1.Sign, .slice as7 ns7 cs7], .box b2 24 [.int .i64 v4.1.Sign, .slice as4 ns4 cs4], .box b1 24 [.int .i64 v1.Sign, .slice as1 ns1 cs1]] w' ∧ Has 167 a [(7, .pointer (some ⟨b5, 0, none⟩)), (8, .pointer (some ⟨b6, 0, none⟩)), (9, .int .i64 v10.2.2), (10, .pointer (some ⟨b7, 0, none⟩)), (11, .pointer (some ⟨b8, 0, none⟩)), (12, .int .i64 v13.2.2), (13, .pointer (some ⟨b9, 0, none⟩)), (14, .int .i64 v16.2), (15, .pointer (some ⟨b10, 0, none⟩)), (16, .int .i64 v19.2), (18, .int .i64 v20.2), (20, .int .i64 v21.2), (22, .int .i64 v22.2), (25, .bool v23.2), (26, .int .i64 v25.1), (27, .bool v25.2), (112, .bool v29)]) ?_ ?_
   ·rintro a wx59 ⟨Fx30, hF30, hx60, hax3⟩
    refine rw_apply hax3 ?_
    refine r_move rfl rfl rfl ?_
    obtain ⟨v30, hb4, hm⟩ := bind_some hm
    refine r_mid 5 (fun a w' => ∃ (Fx31 : Frz), Frz.le Fx30 Fx31 ∧ HS F w [] Fx31 [.box b15 24 [.int .i64 1, .slice (some ⟨b14, 0, none⟩) 4 4], .box b13 24 [.int .i64 v22.1.Sign, .slice as25 ns25 cs25], .box b12 24 [.int .i64 v21.1.Sign, .slice as24 ns24 cs24], .box b11 24 [.int .i64 v20.1.Sign, .slice as23 ns23 cs23], .box b10 24 [.int .i64 v19.1.Sign, .slice as22 ns22 cs22], .box b9 24 [.int .i64 v16.1.Sign, .slice as19 ns19 cs19], .box b8 24 [.int .i64 v13.2.1.Sign, .slice as16 ns16 cs16], .box b7 24 [.int .i64 v13.1.Sign, .slice as15 ns15 cs15], .box b6 24 [.int .i64 v10.2.1.Sign, .slice as12 ns12 cs12], .box b5 24 [.int .i64 v10.1.Sign, .slice as11 ns11 cs11], .box b4 24 [.int .i64 v7.2.1.Sign, .slice as8 ns8 cs8], .box b3 24 [.int .i64 v7.1.Sign, .slice as7 ns7 cs7], .box b2 24 [.int .i64 v4.1.Sign, .slice as4 ns4 cs4], .box b1 24 [.int .i64 v1.Sign, .slice as1 ns1 cs1]] w' ∧ Has 167 a [(10, .pointer (some ⟨b7, 0, none⟩)), (11, .pointer (some ⟨b8, 0, none⟩)), (12, .int .i64 v13.2.2), (13, .pointer (some ⟨b9, 0, none⟩)), (14, .int .i64 v16.2), (15, .pointer (some ⟨b10, 0, none⟩)), (16, .int .i64 v19.2), (18, .int .i64 v20.2), (20, .int .i64 v21.2), (22, .int .i64 v22.2), (25, .bool v23.2), (26, .int .i64 v25.1), (27, .bool v25.2), (118, .bool v30)]) ?_ ?_
    ·rintro a wx60 ⟨Fx31, hF31, hx61, hax4⟩
     refine rw_apply hax4 ?_
     refine r_move rfl rfl rfl ?_
     obtain ⟨v31, hb5, hm⟩ := bind_some hm
     refine r_mid 5 (fun a w' => ∃ (Fx32 : Frz), Frz.le Fx31 Fx32 ∧ HS F w [] Fx32 [.box b15 24 [.int .i64 1, .slice (some ⟨b14, 0, none⟩) 4 4], .box b13 24 [.int .i64 v22.1.Sign, .slice as25 ns25 cs25], .box b12 24 [.int .i64 v21.1.Sign, .slice as24 ns24 cs24], .box b11 24 [.int .i64 v20.1.Sign, .slice as23 ns23 cs23], .box b10 24 [.int .i64 v19.1.Sign, .slice as22 ns22 cs22], .box b9 24 [.int .i64 v16.1.Sign, .slice as19 ns19 cs19], .box b8 24 [.int .i64 v13.2.1.Sign, .slice as16 ns16 cs16], .box b7 24 [.int .i64 v13.1.Sign, .slice as15 ns15 cs15], .box b6 24 [.int .i64 v10.2.1.Sign, .slice as12 ns12 cs12], .box b5 24 [.int .i64 v10.1.Sign, .slice as11 ns11 cs11], .box b4 24 [.int .i64 v7.2.1.Sign, .slice as8 ns8 cs8], .box b3 24 [.int .i64 v7.1.Sign, .slice as7 ns7 cs7], .box b2 24 [.int .i64 v4.1.Sign, .slice as4 ns4 cs4], .box b1 24 [.int .i64 v1.Sign, .slice as1 ns1 cs1]] w' ∧ Has 167 a [(13, .pointer (some ⟨b9, 0, none⟩)), (14, .int .i64 v16.2), (15, .pointer (some ⟨b10, 0, none⟩)), (16, .int .i64 v19.2), (18, .int .i64 v20.2), (20, .int .i64 v21.2), (22, .int .i64 v22.2), (25, .bool v23.2), (26, .int .i64 v25.1), (27, .bool v25.2), (124, .bool v31)]) ?_ ?_
     ·rintro a wx61 ⟨Fx32, hF32, hx62, hax5⟩
      refine rw_apply hax5 ?_
      refine r_assign rfl rfl rfl (r_nil (q_then (c_seq ?_)))
      refine c_regionH (SH Fx32 [.box b15 24 [.int .i64 1, .slice (some ⟨b14, 0, none⟩) 4 4], .box b13 24 [.int .i64 v22.1.Sign, .slice as25 ns25 cs25], .box b12 24 [.int .i64 v21.1.Sign, .slice as24 ns24 cs24], .box b11 24 [.int .i64 v20.1.Sign, .slice as23 ns23 cs23], .box b10 24 [.int .i64 v19.1.Sign, .slice as22 ns22 cs22], .box b9 24 [.int .i64 v16.1.Sign, .slice as19 ns19 cs19], .box b8 24 [.int .i64 v13.2.1.Sign, .slice as16 ns16 cs16], .box b7 24 [.int .i64 v13.1.Sign, .slice as15 ns15 cs15], .box b6 24 [.int .i64 v10.2.1.Sign, .slice as12 ns12 cs12], .box b5 24 [.int .i64 v10.1.Sign, .slice as11 ns11 cs11], .box b4 24 [.int .i64 v7.2.1.Sign, .slice as8 ns8 cs8], .box b3 24 [.int .i64 v7.1.Sign, .slice as7 ns7 cs7], .box b2 24 [.int .i64 v4.1.Sign, .slice as4 ns4 cs4], .box b1 24 [.int .i64 v1.Sign, .slice as1 ns1 cs1]]) 43 rfl (by kernel_rfl) hx62 ?_
      intro wx62 hx63
      refine d_take 0 (v := .bool v31) rfl (by kernel_rfl) (by kernel_rfl) (by kernel_rfl) rfl rfl rfl rfl (hx63.sh (Frz.refl _) [0, 1, 2, 3, 4, 5, 6, 7, 8, 9, 10, 11, 12, 13] (by decide) rfl) (fun _ hC => ?_) ?_
      ·obtain ⟨_, _, hleq, hq⟩ := hC
       refine r_move rfl rfl rfl (r_nil (qq rfl))
      refine d_take 1 (v := .bool v31) rfl (by kernel_rfl) (by kernel_rfl) (by kernel_rfl) rfl rfl rfl rfl (hx63.sh (Frz.refl _) [0, 1, 2, 3, 4, 5, 6, 7, 8, 9, 10, 11, 12, 13] (by decide) rfl) (fun _ hC => ?_) ?_
      ·obtain ⟨_, _, hleq, hq⟩ := hC
       refine r_move rfl rfl rfl (r_nil (qq rfl))
      obtain ⟨v32, hb6, hm⟩ := bind_some hm
      refine d_mid (fuel' := 38) (listed' := #[true, true, true, true, true, false, false, false, false, false, false, false, false, false, false, false, false, false, false, false, false, false, false, false, false, false, false, false, false, false, false, false, false, false, false, false, false, false, false, false, false, false, false]) (fun a w' => wx62 = w' ∧ Has 167 a [(13, .pointer (some ⟨b9, 0, none⟩)), (15, .pointer (some ⟨b10, 0, none⟩)), (16, .int .i64 v19.2), (18, .int .i64 v20.2), (20, .int .i64 v21.2), (22, .int .i64 v22.2), (25, .bool v23.2), (26, .int .i64 v25.1), (27, .bool v25.2), (129, .bool v32)]) ?_ (fun hK1 => ?_)
      ·rintro a wx63 ⟨rfl, hax6⟩
       refine dw_apply hax6 ?_
       refine d_take 5 (v := .bool v32) rfl (by kernel_rfl) (by kernel_rfl) (by kernel_rfl) rfl rfl rfl rfl (hx63.sh (Frz.refl _) [0, 1, 2, 3, 4, 5, 6, 7, 8, 9, 10, 11, 12, 13] (by decide) rfl) (fun _ hC => ?_) ?_
       ·obtain ⟨_, _, hleq, hq⟩ := hC
        refine r_move rfl rfl rfl (r_nil (qq rfl))
       obtain ⟨v33, hb7, hm⟩ := bind_some hm
       refine d_mid (fuel' := 33) (listed' := #[true, true, true, true, true, true, true, true, true, true, false, false, false, false, false, false, false, false, false, false, false, false, false, false, false, false, false, false, false, false, false, false, false, false, false, false, false, false, false, false, false, false, false]) (fun a w' => ∃ (Fx33 : Frz), Frz.le Fx32 Fx33 ∧ HS F w [] Fx33 [.box b15 24 [.int .i64 1, .slice (some ⟨b14, 0, none⟩) 4 4], .box b13 24 [.int .i64 v22.1.Sign, .slice as25 ns25 cs25], .box b12 24 [.int .i64 v21.1.Sign, .slice as24 ns24 cs24], .box b11 24 [.int .i64 v20.1.Sign, .slice as23 ns23 cs23], .box b10 24 [.int .i64 v19.1.Sign, .slice as22 ns22 cs22], .box b9 24 [.int .i64 v16.1.Sign, .slice as19 ns19 cs19], .box b8 24 [.int .i64 v13.2.1.Sign, .slice as16 ns16 cs16], .box b7 24 [.int .i64 v13.1.Sign, .slice as15 ns15 cs15], .box b6 24 [.int .i64 v10.2.1.Sign, .slice as12 ns12 cs12], .box b5 24 [.int .i64 v10.1.Sign, .slice as11 ns11 cs11], .box b4 24 [.int .i64 v7.2.1.Sign, .slice as8 ns8 cs8], .box b3 24 [.int .i64 v7.1.Sign, .slice as7 ns7 cs7], .box b2 24 [.int .i64 v4.1.Sign, .slice as4 ns4 cs4], .box b1 24 [.int .i64 v1.Sign, .slice as1 ns1 cs1]] w' ∧ Has 167 a [(15, .pointer (some ⟨b10, 0, none⟩)), (16, .int .i64 v19.2), (18, .int .i64 v20.2), (20, .int .i64 v21.2), (22, .int .i64 v22.2), (25, .bool v23.2), (26, .int .i64 v25.1), (27, .bool v25.2), (134, .bool v33)]) ?_ (fun hK2 => ?_)
       ·rintro a wx64 ⟨Fx33, hF33, hx64, hax7⟩
        refine dw_apply hax7 ?_
        refine d_take 10 (v := .bool v33) rfl (by kernel_rfl) (by kernel_rfl) (by kernel_rfl) rfl rfl rfl rfl (hx64.sh hF33 [0, 1, 2, 3, 4, 5, 6, 7, 8, 9, 10, 11, 12, 13] (by decide) rfl) (fun _ hC => ?_) ?_
        ·obtain ⟨_, _, hleq, hq⟩ := hC
         refine r_move rfl rfl rfl (r_nil (qq rfl))
        obtain ⟨v34, hb8, hm⟩ := bind_some hm
        refine d_mid (fuel' := 29) (listed' := #[true, true, true, true, true, true, true, true, true, true, true, true, true, true, false, false, false, false, false, false, false, false, false, false, false, false, false, false, false, false, false, false, false, false, false, false, false, false, false, false, false, false, false]) (fun a w' => wx64 = w' ∧ Has 167 a [(15, .pointer (some ⟨b10, 0, none⟩)), (18, .int .i64 v20.2), (20, .int .i64 v21.2), (22, .int .i64 v22.2), (25, .bool v23.2), (26, .int .i64 v25.1), (27, .bool v25.2), (138, .bool v34)]) ?_ (fun hK3 => ?_)
        ·rintro a wx65 ⟨rfl, hax8⟩
         refine dw_apply hax8 ?_
         refine d_take 14 (v := .bool v34) rfl (by kernel_rfl) (by kernel_rfl) (by kernel_rfl) rfl rfl rfl rfl (hx64.sh hF33 [0, 1, 2, 3, 4, 5, 6, 7, 8, 9, 10, 11, 12, 13] (by decide) rfl) (fun _ hC => ?_) ?_
         ·obtain ⟨_, _, hleq, hq⟩ := hC
          refine r_move rfl rfl rfl (r_nil (qq rfl))
         obtain ⟨v35, hb9, hm⟩ := bind_some hm
         refine d_mid (fuel' := 24) (listed' := #[true, true, true, true, true, true, true, true, true, true, true, true, true, true, true, true, true, true, true, false, false, false, false, false, false, false, false, false, false, false, false, false, false, false, false, false, false, false, false, false, false, false, false]) (fun a w' => ∃ (Fx34 : Frz), Frz.le Fx33 Fx34 ∧ HS F w [] Fx34 [.box b15 24 [.int .i64 1, .slice (some ⟨b14, 0, none⟩) 4 4], .box b13 24 [.int .i64 v22.1.Sign, .slice as25 ns25 cs25], .box b12 24 [.int .i64 v21.1.Sign, .slice as24 ns24 cs24], .box b11 24 [.int .i64 v20.1.Sign, .slice as23 ns23 cs23], .box b10 24 [.int .i64 v19.1.Sign, .slice as22 ns22 cs22], .box b9 24 [.int .i64 v16.1.Sign, .slice as19 ns19 cs19], .box b8 24 [.int .i64 v13.2.1.Sign, .slice as16 ns16 cs16], .box b7 24 [.int .i64 v13.1.Sign, .slice as15 ns15 cs15], .box b6 24 [.int .i64 v10.2.1.Sign, .slice as12 ns12 cs12], .box b5 24 [.int .i64 v10.1.Sign, .slice as11 ns11 cs11], .box b4 24 [.int .i64 v7.2.1.Sign, .slice as8 ns8 cs8], .box b3 24 [.int .i64 v7.1.Sign, .slice as7 ns7 cs7], .box b2 24 [.int .i64 v4.1.Sign, .slice as4 ns4 cs4], .box b1 24 [.int .i64 v1.Sign, .slice as1 ns1 cs1]] w' ∧ Has 167 a [(18, .int .i64 v20.2), (20, .int .i64 v21.2), (22, .int .i64 v22.2), (25, .bool v23.2), (26, .int .i64 v25.1), (27, .bool v25.2), (143, .bool v35)]) ?_ (fun hK4 => ?_)
         ·rintro a wx66 ⟨Fx34, hF34, hx65, hax9⟩
          refine dw_apply hax9 ?_
          refine d_take 19 (v := .bool v35) rfl (by kernel_rfl) (by kernel_rfl) (by kernel_rfl) rfl rfl rfl rfl (hx65.sh (hF33.trans hF34) [0, 1, 2, 3, 4, 5, 6, 7, 8, 9, 10, 11, 12, 13] (by decide) rfl) (fun _ hC => ?_) ?_
          ·obtain ⟨_, _, hleq, hq⟩ := hC
           refine r_move rfl rfl rfl (r_nil (qq rfl))
          obtain ⟨v36, hb10, hm⟩ := bind_some hm
          refine d_mid (fuel' := 20) (listed' := #[true, true, true, true, true, true, true, true, true, true, true, true, true, true, true, true, true, true, true, true, true, true, true, false, false, false, false, false, false, false, false, false, false, false, false, false, false, false, false, false, false, false, false]) (fun a w' => wx66 = w' ∧ Has 167 a [(20, .int .i64 v21.2), (22, .int .i64 v22.2), (25, .bool v23.2), (26, .int .i64 v25.1), (27, .bool v25.2), (147, .bool v36)]) ?_ (fun hK5 => ?_)
          ·rintro a wx67 ⟨rfl, hax10⟩
           refine dw_apply hax10 ?_
           refine d_take 23 (v := .bool v36) rfl (by kernel_rfl) (by kernel_rfl) (by kernel_rfl) rfl rfl rfl rfl (hx65.sh (hF33.trans hF34) [0, 1, 2, 3, 4, 5, 6, 7, 8, 9, 10, 11, 12, 13] (by decide) rfl) (fun _ hC => ?_) ?_
           ·obtain ⟨_, _, hleq, hq⟩ := hC
            refine r_move rfl rfl rfl (r_nil (qq rfl))
           obtain ⟨v37, hb11, hm⟩ := bind_some hm
           refine d_mid (fuel' := 16) (listed' := #[true, true, true, true, true, true, true, true, true, true, true, true, true, true, true, true, true, true, true, true, true, true, true, true, true, true, true, false, false, false, false, false, false, false, false, false, false, false, false, false, false, false, false]) (fun a w' => wx66 = w' ∧ Has 167 a [(22, .int .i64 v22.2), (25, .bool v23.2), (26, .int .i64 v25.1), (27, .bool v25.2), (151, .bool v37)]) ?_ (fun hK6 => ?_)
           ·rintro a wx68 ⟨rfl, hax11⟩
            refine dw_apply hax11 ?_
            refine d_take 27 (v := .bool v37) rfl (by kernel_rfl) (by kernel_rfl) (by kernel_rfl) rfl rfl rfl rfl (hx65.sh (hF33.trans hF34) [0, 1, 2, 3, 4, 5, 6, 7, 8, 9, 10, 11, 12, 13] (by decide) rfl) (fun _ hC => ?_) ?_
            ·obtain ⟨_, _, hleq, hq⟩ := hC
             refine r_move rfl rfl rfl (r_nil (qq rfl))
            obtain ⟨v38, hb12, hm⟩ := bind_some hm
            refine d_mid (fuel' := 12) (listed' := #[true, true, true, true, true, true, true, true, true, true, true, true, true, true, true, true, true, true, true, true, true, true, true, true, true, true, true, true, true, true, true, false, false, false, false, false, false, false, false, false, false, false, false]) (fun a w' => wx66 = w' ∧ Has 167 a [(25, .bool v23.2), (26, .int .i64 v25.1), (27, .bool v25.2), (155, .bool v38)]) ?_ (fun hK7 => ?_)
            ·rintro a wx69 ⟨rfl, hax12⟩
             refine dw_apply hax12 ?_
             refine d_take 31 (v := .bool v38) rfl (by kernel_rfl) (by kernel_rfl) (by kernel_rfl) rfl rfl rfl rfl (hx65.sh (hF33.trans hF34) [0, 1, 2, 3, 4, 5, 6, 7, 8, 9, 10, 11, 12, 13] (by decide) rfl) (fun _ hC => ?_) ?_
             ·obtain ⟨_, _, hleq, hq⟩ := hC
              refine r_move rfl rfl rfl (r_nil (qq rfl))
             obtain ⟨v39, hb13, hm⟩ := bind_some hm
             refine d_mid (fuel' := 8) (listed' := #[true, true, true, true, true, true, true, true, true, true, true, true, true, true, true, true, true, true, true, true, true, true, true, true, true, true, true, true, true, true, true, true, true, true, true, false, false, false, false, false, false, false, false]) (fun a w' => wx66 = w' ∧ Has 167 a [(26, .int .i64 v25.1), (27, .bool v25.2), (159, .bool v39)]) ?_ (fun hK8 => ?_)
             ·rintro a wx70 ⟨rfl, hax13⟩
              refine dw_apply hax13 ?_
              refine d_take 35 (v := .bool v39) rfl (by kernel_rfl) (by kernel_rfl) (by kernel_rfl) rfl rfl rfl rfl (hx65.sh (hF33.trans hF34) [0, 1, 2, 3, 4, 5, 6, 7, 8, 9, 10, 11, 12, 13] (by decide) rfl) (fun _ hC => ?_) ?_
              ·obtain ⟨_, _, hleq, hq⟩ := hC
               refine r_move rfl rfl rfl (r_nil (qq rfl))
              obtain ⟨v40, hb14, hm⟩ := bind_some hm
              refine d_mid (fuel' := 5) (listed' := #[true, true, true, true, true, true, true, true, true, true, true, true, true, true, true, true, true, true, true, true, true, true, true, true, true, true, true, true, true, true, true, true, true, true, true, true, true, true, false, false, false, false, false]) (fun a w' => wx66 = w' ∧ Has 167 a [(26, .int .i64 v25.1), (162, .bool v40)]) ?_ (fun hK9 => ?_)
              ·rintro a wx71 ⟨rfl, hax14⟩
               refine dw_apply hax14 ?_
               refine d_take 38 (v := .bool v40) rfl (by kernel_rfl) (by kernel_rfl) (by kernel_rfl) rfl rfl rfl rfl (hx65.sh (hF33.trans hF34) [0, 1, 2, 3, 4, 5, 6, 7, 8, 9, 10, 11, 12, 13] (by decide) rfl) (fun _ hC => ?_) ?_
               ·obtain ⟨_, _, hleq, hq⟩ := hC
                refine r_move rfl rfl rfl (r_nil (qq rfl))
               obtain ⟨v41, hb15, hm⟩ := bind_some hm
               refine d_mid (fuel' := 1) (listed' := #[true, true, true, true, true, true, true, true, true, true, true, true, true, true, true, true, true, true, true, true, true, true, true, true, true, true, true, true, true, true, true, true, true, true, true, true, true, true, true, true, true, true, false]) (fun a w' => wx66 = w' ∧ Has 167 a [(166, .bool v41)]) ?_ (fun hK10 => ?_)
               ·rintro a wx72 ⟨rfl, hax15⟩
                refine dw_apply hax15 ?_
                refine d_take 42 (v := .bool v41) rfl (by kernel_rfl) (by kernel_rfl) (by kernel_rfl) rfl rfl rfl rfl (hx65.sh (hF33.trans hF34) [0, 1, 2, 3, 4, 5, 6, 7, 8, 9, 10, 11, 12, 13] (by decide) rfl) (fun _ hC => ?_) ?_
                ·obtain ⟨_, _, hleq, hq⟩ := hC
                 refine r_assign rfl rfl rfl (r_nil (qq rfl))
                refine d_done (by kernel_rfl) ?_
                refine q_then (c_ret ?_)
                refine b_ret1 rfl rfl ?_
                obtain rfl := Option.some.inj hm
                exact ⟨_, _, _, rfl, hx65.pick [] (by decide) rfl, rfl, rfl⟩
               ·clear hm
                rcases cond_some hb15 with ⟨hb16, hb15⟩ | ⟨hb16, hb15⟩
                ·refine d_lit 163 rfl hb16 ?_
                 refine d_take 39 (v := .int .i64 v25.1) rfl (by kernel_rfl) (by kernel_rfl) (by kernel_rfl) rfl rfl rfl rfl (hx65.sh (hF33.trans hF34) [0, 1, 2, 3, 4, 5, 6, 7, 8, 9, 10, 11, 12, 13] (by decide) rfl) (fun _ hC => ?_) ?_
                 ·obtain ⟨_, _, hleq, hq⟩ := hC
                  refine r_move rfl rfl rfl (r_nil (qq rfl))
                 refine d_take 40 (v := .bool (v25.1 == (-9223372036854775808))) rfl (by kernel_rfl) (by kernel_rfl) (by kernel_rfl) rfl rfl rfl rfl (hx65.sh (hF33.trans hF34) [0, 1, 2, 3, 4, 5, 6, 7, 8, 9, 10, 11, 12, 13] (by decide) rfl) (fun _ hC => ?_) ?_
                 ·obtain ⟨_, _, hleq, hq⟩ := hC
                  refine r_bin rfl rfl rfl rfl rfl (r_nil (qq rfl))
                 refine d_take 41 (v := .bool (v25.1 == (-9223372036854775808))) rfl (by kernel_rfl) (by kernel_rfl) (by kernel_rfl) rfl rfl rfl rfl (hx65.sh (hF33.trans hF34) [0, 1, 2, 3, 4, 5, 6, 7, 8, 9, 10, 11, 12, 13] (by decide) rfl) (fun _ hC => ?_) ?_
                 ·obtain ⟨_, _, hleq, hq⟩ := hC
                  refine r_pick_true rfl rfl rfl rfl (r_nil (qq rfl))
                 refine d_fin hK10 (by kernel_rfl) (fun a ha => ?_)
                 cases hb15
                 exact ⟨rfl, ha.cut (l := [166]) rfl⟩
                ·refine d_lit 163 rfl hb16 ?_
                 refine d_off 39 rfl (by kernel_rfl) (by kernel_rfl) (by kernel_rfl) rfl rfl rfl (hx65.sh (hF33.trans hF34) [0, 1, 2, 3, 4, 5, 6, 7, 8, 9, 10, 11, 12, 13] (by decide) rfl) ?_
                 refine d_off 40 rfl (by kernel_rfl) (by kernel_rfl) (by kernel_rfl) rfl rfl rfl (hx65.sh (hF33.trans hF34) [0, 1, 2, 3, 4, 5, 6, 7, 8, 9, 10, 11, 12, 13] (by decide) rfl) ?_
                 refine d_take 41 (v := .bool false) rfl (by kernel_rfl) (by kernel_rfl) (by kernel_rfl) rfl rfl rfl rfl (hx65.sh (hF33.trans hF34) [0, 1, 2, 3, 4, 5, 6, 7, 8, 9, 10, 11, 12, 13] (by decide) rfl) (fun _ hC => ?_) ?_
                 ·obtain ⟨_, _, hleq, hq⟩ := hC
                  refine r_pick_false rfl rfl rfl rfl (r_nil (qq rfl))
                 refine d_fin hK10 (by kernel_rfl) (fun a ha => ?_)
                 cases hb15
                 exact ⟨rfl, ha.cut (l := [166]) rfl⟩
              ·clear hm
               rcases cond_some hb14 with ⟨hb17, hb14⟩ | ⟨hb17, hb14⟩
               ·refine d_lit 160 rfl hb17 ?_
                refine d_take 36 (v := .bool v25.2) rfl (by kernel_rfl) (by kernel_rfl) (by kernel_rfl) rfl rfl rfl rfl (hx65.sh (hF33.trans hF34) [0, 1, 2, 3, 4, 5, 6, 7, 8, 9, 10, 11, 12, 13] (by decide) rfl) (fun _ hC => ?_) ?_
                ·obtain ⟨_, _, hleq, hq⟩ := hC
                 refine r_move rfl rfl rfl (r_nil (qq rfl))
                refine d_take 37 (v := .bool v25.2) rfl (by kernel_rfl) (by kernel_rfl) (by kernel_rfl) rfl rfl rfl rfl (hx65.sh (hF33.trans hF34) [0, 1, 2, 3, 4, 5, 6, 7, 8, 9, 10, 11, 12, 13] (by decide) rfl) (fun _ hC => ?_) ?_
                ·obtain ⟨_, _, hleq, hq⟩ := hC
                 refine r_pick_true rfl rfl rfl rfl (r_nil (qq rfl))
                refine d_fin hK9 (by kernel_rfl) (fun a ha => ?_)
                cases hb14
                exact ⟨rfl, ha.cut (l := [26, 162]) rfl⟩
               ·refine d_lit 160 rfl hb17 ?_
                refine d_off 36 rfl (by kernel_rfl) (by kernel_rfl) (by kernel_rfl) rfl rfl rfl (hx65.sh (hF33.trans hF34) [0, 1, 2, 3, 4, 5, 6, 7, 8, 9, 10, 11, 12, 13] (by decide) rfl) ?_
                refine d_take 37 (v := .bool false) rfl (by kernel_rfl) (by kernel_rfl) (by kernel_rfl) rfl rfl rfl rfl (hx65.sh (hF33.trans hF34) [0, 1, 2, 3, 4, 5, 6, 7, 8, 9, 10, 11, 12, 13] (by decide) rfl) (fun _ hC => ?_) ?_
                ·obtain ⟨_, _, hleq, hq⟩ := hC
                 refine r_pick_false rfl rfl rfl rfl (r_nil (qq rfl))
                refine d_fin hK9 (by kernel_rfl) (fun a ha => ?_)
                cases hb14
                exact ⟨rfl, ha.cut (l := [26, 162]) rfl⟩
             ·clear hm
              rcases cond_some hb13 with ⟨hb18, hb13⟩ | ⟨hb18, hb13⟩
              ·refine d_lit 156 rfl hb18 ?_
               refine d_take 32 (v := .bool v23.2) rfl (by kernel_rfl) (by kernel_rfl) (by kernel_rfl) rfl rfl rfl rfl (hx65.sh (hF33.trans hF34) [0, 1, 2, 3, 4, 5, 6, 7, 8, 9, 10, 11, 12, 13] (by decide) rfl) (fun _ hC => ?_) ?_
               ·obtain ⟨_, _, hleq, hq⟩ := hC
                refine r_move rfl rfl rfl (r_nil (qq rfl))
               refine d_take 33 (v := .bool (!v23.2)) rfl (by kernel_rfl) (by kernel_rfl) (by kernel_rfl) rfl rfl rfl rfl (hx65.sh (hF33.trans hF34) [0, 1, 2, 3, 4, 5, 6, 7, 8, 9, 10, 11, 12, 13] (by decide) rfl) (fun _ hC => ?_) ?_
               ·obtain ⟨_, _, hleq, hq⟩ := hC
                refine r_not rfl rfl rfl (r_nil (qq rfl))
               refine d_take 34 (v := .bool (!v23.2)) rfl (by kernel_rfl) (by kernel_rfl) (by kernel_rfl) rfl rfl rfl rfl (hx65.sh (hF33.trans hF34) [0, 1, 2, 3, 4, 5, 6, 7, 8, 9, 10, 11, 12, 13] (by decide) rfl) (fun _ hC => ?_) ?_
               ·obtain ⟨_, _, hleq, hq⟩ := hC
                refine r_pick_true rfl rfl rfl rfl (r_nil (qq rfl))
               refine d_fin hK8 (by kernel_rfl) (fun a ha => ?_)
               cases hb13
               exact ⟨rfl, ha.cut (l := [26, 27, 159]) rfl⟩
              ·refine d_lit 156 rfl hb18 ?_
               refine d_off 32 rfl (by kernel_rfl) (by kernel_rfl) (by kernel_rfl) rfl rfl rfl (hx65.sh (hF33.trans hF34) [0, 1, 2, 3, 4, 5, 6, 7, 8, 9, 10, 11, 12, 13] (by decide) rfl) ?_
               refine d_off 33 rfl (by kernel_rfl) (by kernel_rfl) (by kernel_rfl) rfl rfl rfl (hx65.sh (hF33.trans hF34) [0, 1, 2, 3, 4, 5, 6, 7, 8, 9, 10, 11, 12, 13] (by decide) rfl) ?_
               refine d_take 34 (v := .bool false) rfl (by kernel_rfl) (by kernel_rfl) (by kernel_rfl) rfl rfl rfl rfl (hx65.sh (hF33.trans hF34) [0, 1, 2, 3, 4, 5, 6, 7, 8, 9, 10, 11, 12, 13] (by decide) rfl) (fun _ hC => ?_) ?_
               ·obtain ⟨_, _, hleq, hq⟩ := hC
                refine r_pick_false rfl rfl rfl rfl (r_nil (qq rfl))
               refine d_fin hK8 (by kernel_rfl) (fun a ha => ?_)
               cases hb13
               exact ⟨rfl, ha.cut (l := [26, 27, 159]) rfl⟩
            ·clear hm
             rcases cond_some hb12 with ⟨hb19, hb12⟩ | ⟨hb19, hb12⟩
             ·refine d_lit 152 rfl hb19 ?_
              refine d_take 28 (v := .int .i64 v22.2) rfl (by kernel_rfl) (by kernel_rfl) (by kernel_rfl) rfl rfl rfl rfl (hx65.sh (hF33.trans hF34) [0, 1, 2, 3, 4, 5, 6, 7, 8, 9, 10, 11, 12, 13] (by decide) rfl) (fun _ hC => ?_) ?_
              ·obtain ⟨_, _, hleq, hq⟩ := hC
               refine r_move rfl rfl rfl (r_nil (qq rfl))
              refine d_take 29 (v := .bool (v22.2 == 2)) rfl (by kernel_rfl) (by kernel_rfl) (by kernel_rfl) rfl rfl rfl rfl (hx65.sh (hF33.trans hF34) [0, 1, 2, 3, 4, 5, 6, 7, 8, 9, 10, 11, 12, 13] (by decide) rfl) (fun _ hC => ?_) ?_
              ·obtain ⟨_, _, hleq, hq⟩ := hC
               refine r_bin rfl rfl rfl rfl rfl (r_nil (qq rfl))
              refine d_take 30 (v := .bool (v22.2 == 2)) rfl (by kernel_rfl) (by kernel_rfl) (by kernel_rfl) rfl rfl rfl rfl (hx65.sh (hF33.trans hF34) [0, 1, 2, 3, 4, 5, 6, 7, 8, 9, 10, 11, 12, 13] (by decide) rfl) (fun _ hC => ?_) ?_
              ·obtain ⟨_, _, hleq, hq⟩ := hC
               refine r_pick_true rfl rfl rfl rfl (r_nil (qq rfl))
              refine d_fin hK7 (by kernel_rfl) (fun a ha => ?_)
              cases hb12
              exact ⟨rfl, ha.cut (l := [25, 26, 27, 155]) rfl⟩
             ·refine d_lit 152 rfl hb19 ?_
              refine d_off 28 rfl (by kernel_rfl) (by kernel_rfl) (by kernel_rfl) rfl rfl rfl (hx65.sh (hF33.trans hF34) [0, 1, 2, 3, 4, 5, 6, 7, 8, 9, 10, 11, 12, 13] (by decide) rfl) ?_
              refine d_off 29 rfl (by kernel_rfl) (by kernel_rfl) (by kernel_rfl) rfl rfl rfl (hx65.sh (hF33.trans hF34) [0, 1, 2, 3, 4, 5, 6, 7, 8, 9, 10, 11, 12, 13] (by decide) rfl) ?_
              refine d_take 30 (v := .bool false) rfl (by kernel_rfl) (by kernel_rfl) (by kernel_rfl) rfl rfl rfl rfl (hx65.sh (hF33.trans hF34) [0, 1, 2, 3, 4, 5, 6, 7, 8, 9, 10, 11, 12, 13] (by decide) rfl) (fun _ hC => ?_) ?_
              ·obtain ⟨_, _, hleq, hq⟩ := hC
               refine r_pick_false rfl rfl rfl rfl (r_nil (qq rfl))
              refine d_fin hK7 (by kernel_rfl) (fun a ha => ?_)
              cases hb12
              exact ⟨rfl, ha.cut (l := [25, 26, 27, 155]) rfl⟩
           ·clear hm
            rcases cond_some hb11 with ⟨hb20, hb11⟩ | ⟨hb20, hb11⟩
            ·refine d_lit 148 rfl hb20 ?_
             refine d_take 24 (v := .int .i64 v21.2) rfl (by kernel_rfl) (by kernel_rfl) (by kernel_rfl) rfl rfl rfl rfl (hx65.sh (hF33.trans hF34) [0, 1, 2, 3, 4, 5, 6, 7, 8, 9, 10, 11, 12, 13] (by decide) rfl) (fun _ hC => ?_) ?_
             ·obtain ⟨_, _, hleq, hq⟩ := hC
              refine r_move rfl rfl rfl (r_nil (qq rfl))
             refine d_take 25 (v := .bool (v21.2 == 2)) rfl (by kernel_rfl) (by kernel_rfl) (by kernel_rfl) rfl rfl rfl rfl (hx65.sh (hF33.trans hF34) [0, 1, 2, 3, 4, 5, 6, 7, 8, 9, 10, 11, 12, 13] (by decide) rfl) (fun _ hC => ?_) ?_
             ·obtain ⟨_, _, hleq, hq⟩ := hC
              refine r_bin rfl rfl rfl rfl rfl (r_nil (qq rfl))
             refine d_take 26 (v := .bool (v21.2 == 2)) rfl (by kernel_rfl) (by kernel_rfl) (by kernel_rfl) rfl rfl rfl rfl (hx65.sh (hF33.trans hF34) [0, 1, 2, 3, 4, 5, 6, 7, 8, 9, 10, 11, 12, 13] (by decide) rfl) (fun _ hC => ?_) ?_
             ·obtain ⟨_, _, hleq, hq⟩ := hC
              refine r_pick_true rfl rfl rfl rfl (r_nil (qq rfl))
             refine d_fin hK6 (by kernel_rfl) (fun a ha => ?_)
             cases hb11
             exact ⟨rfl, ha.cut (l := [22, 25, 26, 27, 151]) rfl⟩
            ·refine d_lit 148 rfl hb20 ?_
             refine d_off 24 rfl (by kernel_rfl) (by kernel_rfl) (by kernel_rfl) rfl rfl rfl (hx65.sh (hF33.trans hF34) [0, 1, 2, 3, 4, 5, 6, 7, 8, 9, 10, 11, 12, 13] (by decide) rfl) ?_
             refine d_off 25 rfl (by kernel_rfl) (by kernel_rfl) (by kernel_rfl) rfl rfl rfl (hx65.sh (hF33.trans hF34) [0, 1, 2, 3, 4, 5, 6, 7, 8, 9, 10, 11, 12, 13] (by decide) rfl) ?_
             refine d_take 26 (v := .bool false) rfl (by kernel_rfl) (by kernel_rfl) (by kernel_rfl) rfl rfl rfl rfl (hx65.sh (hF33.trans hF34) [0, 1, 2, 3, 4, 5, 6, 7, 8, 9, 10, 11, 12, 13] (by decide) rfl) (fun _ hC => ?_) ?_
             ·obtain ⟨_, _, hleq, hq⟩ := hC
              refine r_pick_false rfl rfl rfl rfl (r_nil (qq rfl))
             refine d_fin hK6 (by kernel_rfl) (fun a ha => ?_)
             cases hb11
             exact ⟨rfl, ha.cut (l := [22, 25, 26, 27, 151]) rfl⟩
          ·clear hm
           rcases cond_some hb10 with ⟨hb21, hb10⟩ | ⟨hb21, hb10⟩
           ·refine d_lit 144 rfl hb21 ?_
            refine d_take 20 (v := .int .i64 v20.2) rfl (by kernel_rfl) (by kernel_rfl) (by kernel_rfl) rfl rfl rfl rfl (hx65.sh (hF33.trans hF34) [0, 1, 2, 3, 4, 5, 6, 7, 8, 9, 10, 11, 12, 13] (by decide) rfl) (fun _ hC => ?_) ?_
            ·obtain ⟨_, _, hleq, hq⟩ := hC
             refine r_move rfl rfl rfl (r_nil (qq rfl))
            refine d_take 21 (v := .bool (v20.2 == 2)) rfl (by kernel_rfl) (by kernel_rfl) (by kernel_rfl) rfl rfl rfl rfl (hx65.sh (hF33.trans hF34) [0, 1, 2, 3, 4, 5, 6, 7, 8, 9, 10, 11, 12, 13] (by decide) rfl) (fun _ hC => ?_) ?_
            ·obtain ⟨_, _, hleq, hq⟩ := hC
             refine r_bin rfl rfl rfl rfl rfl (r_nil (qq rfl))
            refine d_take 22 (v := .bool (v20.2 == 2)) rfl (by kernel_rfl) (by kernel_rfl) (by kernel_rfl) rfl rfl rfl rfl (hx65.sh (hF33.trans hF34) [0, 1, 2, 3, 4, 5, 6, 7, 8, 9, 10, 11, 12, 13] (by decide) rfl) (fun _ hC => ?_) ?_
            ·obtain ⟨_, _, hleq, hq⟩ := hC
             refine r_pick_true rfl rfl rfl rfl (r_nil (qq rfl))
            refine d_fin hK5 (by kernel_rfl) (fun a ha => ?_)
            cases hb10
            exact ⟨rfl, ha.cut (l := [20, 22, 25, 26, 27, 147]) rfl⟩
           ·refine d_lit 144 rfl hb21 ?_
            refine d_off 20 rfl (by kernel_rfl) (by kernel_rfl) (by kernel_rfl) rfl rfl rfl (hx65.sh (hF33.trans hF34) [0, 1, 2, 3, 4, 5, 6, 7, 8, 9, 10, 11, 12, 13] (by decide) rfl) ?_
            refine d_off 21 rfl (by kernel_rfl) (by kernel_rfl) (by kernel_rfl) rfl rfl rfl (hx65.sh (hF33.trans hF34) [0, 1, 2, 3, 4, 5, 6, 7, 8, 9, 10, 11, 12, 13] (by decide) rfl) ?_
            refine d_take 22 (v := .bool false) rfl (by kernel_rfl) (by kernel_rfl) (by kernel_rfl) rfl rfl rfl rfl (hx65.sh (hF33.trans hF34) [0, 1, 2, 3, 4, 5, 6, 7, 8, 9, 10, 11, 12, 13] (by decide) rfl) (fun _ hC => ?_) ?_
            ·obtain ⟨_, _, hleq, hq⟩ := hC
             refine r_pick_false rfl rfl rfl rfl (r_nil (qq rfl))
            refine d_fin hK5 (by kernel_rfl) (fun a ha => ?_)
            cases hb10
            exact ⟨rfl, ha.cut (l := [20, 22, 25, 26, 27, 147]) rfl⟩
         ·clear hm
          rcases cond_some hb9 with ⟨hb22, hb9⟩ | ⟨hb22, hb9⟩
          ·refine d_lit 139 rfl hb22 ?_
           refine d_take 15 (v := .agg #[.int .i64 v19.1.Sign, .slice as22 ns22 cs22]) rfl (by kernel_rfl) (by kernel_rfl) (by kernel_rfl) rfl rfl rfl rfl (hx64.sh hF33 [0, 1, 2, 3, 4, 5, 6, 7, 8, 9, 10, 11, 12, 13] (by decide) rfl) (fun _ hC => ?_) ?_
           ·obtain ⟨_, _, hleq, hq⟩ := hC
            refine r_loadBA (cs' := [.int .i64 v19.1.Sign, .slice as22 ns22 cs22]) ag24 sz24 rfl rfl hq rfl (i := 4) rfl rfl rfl (r_nil (qq rfl))
           refine d_step 16 rfl (by kernel_rfl) ?_
           obtain ⟨v42, hv27, hb9⟩ := bind_some hb9
           refine r_callG0 ent30 rfl rfl rfl rfl hx64 (big_Of_ok _ _ _ hv27 hx64.sat) ?_
           rintro _ Fx35 _ wx73 hF35 hx66 ⟨as27, ns27, cs27, rfl, rfl, hs27⟩
           refine d_next (hx66.sh (hF33.trans hF35) [0, 1, 2, 3, 4, 5, 6, 7, 8, 9, 10, 11, 12, 13] (by decide) rfl) ?_
           refine d_step 17 rfl (by kernel_rfl) ?_
           obtain ⟨v43, hv28, hb9⟩ := bind_some hb9
           refine r_callG0 ent25 rfl rfl rfl rfl hx66 (big_Same_ok _ _ _ _ hv28 hx66.sat (((((((((((((((hs22.mono hF20).mono hF21).mono hF22).mono hF23).mono hF24).mono hF25).mono hF26).mono hF27).mono hF28).mono hF29).mono hF30).mono hF31).mono hF32).mono hF33).mono hF35) hs27) ?_
           rintro _ Fx36 _ wx74 hF36 hx67 ⟨rfl, rfl⟩
           refine d_next (hx67.sh ((hF33.trans hF35).trans hF36) [0, 1, 2, 3, 4, 5, 6, 7, 8, 9, 10, 11, 12, 13] (by decide) rfl) ?_
           refine d_take 18 (v := .bool v43) rfl (by kernel_rfl) (by kernel_rfl) (by kernel_rfl) rfl rfl rfl rfl (hx67.sh ((hF33.trans hF35).trans hF36) [0, 1, 2, 3, 4, 5, 6, 7, 8, 9, 10, 11, 12, 13] (by decide) rfl) (fun _ hC => ?_) ?_
           ·obtain ⟨_, _, hleq, hq⟩ := hC
            refine r_pick_true rfl rfl rfl rfl (r_nil (qq rfl))
           refine d_fin hK4 (by kernel_rfl) (fun a ha => ?_)
           cases hb9
           exact ⟨_, (hF35.trans hF36), hx67.pick [0, 1, 2, 3, 4, 5, 6, 7, 8, 9, 10, 11, 12, 13] (by decide) rfl, ha.cut (l := [18, 20, 22, 25, 26, 27, 143]) rfl⟩
          ·refine d_lit 139 rfl hb22 ?_
           refine d_off 15 rfl (by kernel_rfl) (by kernel_rfl) (by kernel_rfl) rfl rfl rfl (hx64.sh hF33 [0, 1, 2, 3, 4, 5, 6, 7, 8, 9, 10, 11, 12, 13] (by decide) rfl) ?_
           refine d_off 16 rfl (by kernel_rfl) (by kernel_rfl) (by kernel_rfl) rfl rfl rfl (hx64.sh hF33 [0, 1, 2, 3, 4, 5, 6, 7, 8, 9, 10, 11, 12, 13] (by decide) rfl) ?_
           refine d_off 17 rfl (by kernel_rfl) (by kernel_rfl) (by kernel_rfl) rfl rfl rfl (hx64.sh hF33 [0, 1, 2, 3, 4, 5, 6, 7, 8, 9, 10, 11, 12, 13] (by decide) rfl) ?_
           refine d_take 18 (v := .bool false) rfl (by kernel_rfl) (by kernel_rfl) (by kernel_rfl) rfl rfl rfl rfl (hx64.sh hF33 [0, 1, 2, 3, 4, 5, 6, 7, 8, 9, 10, 11, 12, 13] (by decide) rfl) (fun _ hC => ?_) ?_
           ·obtain ⟨_, _, hleq, hq⟩ := hC
            refine r_pick_false rfl rfl rfl rfl (r_nil (qq rfl))
           refine d_fin hK4 (by kernel_rfl) (fun a ha => ?_)
           cases hb9
           exact ⟨_, Frz.refl _, hx64.pick [0, 1, 2, 3, 4, 5, 6, 7, 8, 9, 10, 11, 12, 13] (by decide) rfl, ha.cut (l := [18, 20, 22, 25, 26, 27, 143]) rfl⟩
        ·clear hm
         rcases cond_some hb8 with ⟨hb23, hb8⟩ | ⟨hb23, hb8⟩
         ·refine d_lit 135 rfl hb23 ?_
          refine d_take 11 (v := .int .i64 v19.2) rfl (by kernel_rfl) (by kernel_rfl) (by kernel_rfl) rfl rfl rfl rfl (hx64.sh hF33 [0, 1, 2, 3, 4, 5, 6, 7, 8, 9, 10, 11, 12, 13] (by decide) rfl) (fun _ hC => ?_) ?_
          ·obtain ⟨_, _, hleq, hq⟩ := hC
           refine r_move rfl rfl rfl (r_nil (qq rfl))
          refine d_take 12 (v := .bool (v19.2 == 0)) rfl (by kernel_rfl) (by kernel_rfl) (by kernel_rfl) rfl rfl rfl rfl (hx64.sh hF33 [0, 1, 2, 3, 4, 5, 6, 7, 8, 9, 10, 11, 12, 13] (by decide) rfl) (fun _ hC => ?_) ?_
          ·obtain ⟨_, _, hleq, hq⟩ := hC
           refine r_bin rfl rfl rfl rfl rfl (r_nil (qq rfl))
          refine d_take 13 (v := .bool (v19.2 == 0)) rfl (by kernel_rfl) (by kernel_rfl) (by kernel_rfl) rfl rfl rfl rfl (hx64.sh hF33 [0, 1, 2, 3, 4, 5, 6, 7, 8, 9, 10, 11, 12, 13] (by decide) rfl) (fun _ hC => ?_) ?_
          ·obtain ⟨_, _, hleq, hq⟩ := hC
           refine r_pick_true rfl rfl rfl rfl (r_nil (qq rfl))
          refine d_fin hK3 (by kernel_rfl) (fun a ha => ?_)
          cases hb8
          exact ⟨rfl, ha.cut (l := [15, 18, 20, 22, 25, 26, 27, 138]) rfl⟩
         ·refine d_lit 135 rfl hb23 ?_
          refine d_off 11 rfl (by kernel_rfl) (by kernel_rfl) (by kernel_rfl) rfl rfl rfl (hx64.sh hF33 [0, 1, 2, 3, 4, 5, 6, 7, 8, 9, 10, 11, 12, 13] (by decide) rfl) ?_
          refine d_off 12 rfl (by kernel_rfl) (by kernel_rfl) (by kernel_rfl) rfl rfl rfl (hx64.sh hF33 [0, 1, 2, 3, 4, 5, 6, 7, 8, 9, 10, 11, 12, 13] (by decide) rfl) ?_
          refine d_take 13 (v := .bool false) rfl (by kernel_rfl) (by kernel_rfl) (by kernel_rfl) rfl rfl rfl rfl (hx64.sh hF33 [0, 1, 2, 3, 4, 5, 6, 7, 8, 9, 10, 11, 12, 13] (by decide) rfl) (fun _ hC => ?_) ?_
          ·obtain ⟨_, _, hleq, hq⟩ := hC
           refine r_pick_false rfl rfl rfl rfl (r_nil (qq rfl))
          refine d_fin hK3 (by kernel_rfl) (fun a ha => ?_)
          cases hb8
          exact ⟨rfl, ha.cut (l := [15, 18, 20, 22, 25, 26, 27, 138]) rfl⟩
       ·clear hm
        rcases cond_some hb7 with ⟨hb24, hb7⟩ | ⟨hb24, hb7⟩
        ·refine d_lit 130 rfl hb24 ?_
         refine d_take 6 (v := .agg #[.int .i64 v16.1.Sign, .slice as19 ns19 cs19]) rfl (by kernel_rfl) (by kernel_rfl) (by kernel_rfl) rfl rfl rfl rfl (hx63.sh (Frz.refl _) [0, 1, 2, 3, 4, 5, 6, 7, 8, 9, 10, 11, 12, 13] (by decide) rfl) (fun _ hC => ?_) ?_
         ·obtain ⟨_, _, hleq, hq⟩ := hC
          refine r_loadBA (cs' := [.int .i64 v16.1.Sign, .slice as19 ns19 cs19]) ag24 sz24 rfl rfl hq rfl (i := 5) rfl rfl rfl (r_nil (qq rfl))
         refine d_step 7 rfl (by kernel_rfl) ?_
         obtain ⟨v44, hv29, hb7⟩ := bind_some hb7
         refine r_callG0 ent30 rfl rfl rfl rfl hx63 (big_Of_ok _ _ _ hv29 hx63.sat) ?_
         rintro _ Fx37 _ wx75 hF37 hx68 ⟨as28, ns28, cs28, rfl, rfl, hs28⟩
         refine d_next (hx68.sh hF37 [0, 1, 2, 3, 4, 5, 6, 7, 8, 9, 10, 11, 12, 13] (by decide) rfl) ?_
         refine d_step 8 rfl (by kernel_rfl) ?_
         obtain ⟨v45, hv30, hb7⟩ := bind_some hb7
         refine r_callG0 ent25 rfl rfl rfl rfl hx68 (big_Same_ok _ _ _ _ hv30 hx68.sat (((((((((((((((((hs19.mono hF17).mono hF18).mono hF19).mono hF20).mono hF21).mono hF22).mono hF23).mono hF24).mono hF25).mono hF26).mono hF27).mono hF28).mono hF29).mono hF30).mono hF31).mono hF32).mono hF37) hs28) ?_
         rintro _ Fx38 _ wx76 hF38 hx69 ⟨rfl, rfl⟩
         refine d_next (hx69.sh (hF37.trans hF38) [0, 1, 2, 3, 4, 5, 6, 7, 8, 9, 10, 11, 12, 13] (by decide) rfl) ?_
         refine d_take 9 (v := .bool v45) rfl (by kernel_rfl) (by kernel_rfl) (by kernel_rfl) rfl rfl rfl rfl (hx69.sh (hF37.trans hF38) [0, 1, 2, 3, 4, 5, 6, 7, 8, 9, 10, 11, 12, 13] (by decide) rfl) (fun _ hC => ?_) ?_
         ·obtain ⟨_, _, hleq, hq⟩ := hC
          refine r_pick_true rfl rfl rfl rfl (r_nil (qq rfl))
         refine d_fin hK2 (by kernel_rfl) (fun a ha => ?_)
         cases hb7
         exact ⟨_, (hF37.trans hF38), hx69.pick [0, 1, 2, 3, 4, 5, 6, 7, 8, 9, 10, 11, 12, 13] (by decide) rfl, ha.cut (l := [15, 16, 18, 20, 22, 25, 26, 27, 134]) rfl⟩
        ·refine d_lit 130 rfl hb24 ?_
         refine d_off 6 rfl (by kernel_rfl) (by kernel_rfl) (by kernel_rfl) rfl rfl rfl (hx63.sh (Frz.refl _) [0, 1, 2, 3, 4, 5, 6, 7, 8, 9, 10, 11, 12, 13] (by decide) rfl) ?_
         refine d_off 7 rfl (by kernel_rfl) (by kernel_rfl) (by kernel_rfl) rfl rfl rfl (hx63.sh (Frz.refl _) [0, 1, 2, 3, 4, 5, 6, 7, 8, 9, 10, 11, 12, 13] (by decide) rfl) ?_
         refine d_off 8 rfl (by kernel_rfl) (by kernel_rfl) (by kernel_rfl) rfl rfl rfl (hx63.sh (Frz.refl _) [0, 1, 2, 3, 4, 5, 6, 7, 8, 9, 10, 11, 12, 13] (by decide) rfl) ?_
         refine d_take 9 (v := .bool false) rfl (by kernel_rfl) (by kernel_rfl) (by kernel_rfl) rfl rfl rfl rfl (hx63.sh (Frz.refl _) [0, 1, 2, 3, 4, 5, 6, 7, 8, 9, 10, 11, 12, 13] (by decide) rfl) (fun _ hC => ?_) ?_
         ·obtain ⟨_, _, hleq, hq⟩ := hC
          refine r_pick_false rfl rfl rfl rfl (r_nil (qq rfl))
         refine d_fin hK2 (by kernel_rfl) (fun a ha => ?_)
         cases hb7
         exact ⟨_, Frz.refl _, hx63.pick [0, 1, 2, 3, 4, 5, 6, 7, 8, 9, 10, 11, 12, 13] (by decide) rfl, ha.cut (l := [15, 16, 18, 20, 22, 25, 26, 27, 134]) rfl⟩
      ·clear hm
       rcases cond_some hb6 with ⟨hb25, hb6⟩ | ⟨hb25, hb6⟩
       ·refine d_lit 126 rfl hb25 ?_
        refine d_take 2 (v := .int .i64 v16.2) rfl (by kernel_rfl) (by kernel_rfl) (by kernel_rfl) rfl rfl rfl rfl (hx63.sh (Frz.refl _) [0, 1, 2, 3, 4, 5, 6, 7, 8, 9, 10, 11, 12, 13] (by decide) rfl) (fun _ hC => ?_) ?_
        ·obtain ⟨_, _, hleq, hq⟩ := hC
         refine r_move rfl rfl rfl (r_nil (qq rfl))
        refine d_take 3 (v := .bool (v16.2 == 0)) rfl (by kernel_rfl) (by kernel_rfl) (by kernel_rfl) rfl rfl rfl rfl (hx63.sh (Frz.refl _) [0, 1, 2, 3, 4, 5, 6, 7, 8, 9, 10, 11, 12, 13] (by decide) rfl) (fun _ hC => ?_) ?_
        ·obtain ⟨_, _, hleq, hq⟩ := hC
         refine r_bin rfl rfl rfl rfl rfl (r_nil (qq rfl))
        refine d_take 4 (v := .bool (v16.2 == 0)) rfl (by kernel_rfl) (by kernel_rfl) (by kernel_rfl) rfl rfl rfl rfl (hx63.sh (Frz.refl _) [0, 1, 2, 3, 4, 5, 6, 7, 8, 9, 10, 11, 12, 13] (by decide) rfl) (fun _ hC => ?_) ?_
        ·obtain ⟨_, _, hleq, hq⟩ := hC
         refine r_pick_true rfl rfl rfl rfl (r_nil (qq rfl))
        refine d_fin hK1 (by kernel_rfl) (fun a ha => ?_)
        cases hb6
        exact ⟨rfl, ha.cut (l := [13, 15, 16, 18, 20, 22, 25, 26, 27, 129]) rfl⟩
       ·refine d_lit 126 rfl hb25 ?_
        refine d_off 2 rfl (by kernel_rfl) (by kernel_rfl) (by kernel_rfl) rfl rfl rfl (hx63.sh (Frz.refl _) [0, 1, 2, 3, 4, 5, 6, 7, 8, 9, 10, 11, 12, 13] (by decide) rfl) ?_
        refine d_off 3 rfl (by kernel_rfl) (by kernel_rfl) (by kernel_rfl) rfl rfl rfl (hx63.sh (Frz.refl _) [0, 1, 2, 3, 4, 5, 6, 7, 8, 9, 10, 11, 12, 13] (by decide) rfl) ?_
        refine d_take 4 (v := .bool false) rfl (by kernel_rfl) (by kernel_rfl) (by kernel_rfl) rfl rfl rfl rfl (hx63.sh (Frz.refl _) [0, 1, 2, 3, 4, 5, 6, 7, 8, 9, 10, 11, 12, 13] (by decide) rfl) (fun _ hC => ?_) ?_
        ·obtain ⟨_, _, hleq, hq⟩ := hC
         refine r_pick_false rfl rfl rfl rfl (r_nil (qq rfl))
        refine d_fin hK1 (by kernel_rfl) (fun a ha => ?_)
        cases hb6
        exact ⟨rfl, ha.cut (l := [13, 15, 16, 18, 20, 22, 25, 26, 27, 129]) rfl⟩
     ·clear hm
      rcases cond_some hb5 with ⟨hb26, hb5⟩ | ⟨hb26, hb5⟩
      ·refine r_lit 119 rfl hb26 ?_
       refine r_loadBA (cs' := [.int .i64 v13.1.Sign, .slice as15 ns15 cs15]) ag24 sz24 rfl rfl hx61 rfl (i := 7) rfl rfl rfl ?_
       refine r_loadBA (cs' := [.int .i64 v13.2.1.Sign, .slice as16 ns16 cs16]) ag24 sz24 rfl rfl hx61 rfl (i := 6) rfl rfl rfl ?_
       refine r_move rfl rfl rfl ?_
       obtain ⟨v46, hv31, hb5⟩ := bind_some hb5
       refine r_callG0 ent32 rfl rfl rfl rfl hx61 (law04_pair_ok _ _ _ _ _ _ _ hv31 hx61.sat ((((((((((((((((((hs15.mono hF14).mono hF15).mono hF16).mono hF17).mono hF18).mono hF19).mono hF20).mono hF21).mono hF22).mono hF23).mono hF24).mono hF25).mono hF26).mono hF27).mono hF28).mono hF29).mono hF30).mono hF31) ((((((((((((((((((hs16.mono hF14).mono hF15).mono hF16).mono hF17).mono hF18).mono hF19).mono hF20).mono hF21).mono hF22).mono hF23).mono hF24).mono hF25).mono hF26).mono hF27).mono hF28).mono hF29).mono hF30).mono hF31)) ?_
       rintro _ Fx39 _ wx77 hF39 hx70 ⟨rfl, rfl⟩
       refine r_pick_true rfl rfl rfl rfl (r_nil ?_)
       refine q_next (fun a ha => ?_)
       cases hb5
       exact ⟨_, hF39, hx70.pick [0, 1, 2, 3, 4, 5, 6, 7, 8, 9, 10, 11, 12, 13] (by decide) rfl, ha.cut (l := [13, 14, 15, 16, 18, 20, 22, 25, 26, 27, 124]) rfl⟩
      ·refine r_lit 119 rfl hb26 ?_
       refine r_off rfl (by decide) rfl (r_off rfl (by decide) rfl (r_off rfl (by decide) rfl (r_off rfl (by decide) rfl (r_pick_false rfl rfl rfl rfl (r_nil ?_)))))
       refine q_next (fun a ha => ?_)
       cases hb5
       exact ⟨_, Frz.refl _, hx61.pick [0, 1, 2, 3, 4, 5, 6, 7, 8, 9, 10, 11, 12, 13] (by decide) rfl, ha.cut (l := [13, 14, 15, 16, 18, 20, 22, 25, 26, 27, 124]) rfl⟩
    ·clear hm
     rcases cond_some hb4 with ⟨hb27, hb4⟩ | ⟨hb27, hb4⟩
     ·refine r_lit 113 rfl hb27 ?_
      refine r_loadBA (cs' := [.int .i64 v10.1.Sign, .slice as11 ns11 cs11]) ag24 sz24 rfl rfl hx60 rfl (i := 9) rfl rfl rfl ?_
      refine r_loadBA (cs' := [.int .i64 v10.2.1.Sign, .slice as12 ns12 cs12]) ag24 sz24 rfl rfl hx60 rfl (i := 8) rfl rfl rfl ?_
      refine r_move rfl rfl rfl ?_
      obtain ⟨v47, hv32, hb4⟩ := bind_some hb4
      refine r_callG0 ent32 rfl rfl rfl rfl hx60 (law04_pair_ok _ _ _ _ _ _ _ hv32 hx60.sat ((((((((((((((((((((hs11.mono hF11).mono hF12).mono hF13).mono hF14).mono hF15).mono hF16).mono hF17).mono hF18).mono hF19).mono hF20).mono hF21).mono hF22).mono hF23).mono hF24).mono hF25).mono hF26).mono hF27).mono hF28).mono hF29).mono hF30) ((((((((((((((((((((hs12.mono hF11).mono hF12).mono hF13).mono hF14).mono hF15).mono hF16).mono hF17).mono hF18).mono hF19).mono hF20).mono hF21).mono hF22).mono hF23).mono hF24).mono hF25).mono hF26).mono hF27).mono hF28).mono hF29).mono hF30)) ?_
      rintro _ Fx40 _ wx78 hF40 hx71 ⟨rfl, rfl⟩
      refine r_pick_true rfl rfl rfl rfl (r_nil ?_)
      refine q_next (fun a ha => ?_)
      cases hb4
      exact ⟨_, hF40, hx71.pick [0, 1, 2, 3, 4, 5, 6, 7, 8, 9, 10, 11, 12, 13] (by decide) rfl, ha.cut (l := [10, 11, 12, 13, 14, 15, 16, 18, 20, 22, 25, 26, 27, 118]) rfl⟩
     ·refine r_lit 113 rfl hb27 ?_
      refine r_off rfl (by decide) rfl (r_off rfl (by decide) rfl (r_off rfl (by decide) rfl (r_off rfl (by decide) rfl (r_pick_false rfl rfl rfl rfl (r_nil ?_)))))
      refine q_next (fun a ha => ?_)
      cases hb4
      exact ⟨_, Frz.refl _, hx60.pick [0, 1, 2, 3, 4, 5, 6, 7, 8, 9, 10, 11, 12, 13] (by decide) rfl, ha.cut (l := [10, 11, 12, 13, 14, 15, 16, 18, 20, 22, 25, 26, 27, 118]) rfl⟩
   ·clear hm
    rcases cond_some hb3 with ⟨hb28, hb3⟩ | ⟨hb28, hb3⟩
    ·refine r_lit 107 rfl hb28 ?_
     refine r_loadBA (cs' := [.int .i64 v7.1.Sign, .slice as7 ns7 cs7]) ag24 sz24 rfl rfl hx59 rfl (i := 11) rfl rfl rfl ?_
     refine r_loadBA (cs' := [.int .i64 v7.2.1.Sign, .slice as8 ns8 cs8]) ag24 sz24 rfl rfl hx59 rfl (i := 10) rfl rfl rfl ?_
     refine r_move rfl rfl rfl ?_
     obtain ⟨v48, hv33, hb3⟩ := bind_some hb3
     refine r_callG0 ent32 rfl rfl rfl rfl hx59 (law04_pair_ok _ _ _ _ _ _ _ hv33 hx59.sat ((((((((((((((((((((((hs7.mono hF8).mono hF9).mono hF10).mono hF11).mono hF12).mono hF13).mono hF14).mono hF15).mono hF16).mono hF17).mono hF18).mono hF19).mono hF20).mono hF21).mono hF22).mono hF23).mono hF24).mono hF25).mono hF26).mono hF27).mono hF28).mono hF29) ((((((((((((((((((((((hs8.mono hF8).mono hF9).mono hF10).mono hF11).mono hF12).mono hF13).mono hF14).mono hF15).mono hF16).mono hF17).mono hF18).mono hF19).mono hF20).mono hF21).mono hF22).mono hF23).mono hF24).mono hF25).mono hF26).mono hF27).mono hF28).mono hF29)) ?_
     rintro _ Fx41 _ wx79 hF41 hx72 ⟨rfl, rfl⟩
     refine r_pick_true rfl rfl rfl rfl (r_nil ?_)
     refine q_next (fun a ha => ?_)
     cases hb3
     exact ⟨_, hF41, hx72.pick [0, 1, 2, 3, 4, 5, 6, 7, 8, 9, 10, 11, 12, 13] (by decide) rfl, ha.cut (l := [7, 8, 9, 10, 11, 12, 13, 14, 15, 16, 18, 20, 22, 25, 26, 27, 112]) rfl⟩
    ·refine r_lit 107 rfl hb28 ?_
     refine r_off rfl (by decide) rfl (r_off rfl (by decide) rfl (r_off rfl (by decide) rfl (r_off rfl (by decide) rfl (r_pick_false rfl rfl rfl rfl (r_nil ?_)))))
     refine q_next (fun a ha => ?_)
     cases hb3
     exact ⟨_, Frz.refl _, hx59.pick [0, 1, 2, 3, 4, 5, 6, 7, 8, 9, 10, 11, 12, 13] (by decide) rfl, ha.cut (l := [7, 8, 9, 10, 11, 12, 13, 14, 15, 16, 18, 20, 22, 25, 26, 27, 112]) rfl⟩
  ·clear hm
   rcases cond_some hb2 with ⟨hb29, hb2⟩ | ⟨hb29, hb2⟩
   ·refine r_lit 102 rfl hb29 ?_
    refine r_loadBA (cs' := [.int .i64 v4.1.Sign, .slice as4 ns4 cs4]) ag24 sz24 rfl rfl hx58 rfl (i := 12) rfl rfl rfl ?_
    obtain ⟨v49, hv34, hb2⟩ := bind_some hb2
    refine r_callG0 ent26 rfl rfl rfl rfl hx58 (big_Text_ok _ _ _ hv34 hx58.sat ((((((((((((((((((((((((hs4.mono hF5).mono hF6).mono hF7).mono hF8).mono hF9).mono hF10).mono hF11).mono hF12).mono hF13).mono hF14).mono hF15).mono hF16).mono hF17).mono hF18).mono hF19).mono hF20).mono hF21).mono hF22).mono hF23).mono hF24).mono hF25).mono hF26).mono hF27).mono hF28) ((((((((((((((((((((((((((((hg2.mono hF1).mono hF2).mono hF3).mono hF4).mono hF5).mono hF6).mono hF7).mono hF8).mono hF9).mono hF10).mono hF11).mono hF12).mono hF13).mono hF14).mono hF15).mono hF16).mono hF17).mono hF18).mono hF19).mono hF20).mono hF21).mono hF22).mono hF23).mono hF24).mono hF25).mono hF26).mono hF27).mono hF28)) ?_
    rintro _ Fx42 _ wx80 hF42 hx73 ⟨rfl, rfl⟩
    refine r_str rfl rfl rfl rfl rfl ?_
    refine r_pick_true rfl rfl rfl rfl (r_nil ?_)
    refine q_next (fun a ha => ?_)
    cases hb2
    exact ⟨_, hF42, hx73.pick [0, 1, 2, 3, 4, 5, 6, 7, 8, 9, 10, 11, 12, 13] (by decide) rfl, ha.cut (l := [4, 5, 6, 7, 8, 9, 10, 11, 12, 13, 14, 15, 16, 18, 20, 22, 25, 26, 27, 106]) rfl⟩
   ·refine r_lit 102 rfl hb29 ?_
    refine r_off rfl (by decide) rfl (r_off rfl (by decide) rfl (r_off rfl (by decide) rfl (r_pick_false rfl rfl rfl rfl (r_nil ?_))))
    refine q_next (fun a ha => ?_)
    cases hb2
    exact ⟨_, Frz.refl _, hx58.pick [0, 1, 2, 3, 4, 5, 6, 7, 8, 9, 10, 11, 12, 13] (by decide) rfl, ha.cut (l := [4, 5, 6, 7, 8, 9, 10, 11, 12, 13, 14, 15, 16, 18, 20, 22, 25, 26, 27, 106]) rfl⟩
 ·clear hm
  rcases cond_some hb1 with ⟨hb30, hb1⟩ | ⟨hb30, hb1⟩
  ·refine r_lit 98 rfl hb30 ?_
   refine r_move rfl rfl rfl ?_
   refine r_bin rfl rfl rfl rfl rfl ?_
   refine r_pick_true rfl rfl rfl rfl (r_nil ?_)
   refine q_next (fun a ha => ?_)
   cases hb1
   exact ⟨rfl, ha.cut (l := [2, 4, 5, 6, 7, 8, 9, 10, 11, 12, 13, 14, 15, 16, 18, 20, 22, 25, 26, 27, 101]) rfl⟩
  ·refine r_lit 98 rfl hb30 ?_
   refine r_off rfl (by decide) rfl (r_off rfl (by decide) rfl (r_pick_false rfl rfl rfl rfl (r_nil ?_)))
   refine q_next (fun a ha => ?_)
   cases hb1
   exact ⟨rfl, ha.cut (l := [2, 4, 5, 6, 7, 8, 9, 10, 11, 12, 13, 14, 15, 16, 18, 20, 22, 25, 26, 27, 101]) rfl⟩


end Go.Proofs.YtaiiclbemlmmaaaGreatDoor.M
