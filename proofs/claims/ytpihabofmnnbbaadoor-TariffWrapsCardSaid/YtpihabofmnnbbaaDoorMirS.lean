/-
  THE MIRRORS of the tariff's and the lexer's functions, of the references and the laws, and that each call returns what its mirror says. Printed by gen.py.
-/
import Derived.Test.YtpihabofmnnbbaaDoorRows
import Derived.Test.YtpihabofmnnbbaaDoorRtZ
import Derived.Test.YtpihabofmnnbbaaDoorExpr
import Derived.Test.YtpihabofmnnbbaaDoorExtT
import Derived.Test.YtpihabofmnnbbaaDoorMirG
namespace Go.Proofs.YtpihabofmnnbbaaDoor.M
open Go Go.RowKit Rt

theorem ent10 : Ent Tryd.prog 10 := fun _ _ => by kernel_rfl

theorem ent22 : Ent Tryd.prog 22 := fun _ _ => by kernel_rfl

theorem ent21 : Ent Tryd.prog 21 := fun _ _ => by kernel_rfl

theorem ent9 : Ent Tryd.prog 9 := fun _ _ => by kernel_rfl

theorem ent13 : Ent Tryd.prog 13 := fun _ _ => by kernel_rfl

theorem ent14 : Ent Tryd.prog 14 := fun _ _ => by kernel_rfl

theorem ent11 : Ent Tryd.prog 11 := fun _ _ => by kernel_rfl

def law35_small (n : Nat)  : Option Bool :=
 (tariff_Parse n [116, 97, 114, 105, 102, 102, 32, 116, 111, 119, 110, 32, 123, 32, 102, 101, 101, 32, 61, 32, 51, 48, 48, 32, 43, 32, 40, 50, 32, 42, 32, 108, 105, 102, 116, 115, 40, 112, 97, 112, 101, 114, 41, 41, 32, 59, 32, 99, 97, 112, 32, 61, 32, 57, 48, 48, 48, 32, 59, 32, 125]).bind fun v1 =>
 (law35_leaf n 0 300 []).bind fun v2 =>
 (law35_leaf n 0 2 []).bind fun v3 =>
 (law35_leaf n 1 0 [112, 97, 112, 101, 114]).bind fun v4 =>
 (law35_two n 7 v3 v4).bind fun v5 =>
 (law35_two n 5 v2 v5).bind fun v6 =>
 (tariff_Print n (⟨[116, 111, 119, 110], v6, 9000⟩ : Tariff)).bind fun v7 =>
 (tariff_Parse n [116, 97, 114, 105, 102, 102, 32, 97, 32, 123, 32, 102, 101, 101, 32, 61, 32, 49, 32, 43, 32, 50, 32, 43, 32, 51, 32, 59, 32, 125]).bind fun v8 =>
 (law35_leaf n 4 0 [112, 97, 112, 101, 114]).bind fun v9 =>
 (law35_leaf n 4 0 [103, 108, 97, 115, 115]).bind fun v10 =>
 (law35_leaf n 0 0 []).bind fun v11 =>
 (law35_two n 8 v9 v11).bind fun v12 =>
 (tariff_Type n v12 [[112, 97, 112, 101, 114], [103, 108, 97, 115, 115]]).bind fun v13 =>
 (law35_two n 7 v9 v10).bind fun v14 =>
 (tariff_Type n v14 [[112, 97, 112, 101, 114], [103, 108, 97, 115, 115]]).bind fun v15 =>
 (law35_leaf n 0 5 []).bind fun v16 =>
 (law35_two n 12 v9 v16).bind fun v17 =>
 (tariff_Type n v17 [[112, 97, 112, 101, 114], [103, 108, 97, 115, 115]]).bind fun v18 =>
 (law35_leaf n 2 0 []).bind fun v19 =>
 (law35_two n 9 v19 v10).bind fun v20 =>
 (tariff_Type n v20 [[112, 97, 112, 101, 114], [103, 108, 97, 115, 115]]).bind fun v21 =>
 (bif v1.2.2 == 0 then
  some (v1.2.1 == 0)
 else
  some false).bind fun v22 =>
 (bif v22 then
  (ref35_SameTariff n v1.1 (⟨[116, 111, 119, 110], v6, 9000⟩ : Tariff)).bind fun v35 =>
  some v35
 else
  some false).bind fun v23 =>
 (bif v23 then
  some v7.2
 else
  some false).bind fun v24 =>
 (bif v24 then
  some (v7.1 == [116, 97, 114, 105, 102, 102, 32, 116, 111, 119, 110, 32, 123, 32, 102, 101, 101, 32, 61, 32, 51, 48, 48, 32, 43, 32, 40, 32, 50, 32, 42, 32, 108, 105, 102, 116, 115, 32, 40, 32, 112, 97, 112, 101, 114, 32, 41, 32, 41, 32, 59, 32, 99, 97, 112, 32, 61, 32, 57, 48, 48, 48, 32, 59, 32, 125])
 else
  some false).bind fun v25 =>
 (bif v25 then
  some (v8.2.2 == 12)
 else
  some false).bind fun v26 =>
 (bif v26 then
  some (v8.2.1 == 23)
 else
  some false).bind fun v27 =>
 (bif v27 then
  some (v13.2 == 14)
 else
  some false).bind fun v28 =>
 (bif v28 then
  some (v15.2 == 13)
 else
  some false).bind fun v29 =>
 (bif v29 then
  some (v18.2 == 13)
 else
  some false).bind fun v30 =>
 (bif v30 then
  some (v21.2 == 0)
 else
  some false).bind fun v31 =>
 (bif v31 then
  some (v21.1 == 2)
 else
  some false).bind fun v32 =>
 (bif v32 then
  (tariff_Check n (⟨[116, 111, 119, 110], v6, 9000⟩ : Tariff) [[112, 97, 112, 101, 114], [103, 108, 97, 115, 115]]).bind fun v34 =>
  some (v34 == 0)
 else
  some false).bind fun v33 =>
 some v33

set_option maxHeartbeats 1000000 in
set_option maxRecDepth 1000000 in
theorem law35_small_ok (n : Nat)  (r : Bool) (hm : law35_small n  = some r) {w : World} {F : Frz} (hs : Sat F w) (hg0 : FX F 0 [.int .u8 40, .int .u8 41, .int .u8 44, .int .u8 59, .int .u8 58, .int .u8 61, .int .u8 60, .int .u8 43, .int .u8 45, .int .u8 42, .int .u8 47, .int .u8 123, .int .u8 125]) (hg1 : FX F 1 (Lib.pow10Tab.map (Value.int .u64))) :
  Calls Tryd.prog 7 #[] w fun e w' => ∃ v F' O', e = .returned v ∧ HS F w [] F' O' w' ∧ (v = .bool r ∧ O' = []) := by
 unfold law35_small at hm
 have h := HS.init hs
 refine calls_of 131 Tryd.func7 rfl rfl rfl ?_
 refine c_seq (c_region (r_assign rfl rfl rfl (r_nil (q_then (c_seq (c_region ?_))))))
 refine r_buildSlice (e := 9) (cs := [vs [112, 97, 112, 101, 114], vs [103, 108, 97, 115, 115]]) (q := 1) rfl rfl h rfl (fun _ => by kernel_rfl) rfl rfl ?_
 intro b1 wx1 hx1
 refine r_assign rfl rfl rfl (r_nil (q_then (c_seq (c_region ?_))))
 obtain ⟨v1, hv1, hm⟩ := bind_some hm
 refine r_callG0 ent10 rfl rfl rfl rfl hx1 (tariff_Parse_ok _ _ _ hv1 hx1.sat hg0) ?_
 rintro _ Fx1 _ wx2 hF1 hx2 ⟨as1, ns1, cs1, rfl, rfl, hs1⟩
 refine r_move rfl rfl rfl (r_extract rfl rfl rfl rfl (r_extract rfl rfl rfl rfl (r_extract rfl rfl rfl rfl ?_)))
 refine r_alloc ze26 rfl rfl rfl hx2 ?_
 intro b2 wx3 hx3
 refine r_store sz26 rfl hx3 rfl rfl rfl rfl (i := 0) rfl rfl rfl rfl ?_
 intro wx4 hx4
 refine r_assign rfl rfl rfl (r_assign rfl rfl rfl (r_nil (q_then (c_seq (c_region ?_)))))
 obtain ⟨v2, hv2, hm⟩ := bind_some hm
 refine r_callG0 ent22 rfl rfl rfl rfl hx4 (law35_leaf_ok _ _ _ _ _ hv2 hx4.sat) ?_
 rintro _ Fx2 _ wx5 hF2 hx5 ⟨as2, ns2, cs2, rfl, rfl, hs2⟩
 obtain ⟨v3, hv3, hm⟩ := bind_some hm
 refine r_callG0 ent22 rfl rfl rfl rfl hx5 (law35_leaf_ok _ _ _ _ _ hv3 hx5.sat) ?_
 rintro _ Fx3 _ wx6 hF3 hx6 ⟨as3, ns3, cs3, rfl, rfl, hs3⟩
 obtain ⟨v4, hv4, hm⟩ := bind_some hm
 refine r_callG0 ent22 rfl rfl rfl rfl hx6 (law35_leaf_ok _ _ _ _ _ hv4 hx6.sat) ?_
 rintro _ Fx4 _ wx7 hF4 hx7 ⟨as4, ns4, cs4, rfl, rfl, hs4⟩
 obtain ⟨v5, hv5, hm⟩ := bind_some hm
 refine r_callG0 ent21 rfl rfl rfl rfl hx7 (law35_two_ok _ _ _ _ _ hv5 hx7.sat (hs3.mono hF4) hs4) ?_
 rintro _ Fx5 _ wx8 hF5 hx8 ⟨as5, ns5, cs5, rfl, rfl, hs5⟩
 obtain ⟨v6, hv6, hm⟩ := bind_some hm
 refine r_callG0 ent21 rfl rfl rfl rfl hx8 (law35_two_ok _ _ _ _ _ hv6 hx8.sat (((hs2.mono hF3).mono hF4).mono hF5) hs5) ?_
 rintro _ Fx6 _ wx9 hF6 hx9 ⟨as6, ns6, cs6, rfl, rfl, hs6⟩
 refine r_build (v := .agg #[vs [116, 111, 119, 110], .int .i64 v6.Op, .int .i64 v6.N, vs v6.Name, .slice as6 ns6 cs6, .int .i64 9000]) rfl rfl rfl (fun _ => by kernel_rfl) ?_
 refine r_alloc ze26 rfl rfl rfl hx9 ?_
 intro b3 wx10 hx10
 refine r_store sz26 rfl hx10 rfl rfl rfl rfl (i := 0) rfl rfl rfl rfl ?_
 intro wx11 hx11
 refine r_nil (q_then (c_seq (c_region ?_)))
 refine r_loadBW ag26 sz26 rfl rfl hx11 rfl (i := 0) rfl rfl ?_
 have hG1 := ((((hF1.trans hF2).trans hF3).trans hF4).trans hF5).trans hF6
 obtain ⟨v7, hv7, hm⟩ := bind_some hm
 refine r_callG0 ent9 rfl rfl rfl rfl hx11 (tariff_Print_ok _ _ _ hv7 hx11.sat hs6 (hg1.mono hG1)) ?_
 rintro _ Fx7 _ wx12 hF7 hx12 ⟨rfl, rfl⟩
 refine r_move rfl rfl rfl (r_extract rfl rfl rfl rfl (r_extract rfl rfl rfl rfl (r_assign rfl rfl rfl (r_assign rfl rfl rfl (r_nil (q_then (c_seq (c_region ?_))))))))
 obtain ⟨v8, hv8, hm⟩ := bind_some hm
 refine r_callG0 ent10 rfl rfl rfl rfl hx12 (tariff_Parse_ok _ _ _ hv8 hx12.sat ((hg0.mono hG1).mono hF7)) ?_
 rintro _ Fx8 _ wx13 hF8 hx13 ⟨as7, ns7, cs7, rfl, rfl, hs7⟩
 refine r_move rfl rfl rfl (r_extract rfl rfl rfl rfl (r_extract rfl rfl rfl rfl (r_extract rfl rfl rfl rfl ?_)))
 refine r_alloc ze26 rfl rfl rfl hx13 ?_
 intro b4 wx14 hx14
 refine r_store sz26 rfl hx14 rfl rfl rfl rfl (i := 0) rfl rfl rfl rfl ?_
 intro wx15 hx15
 refine r_assign rfl rfl rfl (r_assign rfl rfl rfl (r_nil (q_then (c_seq (c_region ?_)))))
 obtain ⟨v9, hv9, hm⟩ := bind_some hm
 refine r_callG0 ent22 rfl rfl rfl rfl hx15 (law35_leaf_ok _ _ _ _ _ hv9 hx15.sat) ?_
 rintro _ Fx9 _ wx16 hF9 hx16 ⟨as8, ns8, cs8, rfl, rfl, hs8⟩
 refine r_alloc ze24 rfl rfl rfl hx16 ?_
 intro b5 wx17 hx17
 refine r_store sz24 rfl hx17 rfl rfl rfl rfl (i := 0) rfl rfl rfl rfl ?_
 intro wx18 hx18
 refine r_nil (q_then (c_seq (c_region ?_)))
 obtain ⟨v10, hv10, hm⟩ := bind_some hm
 refine r_callG0 ent22 rfl rfl rfl rfl hx18 (law35_leaf_ok _ _ _ _ _ hv10 hx18.sat) ?_
 rintro _ Fx10 _ wx19 hF10 hx19 ⟨as9, ns9, cs9, rfl, rfl, hs9⟩
 refine r_alloc ze24 rfl rfl rfl hx19 ?_
 intro b6 wx20 hx20
 refine r_store sz24 rfl hx20 rfl rfl rfl rfl (i := 0) rfl rfl rfl rfl ?_
 intro wx21 hx21
 refine r_nil (q_then (c_seq ?_))
 refine c_regionH (SH Fx10 [.box b6 24 [.int .i64 v10.Op, .int .i64 v10.N, vs v10.Name, .slice as9 ns9 cs9], .box b5 24 [.int .i64 v9.Op, .int .i64 v9.N, vs v9.Name, .slice as8 ns8 cs8], .box b4 26 [vs v8.1.Name, .int .i64 v8.1.Fee.Op, .int .i64 v8.1.Fee.N, vs v8.1.Fee.Name, .slice as7 ns7 cs7, .int .i64 v8.1.Cap], .box b3 26 [vs [116, 111, 119, 110], .int .i64 v6.Op, .int .i64 v6.N, vs v6.Name, .slice as6 ns6 cs6, .int .i64 9000], .box b2 26 [vs v1.1.Name, .int .i64 v1.1.Fee.Op, .int .i64 v1.1.Fee.N, vs v1.1.Fee.Name, .slice as1 ns1 cs1, .int .i64 v1.1.Cap]]) 10 rfl (by kernel_rfl) hx21 ?_
 intro wx22 hx22
 refine d_tk 0 rfl (by kernel_rfl) rfl rfl rfl rfl (hx22.sh (Frz.refl _) [0, 1, 2, 3, 4] (by decide) rfl) (fun _ _ _ _ hq => r_loadBW ag24 sz24 rfl rfl hq rfl (i := 1) rfl rfl (r_nil (qq rfl))) ?_
 refine d_tk 3 rfl (by kernel_rfl) rfl rfl rfl rfl (hx22.sh (Frz.refl _) [0, 1, 2, 3, 4] (by decide) rfl) (fun _ _ _ _ _ => r_move rfl rfl rfl (r_nil (qq rfl))) ?_
 refine d_step 1 rfl (by kernel_rfl) ?_
 obtain ⟨v11, hv11, hm⟩ := bind_some hm
 refine r_callG0 ent22 rfl rfl rfl rfl hx22 (law35_leaf_ok _ _ _ _ _ hv11 hx22.sat) ?_
 rintro _ Fx11 _ wx23 hF11 hx23 ⟨as10, ns10, cs10, rfl, rfl, hs10⟩
 refine d_next (hx23.sh hF11 [0, 1, 2, 3, 4] (by decide) rfl) ?_
 refine d_step 2 rfl (by kernel_rfl) ?_
 obtain ⟨v12, hv12, hm⟩ := bind_some hm
 refine r_callG0 ent21 rfl rfl rfl rfl hx23 (law35_two_ok _ _ _ _ _ hv12 hx23.sat ((hs8.mono hF10).mono hF11) hs10) ?_
 rintro _ Fx12 _ wx24 hF12 hx24 ⟨as11, ns11, cs11, rfl, rfl, hs11⟩
 refine d_next (hx24.sh (hF11.trans hF12) [0, 1, 2, 3, 4] (by decide) rfl) ?_
 refine d_step 4 rfl (by kernel_rfl) ?_
 obtain ⟨Fx13, hF13, hx25, hsx1⟩ := freezeRow hx24 (i := 5) rfl ((((((((show RowN Rp.str F 2 [vs [112, 97, 112, 101, 114], vs [103, 108, 97, 115, 115]] [[112, 97, 112, 101, 114], [103, 108, 97, 115, 115]] from ⟨rfl, ⟨_, _, rfl, rfl, ⟨_, _, rfl, rfl, (rfl : RowR Rp.str _ [] [])⟩⟩⟩).mono hG1).mono hF7).mono hF8).mono hF9).mono hF10).mono hF11).mono hF12)
 obtain ⟨v13, hv13, hm⟩ := bind_some hm
 refine r_callG0 ent13 rfl rfl rfl rfl hx25 (tariff_Type_ok _ _ _ _ hv13 hx25.sat (hs11.mono hF13) hsx1) ?_
 rintro _ Fx14 _ wx25 hF14 hx26 ⟨rfl, rfl⟩
 refine d_next (hx26.sh (((hF11.trans hF12).trans hF13).trans hF14) [0, 1, 2, 3, 4] (by decide) rfl) ?_
 refine d_tk 5 rfl (by kernel_rfl) rfl rfl rfl rfl (hx26.sh (((hF11.trans hF12).trans hF13).trans hF14) [0, 1, 2, 3, 4] (by decide) rfl) (fun _ _ _ _ _ => r_move rfl rfl rfl (r_nil (qq rfl))) ?_
 refine d_tk 6 rfl (by kernel_rfl) rfl rfl rfl rfl (hx26.sh (((hF11.trans hF12).trans hF13).trans hF14) [0, 1, 2, 3, 4] (by decide) rfl) (fun _ _ _ _ _ => r_extract rfl rfl rfl rfl (r_nil (qq rfl))) ?_
 refine d_tk 7 rfl (by kernel_rfl) rfl rfl rfl rfl (hx26.sh (((hF11.trans hF12).trans hF13).trans hF14) [0, 1, 2, 3, 4] (by decide) rfl) (fun _ _ _ _ _ => r_extract rfl rfl rfl rfl (r_nil (qq rfl))) ?_
 refine d_tk 8 rfl (by kernel_rfl) rfl rfl rfl rfl (hx26.sh (((hF11.trans hF12).trans hF13).trans hF14) [0, 1, 2, 3, 4] (by decide) rfl) (fun _ _ _ _ _ => r_assign rfl rfl rfl (r_nil (qq rfl))) ?_
 refine d_tk 9 rfl (by kernel_rfl) rfl rfl rfl rfl (hx26.sh (((hF11.trans hF12).trans hF13).trans hF14) [0, 1, 2, 3, 4] (by decide) rfl) (fun _ _ _ _ _ => r_assign rfl rfl rfl (r_nil (qq rfl))) ?_
 refine d_done (by kernel_rfl) ?_
 refine q_then (c_seq (c_region ?_))
 refine r_loadBW ag24 sz24 rfl rfl hx26 rfl (i := 1) rfl rfl ?_
 refine r_loadBW ag24 sz24 rfl rfl hx26 rfl (i := 0) rfl rfl ?_
 have hG2 := (((hF10.trans hF11).trans hF12).trans hF13).trans hF14
 have hG3 := ((hF11.trans hF12).trans hF13).trans hF14
 obtain ⟨v14, hv14, hm⟩ := bind_some hm
 refine r_callG0 ent21 rfl rfl rfl rfl hx26 (law35_two_ok _ _ _ _ _ hv14 hx26.sat (hs8.mono hG2) (hs9.mono hG3)) ?_
 rintro _ Fx15 _ wx26 hF15 hx27 ⟨as12, ns12, cs12, rfl, rfl, hs12⟩
 refine r_move rfl rfl rfl ?_
 obtain ⟨v15, hv15, hm⟩ := bind_some hm
 refine r_callG0 ent13 rfl rfl rfl rfl hx27 (tariff_Type_ok _ _ _ _ hv15 hx27.sat hs12 ((hsx1.mono hF14).mono hF15)) ?_
 rintro _ Fx16 _ wx27 hF16 hx28 ⟨rfl, rfl⟩
 refine r_move rfl rfl rfl (r_extract rfl rfl rfl rfl (r_extract rfl rfl rfl rfl (r_assign rfl rfl rfl (r_assign rfl rfl rfl (r_nil (q_then (c_seq ?_)))))))
 refine c_regionH (SH Fx16 [.box b6 24 [.int .i64 v10.Op, .int .i64 v10.N, vs v10.Name, .slice as9 ns9 cs9], .box b5 24 [.int .i64 v9.Op, .int .i64 v9.N, vs v9.Name, .slice as8 ns8 cs8], .box b4 26 [vs v8.1.Name, .int .i64 v8.1.Fee.Op, .int .i64 v8.1.Fee.N, vs v8.1.Fee.Name, .slice as7 ns7 cs7, .int .i64 v8.1.Cap], .box b3 26 [vs [116, 111, 119, 110], .int .i64 v6.Op, .int .i64 v6.N, vs v6.Name, .slice as6 ns6 cs6, .int .i64 9000], .box b2 26 [vs v1.1.Name, .int .i64 v1.1.Fee.Op, .int .i64 v1.1.Fee.N, vs v1.1.Fee.Name, .slice as1 ns1 cs1, .int .i64 v1.1.Cap]]) 10 rfl (by kernel_rfl) hx28 ?_
 intro wx28 hx29
 refine d_tk 0 rfl (by kernel_rfl) rfl rfl rfl rfl (hx29.sh (Frz.refl _) [0, 1, 2, 3, 4] (by decide) rfl) (fun _ _ _ _ hq => r_loadBW ag24 sz24 rfl rfl hq rfl (i := 1) rfl rfl (r_nil (qq rfl))) ?_
 refine d_tk 3 rfl (by kernel_rfl) rfl rfl rfl rfl (hx29.sh (Frz.refl _) [0, 1, 2, 3, 4] (by decide) rfl) (fun _ _ _ _ _ => r_move rfl rfl rfl (r_nil (qq rfl))) ?_
 refine d_step 1 rfl (by kernel_rfl) ?_
 obtain ⟨v16, hv16, hm⟩ := bind_some hm
 refine r_callG0 ent22 rfl rfl rfl rfl hx29 (law35_leaf_ok _ _ _ _ _ hv16 hx29.sat) ?_
 rintro _ Fx17 _ wx29 hF17 hx30 ⟨as13, ns13, cs13, rfl, rfl, hs13⟩
 refine d_next (hx30.sh hF17 [0, 1, 2, 3, 4] (by decide) rfl) ?_
 refine d_step 2 rfl (by kernel_rfl) ?_
 obtain ⟨v17, hv17, hm⟩ := bind_some hm
 refine r_callG0 ent21 rfl rfl rfl rfl hx30 (law35_two_ok _ _ _ _ _ hv17 hx30.sat ((((hs8.mono hG2).mono hF15).mono hF16).mono hF17) hs13) ?_
 rintro _ Fx18 _ wx30 hF18 hx31 ⟨as14, ns14, cs14, rfl, rfl, hs14⟩
 refine d_next (hx31.sh (hF17.trans hF18) [0, 1, 2, 3, 4] (by decide) rfl) ?_
 refine d_step 4 rfl (by kernel_rfl) ?_
 have hG4 := (((hF14.trans hF15).trans hF16).trans hF17).trans hF18
 obtain ⟨v18, hv18, hm⟩ := bind_some hm
 refine r_callG0 ent13 rfl rfl rfl rfl hx31 (tariff_Type_ok _ _ _ _ hv18 hx31.sat hs14 (hsx1.mono hG4)) ?_
 rintro _ Fx19 _ wx31 hF19 hx32 ⟨rfl, rfl⟩
 refine d_next (hx32.sh ((hF17.trans hF18).trans hF19) [0, 1, 2, 3, 4] (by decide) rfl) ?_
 refine d_tk 5 rfl (by kernel_rfl) rfl rfl rfl rfl (hx32.sh ((hF17.trans hF18).trans hF19) [0, 1, 2, 3, 4] (by decide) rfl) (fun _ _ _ _ _ => r_move rfl rfl rfl (r_nil (qq rfl))) ?_
 refine d_tk 6 rfl (by kernel_rfl) rfl rfl rfl rfl (hx32.sh ((hF17.trans hF18).trans hF19) [0, 1, 2, 3, 4] (by decide) rfl) (fun _ _ _ _ _ => r_extract rfl rfl rfl rfl (r_nil (qq rfl))) ?_
 refine d_tk 7 rfl (by kernel_rfl) rfl rfl rfl rfl (hx32.sh ((hF17.trans hF18).trans hF19) [0, 1, 2, 3, 4] (by decide) rfl) (fun _ _ _ _ _ => r_extract rfl rfl rfl rfl (r_nil (qq rfl))) ?_
 refine d_tk 8 rfl (by kernel_rfl) rfl rfl rfl rfl (hx32.sh ((hF17.trans hF18).trans hF19) [0, 1, 2, 3, 4] (by decide) rfl) (fun _ _ _ _ _ => r_assign rfl rfl rfl (r_nil (qq rfl))) ?_
 refine d_tk 9 rfl (by kernel_rfl) rfl rfl rfl rfl (hx32.sh ((hF17.trans hF18).trans hF19) [0, 1, 2, 3, 4] (by decide) rfl) (fun _ _ _ _ _ => r_assign rfl rfl rfl (r_nil (qq rfl))) ?_
 refine d_done (by kernel_rfl) ?_
 refine q_then (c_seq ?_)
 refine c_regionH (SH Fx19 [.box b6 24 [.int .i64 v10.Op, .int .i64 v10.N, vs v10.Name, .slice as9 ns9 cs9], .box b5 24 [.int .i64 v9.Op, .int .i64 v9.N, vs v9.Name, .slice as8 ns8 cs8], .box b4 26 [vs v8.1.Name, .int .i64 v8.1.Fee.Op, .int .i64 v8.1.Fee.N, vs v8.1.Fee.Name, .slice as7 ns7 cs7, .int .i64 v8.1.Cap], .box b3 26 [vs [116, 111, 119, 110], .int .i64 v6.Op, .int .i64 v6.N, vs v6.Name, .slice as6 ns6 cs6, .int .i64 9000], .box b2 26 [vs v1.1.Name, .int .i64 v1.1.Fee.Op, .int .i64 v1.1.Fee.N, vs v1.1.Fee.Name, .slice as1 ns1 cs1, .int .i64 v1.1.Cap]]) 10 rfl (by kernel_rfl) hx32 ?_
 intro wx32 hx33
 refine d_tk 1 rfl (by kernel_rfl) rfl rfl rfl rfl (hx33.sh (Frz.refl _) [0, 1, 2, 3, 4] (by decide) rfl) (fun _ _ _ _ hq => r_loadBW ag24 sz24 rfl rfl hq rfl (i := 0) rfl rfl (r_nil (qq rfl))) ?_
 refine d_tk 3 rfl (by kernel_rfl) rfl rfl rfl rfl (hx33.sh (Frz.refl _) [0, 1, 2, 3, 4] (by decide) rfl) (fun _ _ _ _ _ => r_move rfl rfl rfl (r_nil (qq rfl))) ?_
 refine d_step 0 rfl (by kernel_rfl) ?_
 obtain ⟨v19, hv19, hm⟩ := bind_some hm
 refine r_callG0 ent22 rfl rfl rfl rfl hx33 (law35_leaf_ok _ _ _ _ _ hv19 hx33.sat) ?_
 rintro _ Fx20 _ wx33 hF20 hx34 ⟨as15, ns15, cs15, rfl, rfl, hs15⟩
 refine d_next (hx34.sh hF20 [0, 1, 2, 3, 4] (by decide) rfl) ?_
 refine d_step 2 rfl (by kernel_rfl) ?_
 have hG5 := (((((hG3.trans hF15).trans hF16).trans hF17).trans hF18).trans hF19).trans hF20
 obtain ⟨v20, hv20, hm⟩ := bind_some hm
 refine r_callG0 ent21 rfl rfl rfl rfl hx34 (law35_two_ok _ _ _ _ _ hv20 hx34.sat hs15 (hs9.mono hG5)) ?_
 rintro _ Fx21 _ wx34 hF21 hx35 ⟨as16, ns16, cs16, rfl, rfl, hs16⟩
 refine d_next (hx35.sh (hF20.trans hF21) [0, 1, 2, 3, 4] (by decide) rfl) ?_
 refine d_step 4 rfl (by kernel_rfl) ?_
 obtain ⟨v21, hv21, hm⟩ := bind_some hm
 refine r_callG0 ent13 rfl rfl rfl rfl hx35 (tariff_Type_ok _ _ _ _ hv21 hx35.sat hs16 ((((hsx1.mono hG4).mono hF19).mono hF20).mono hF21)) ?_
 rintro _ Fx22 _ wx35 hF22 hx36 ⟨rfl, rfl⟩
 refine d_next (hx36.sh ((hF20.trans hF21).trans hF22) [0, 1, 2, 3, 4] (by decide) rfl) ?_
 refine d_tk 5 rfl (by kernel_rfl) rfl rfl rfl rfl (hx36.sh ((hF20.trans hF21).trans hF22) [0, 1, 2, 3, 4] (by decide) rfl) (fun _ _ _ _ _ => r_move rfl rfl rfl (r_nil (qq rfl))) ?_
 refine d_tk 6 rfl (by kernel_rfl) rfl rfl rfl rfl (hx36.sh ((hF20.trans hF21).trans hF22) [0, 1, 2, 3, 4] (by decide) rfl) (fun _ _ _ _ _ => r_extract rfl rfl rfl rfl (r_nil (qq rfl))) ?_
 refine d_tk 7 rfl (by kernel_rfl) rfl rfl rfl rfl (hx36.sh ((hF20.trans hF21).trans hF22) [0, 1, 2, 3, 4] (by decide) rfl) (fun _ _ _ _ _ => r_extract rfl rfl rfl rfl (r_nil (qq rfl))) ?_
 refine d_tk 8 rfl (by kernel_rfl) rfl rfl rfl rfl (hx36.sh ((hF20.trans hF21).trans hF22) [0, 1, 2, 3, 4] (by decide) rfl) (fun _ _ _ _ _ => r_assign rfl rfl rfl (r_nil (qq rfl))) ?_
 refine d_tk 9 rfl (by kernel_rfl) rfl rfl rfl rfl (hx36.sh ((hF20.trans hF21).trans hF22) [0, 1, 2, 3, 4] (by decide) rfl) (fun _ _ _ _ _ => r_assign rfl rfl rfl (r_nil (qq rfl))) ?_
 refine d_done (by kernel_rfl) ?_
 refine q_then (c_seq (c_region (r_move rfl rfl rfl ?_)))
 refine r_bin rfl rfl rfl rfl rfl ?_
 refine r_move rfl rfl rfl ?_
 obtain ⟨v22, hb1, hm⟩ := bind_some hm
 refine r_mid 3 (fun a w' => wx35 = w' ∧ Has 131 a [(1, .slice (some ⟨b1, 0, none⟩) 2 2), (2, .pointer (some ⟨b2, 0, none⟩)), (5, .pointer (some ⟨b3, 0, none⟩)), (6, vs v7.1), (7, .bool v7.2), (9, .int .i64 v8.2.1), (10, .int .i64 v8.2.2), (14, .int .i64 v13.2), (16, .int .i64 v15.2), (18, .int .i64 v18.2), (19, .int .i64 v21.1), (20, .int .i64 v21.2), (83, .bool v22)]) ?_ ?_
 ·rintro a wx36 ⟨rfl, hax1⟩
  refine rw_apply hax1 ?_
  refine r_move rfl rfl rfl ?_
  obtain ⟨v23, hb2, hm⟩ := bind_some hm
  refine r_mid 4 (fun a w' => ∃ (Fx23 : Frz), Frz.le Fx22 Fx23 ∧ HS F w [] Fx23 [.box b6 24 [.int .i64 v10.Op, .int .i64 v10.N, vs v10.Name, .slice as9 ns9 cs9], .box b5 24 [.int .i64 v9.Op, .int .i64 v9.N, vs v9.Name, .slice as8 ns8 cs8], .box b4 26 [vs v8.1.Name, .int .i64 v8.1.Fee.Op, .int .i64 v8.1.Fee.N, vs v8.1.Fee.Name, .slice as7 ns7 cs7, .int .i64 v8.1.Cap], .box b3 26 [vs [116, 111, 119, 110], .int .i64 v6.Op, .int .i64 v6.N, vs v6.Name, .slice as6 ns6 cs6, .int .i64 9000], .box b2 26 [vs v1.1.Name, .int .i64 v1.1.Fee.Op, .int .i64 v1.1.Fee.N, vs v1.1.Fee.Name, .slice as1 ns1 cs1, .int .i64 v1.1.Cap]] w' ∧ Has 131 a [(1, .slice (some ⟨b1, 0, none⟩) 2 2), (5, .pointer (some ⟨b3, 0, none⟩)), (6, vs v7.1), (7, .bool v7.2), (9, .int .i64 v8.2.1), (10, .int .i64 v8.2.2), (14, .int .i64 v13.2), (16, .int .i64 v15.2), (18, .int .i64 v18.2), (19, .int .i64 v21.1), (20, .int .i64 v21.2), (88, .bool v23)]) ?_ ?_
  ·rintro a wx37 ⟨Fx23, hF23, hx37, hax2⟩
   refine rw_apply hax2 ?_
   refine r_move rfl rfl rfl ?_
   obtain ⟨v24, hb3, hm⟩ := bind_some hm
   refine r_mid 2 (fun a w' => wx37 = w' ∧ Has 131 a [(1, .slice (some ⟨b1, 0, none⟩) 2 2), (5, .pointer (some ⟨b3, 0, none⟩)), (6, vs v7.1), (9, .int .i64 v8.2.1), (10, .int .i64 v8.2.2), (14, .int .i64 v13.2), (16, .int .i64 v15.2), (18, .int .i64 v18.2), (19, .int .i64 v21.1), (20, .int .i64 v21.2), (91, .bool v24)]) ?_ ?_
   ·rintro a wx38 ⟨rfl, hax3⟩
    refine rw_apply hax3 ?_
    refine r_move rfl rfl rfl ?_
    obtain ⟨v25, hb4, hm⟩ := bind_some hm
    refine r_mid 3 (fun a w' => wx37 = w' ∧ Has 131 a [(1, .slice (some ⟨b1, 0, none⟩) 2 2), (5, .pointer (some ⟨b3, 0, none⟩)), (9, .int .i64 v8.2.1), (10, .int .i64 v8.2.2), (14, .int .i64 v13.2), (16, .int .i64 v15.2), (18, .int .i64 v18.2), (19, .int .i64 v21.1), (20, .int .i64 v21.2), (95, .bool v25)]) ?_ ?_
    ·rintro a wx39 ⟨rfl, hax4⟩
     refine rw_apply hax4 ?_
     refine r_move rfl rfl rfl ?_
     obtain ⟨v26, hb5, hm⟩ := bind_some hm
     refine r_mid 3 (fun a w' => wx37 = w' ∧ Has 131 a [(1, .slice (some ⟨b1, 0, none⟩) 2 2), (5, .pointer (some ⟨b3, 0, none⟩)), (9, .int .i64 v8.2.1), (14, .int .i64 v13.2), (16, .int .i64 v15.2), (18, .int .i64 v18.2), (19, .int .i64 v21.1), (20, .int .i64 v21.2), (99, .bool v26)]) ?_ ?_
     ·rintro a wx40 ⟨rfl, hax5⟩
      refine rw_apply hax5 ?_
      refine r_move rfl rfl rfl ?_
      obtain ⟨v27, hb6, hm⟩ := bind_some hm
      refine r_mid 3 (fun a w' => wx37 = w' ∧ Has 131 a [(1, .slice (some ⟨b1, 0, none⟩) 2 2), (5, .pointer (some ⟨b3, 0, none⟩)), (14, .int .i64 v13.2), (16, .int .i64 v15.2), (18, .int .i64 v18.2), (19, .int .i64 v21.1), (20, .int .i64 v21.2), (103, .bool v27)]) ?_ ?_
      ·rintro a wx41 ⟨rfl, hax6⟩
       refine rw_apply hax6 ?_
       refine r_assign rfl rfl rfl (r_nil (q_then (c_seq (c_region (r_move rfl rfl rfl (r_move rfl rfl rfl ?_))))))
       obtain ⟨v28, hb7, hm⟩ := bind_some hm
       refine r_mid 3 (fun a w' => wx37 = w' ∧ Has 131 a [(1, .slice (some ⟨b1, 0, none⟩) 2 2), (5, .pointer (some ⟨b3, 0, none⟩)), (16, .int .i64 v15.2), (18, .int .i64 v18.2), (19, .int .i64 v21.1), (20, .int .i64 v21.2), (108, .bool v28)]) ?_ ?_
       ·rintro a wx42 ⟨rfl, hax7⟩
        refine rw_apply hax7 ?_
        refine r_move rfl rfl rfl ?_
        obtain ⟨v29, hb8, hm⟩ := bind_some hm
        refine r_mid 3 (fun a w' => wx37 = w' ∧ Has 131 a [(1, .slice (some ⟨b1, 0, none⟩) 2 2), (5, .pointer (some ⟨b3, 0, none⟩)), (18, .int .i64 v18.2), (19, .int .i64 v21.1), (20, .int .i64 v21.2), (112, .bool v29)]) ?_ ?_
        ·rintro a wx43 ⟨rfl, hax8⟩
         refine rw_apply hax8 ?_
         refine r_move rfl rfl rfl ?_
         obtain ⟨v30, hb9, hm⟩ := bind_some hm
         refine r_mid 3 (fun a w' => wx37 = w' ∧ Has 131 a [(1, .slice (some ⟨b1, 0, none⟩) 2 2), (5, .pointer (some ⟨b3, 0, none⟩)), (19, .int .i64 v21.1), (20, .int .i64 v21.2), (116, .bool v30)]) ?_ ?_
         ·rintro a wx44 ⟨rfl, hax9⟩
          refine rw_apply hax9 ?_
          refine r_move rfl rfl rfl ?_
          obtain ⟨v31, hb10, hm⟩ := bind_some hm
          refine r_mid 3 (fun a w' => wx37 = w' ∧ Has 131 a [(1, .slice (some ⟨b1, 0, none⟩) 2 2), (5, .pointer (some ⟨b3, 0, none⟩)), (19, .int .i64 v21.1), (120, .bool v31)]) ?_ ?_
          ·rintro a wx45 ⟨rfl, hax10⟩
           refine rw_apply hax10 ?_
           refine r_move rfl rfl rfl ?_
           obtain ⟨v32, hb11, hm⟩ := bind_some hm
           refine r_mid 3 (fun a w' => wx37 = w' ∧ Has 131 a [(1, .slice (some ⟨b1, 0, none⟩) 2 2), (5, .pointer (some ⟨b3, 0, none⟩)), (124, .bool v32)]) ?_ ?_
           ·rintro a wx46 ⟨rfl, hax11⟩
            refine rw_apply hax11 ?_
            refine r_move rfl rfl rfl ?_
            obtain ⟨v33, hb12, hm⟩ := bind_some hm
            refine r_mid 5 (fun a w' => ∃ (Fx24 : Frz), Frz.le Fx23 Fx24 ∧ HS F w [] Fx24 [.box b6 24 [.int .i64 v10.Op, .int .i64 v10.N, vs v10.Name, .slice as9 ns9 cs9], .box b5 24 [.int .i64 v9.Op, .int .i64 v9.N, vs v9.Name, .slice as8 ns8 cs8], .box b4 26 [vs v8.1.Name, .int .i64 v8.1.Fee.Op, .int .i64 v8.1.Fee.N, vs v8.1.Fee.Name, .slice as7 ns7 cs7, .int .i64 v8.1.Cap], .box b3 26 [vs [116, 111, 119, 110], .int .i64 v6.Op, .int .i64 v6.N, vs v6.Name, .slice as6 ns6 cs6, .int .i64 9000], .box b2 26 [vs v1.1.Name, .int .i64 v1.1.Fee.Op, .int .i64 v1.1.Fee.N, vs v1.1.Fee.Name, .slice as1 ns1 cs1, .int .i64 v1.1.Cap]] w' ∧ Has 131 a [(130, .bool v33)]) ?_ ?_
            ·rintro a wx47 ⟨Fx24, hF24, hx38, hax12⟩
             refine rw_apply hax12 ?_
             refine r_assign rfl rfl rfl (r_nil (q_then (c_ret ?_)))
             refine b_ret1 rfl rfl ?_
             obtain rfl := Option.some.inj hm
             exact ⟨_, _, _, rfl, hx38.pick [] (by decide) rfl, rfl, rfl⟩
            ·clear hm
             rcases cond_some hb12 with ⟨hb13, hb12⟩ | ⟨hb13, hb12⟩
             ·refine r_lit 125 rfl hb13 ?_
              refine r_loadBW ag26 sz26 rfl rfl hx37 rfl (i := 3) rfl rfl ?_
              refine r_move rfl rfl rfl ?_
              have hG6 := (((((((((((((((hF7.trans hF8).trans hF9).trans hF10).trans hF11).trans hF12).trans hF13).trans hF14).trans hF15).trans hF16).trans hF17).trans hF18).trans hF19).trans hF20).trans hF21).trans hF22).trans hF23
              have hG7 := ((((hG4.trans hF19).trans hF20).trans hF21).trans hF22).trans hF23
              obtain ⟨v34, hv22, hb12⟩ := bind_some hb12
              refine r_callG0 ent14 rfl rfl rfl rfl hx37 (tariff_Check_ok _ _ _ _ hv22 hx37.sat (hs6.mono hG6) (hsx1.mono hG7)) ?_
              rintro _ Fx25 _ wx48 hF25 hx39 ⟨rfl, rfl⟩
              refine r_bin rfl rfl rfl rfl rfl ?_
              refine r_pick_true rfl rfl rfl rfl (r_nil ?_)
              refine q_next (fun a ha => ?_)
              cases hb12
              exact ⟨_, hF25, hx39.pick [0, 1, 2, 3, 4] (by decide) rfl, ha.cut (l := [130]) rfl⟩
             ·refine r_lit 125 rfl hb13 ?_
              refine r_off rfl (by decide) rfl (r_off rfl (by decide) rfl (r_off rfl (by decide) rfl (r_off rfl (by decide) rfl (r_pick_false rfl rfl rfl rfl (r_nil ?_)))))
              refine q_next (fun a ha => ?_)
              cases hb12
              exact ⟨_, Frz.refl _, hx37.pick [0, 1, 2, 3, 4] (by decide) rfl, ha.cut (l := [130]) rfl⟩
           ·clear hm
            rcases cond_some hb11 with ⟨hb14, hb11⟩ | ⟨hb14, hb11⟩
            ·refine r_lit 121 rfl hb14 ?_
             refine r_move rfl rfl rfl ?_
             refine r_bin rfl rfl rfl rfl rfl ?_
             refine r_pick_true rfl rfl rfl rfl (r_nil ?_)
             refine q_next (fun a ha => ?_)
             cases hb11
             exact ⟨rfl, ha.cut (l := [1, 5, 124]) rfl⟩
            ·refine r_lit 121 rfl hb14 ?_
             refine r_off rfl (by decide) rfl (r_off rfl (by decide) rfl (r_pick_false rfl rfl rfl rfl (r_nil ?_)))
             refine q_next (fun a ha => ?_)
             cases hb11
             exact ⟨rfl, ha.cut (l := [1, 5, 124]) rfl⟩
          ·clear hm
           rcases cond_some hb10 with ⟨hb15, hb10⟩ | ⟨hb15, hb10⟩
           ·refine r_lit 117 rfl hb15 ?_
            refine r_move rfl rfl rfl ?_
            refine r_bin rfl rfl rfl rfl rfl ?_
            refine r_pick_true rfl rfl rfl rfl (r_nil ?_)
            refine q_next (fun a ha => ?_)
            cases hb10
            exact ⟨rfl, ha.cut (l := [1, 5, 19, 120]) rfl⟩
           ·refine r_lit 117 rfl hb15 ?_
            refine r_off rfl (by decide) rfl (r_off rfl (by decide) rfl (r_pick_false rfl rfl rfl rfl (r_nil ?_)))
            refine q_next (fun a ha => ?_)
            cases hb10
            exact ⟨rfl, ha.cut (l := [1, 5, 19, 120]) rfl⟩
         ·clear hm
          rcases cond_some hb9 with ⟨hb16, hb9⟩ | ⟨hb16, hb9⟩
          ·refine r_lit 113 rfl hb16 ?_
           refine r_move rfl rfl rfl ?_
           refine r_bin rfl rfl rfl rfl rfl ?_
           refine r_pick_true rfl rfl rfl rfl (r_nil ?_)
           refine q_next (fun a ha => ?_)
           cases hb9
           exact ⟨rfl, ha.cut (l := [1, 5, 19, 20, 116]) rfl⟩
          ·refine r_lit 113 rfl hb16 ?_
           refine r_off rfl (by decide) rfl (r_off rfl (by decide) rfl (r_pick_false rfl rfl rfl rfl (r_nil ?_)))
           refine q_next (fun a ha => ?_)
           cases hb9
           exact ⟨rfl, ha.cut (l := [1, 5, 19, 20, 116]) rfl⟩
        ·clear hm
         rcases cond_some hb8 with ⟨hb17, hb8⟩ | ⟨hb17, hb8⟩
         ·refine r_lit 109 rfl hb17 ?_
          refine r_move rfl rfl rfl ?_
          refine r_bin rfl rfl rfl rfl rfl ?_
          refine r_pick_true rfl rfl rfl rfl (r_nil ?_)
          refine q_next (fun a ha => ?_)
          cases hb8
          exact ⟨rfl, ha.cut (l := [1, 5, 18, 19, 20, 112]) rfl⟩
         ·refine r_lit 109 rfl hb17 ?_
          refine r_off rfl (by decide) rfl (r_off rfl (by decide) rfl (r_pick_false rfl rfl rfl rfl (r_nil ?_)))
          refine q_next (fun a ha => ?_)
          cases hb8
          exact ⟨rfl, ha.cut (l := [1, 5, 18, 19, 20, 112]) rfl⟩
       ·clear hm
        rcases cond_some hb7 with ⟨hb18, hb7⟩ | ⟨hb18, hb7⟩
        ·refine r_lit 105 rfl hb18 ?_
         refine r_move rfl rfl rfl ?_
         refine r_bin rfl rfl rfl rfl rfl ?_
         refine r_pick_true rfl rfl rfl rfl (r_nil ?_)
         refine q_next (fun a ha => ?_)
         cases hb7
         exact ⟨rfl, ha.cut (l := [1, 5, 16, 18, 19, 20, 108]) rfl⟩
        ·refine r_lit 105 rfl hb18 ?_
         refine r_off rfl (by decide) rfl (r_off rfl (by decide) rfl (r_pick_false rfl rfl rfl rfl (r_nil ?_)))
         refine q_next (fun a ha => ?_)
         cases hb7
         exact ⟨rfl, ha.cut (l := [1, 5, 16, 18, 19, 20, 108]) rfl⟩
      ·clear hm
       rcases cond_some hb6 with ⟨hb19, hb6⟩ | ⟨hb19, hb6⟩
       ·refine r_lit 100 rfl hb19 ?_
        refine r_move rfl rfl rfl ?_
        refine r_bin rfl rfl rfl rfl rfl ?_
        refine r_pick_true rfl rfl rfl rfl (r_nil ?_)
        refine q_next (fun a ha => ?_)
        cases hb6
        exact ⟨rfl, ha.cut (l := [1, 5, 14, 16, 18, 19, 20, 103]) rfl⟩
       ·refine r_lit 100 rfl hb19 ?_
        refine r_off rfl (by decide) rfl (r_off rfl (by decide) rfl (r_pick_false rfl rfl rfl rfl (r_nil ?_)))
        refine q_next (fun a ha => ?_)
        cases hb6
        exact ⟨rfl, ha.cut (l := [1, 5, 14, 16, 18, 19, 20, 103]) rfl⟩
     ·clear hm
      rcases cond_some hb5 with ⟨hb20, hb5⟩ | ⟨hb20, hb5⟩
      ·refine r_lit 96 rfl hb20 ?_
       refine r_move rfl rfl rfl ?_
       refine r_bin rfl rfl rfl rfl rfl ?_
       refine r_pick_true rfl rfl rfl rfl (r_nil ?_)
       refine q_next (fun a ha => ?_)
       cases hb5
       exact ⟨rfl, ha.cut (l := [1, 5, 9, 14, 16, 18, 19, 20, 99]) rfl⟩
      ·refine r_lit 96 rfl hb20 ?_
       refine r_off rfl (by decide) rfl (r_off rfl (by decide) rfl (r_pick_false rfl rfl rfl rfl (r_nil ?_)))
       refine q_next (fun a ha => ?_)
       cases hb5
       exact ⟨rfl, ha.cut (l := [1, 5, 9, 14, 16, 18, 19, 20, 99]) rfl⟩
    ·clear hm
     rcases cond_some hb4 with ⟨hb21, hb4⟩ | ⟨hb21, hb4⟩
     ·refine r_lit 92 rfl hb21 ?_
      refine r_move rfl rfl rfl ?_
      refine r_str rfl rfl rfl rfl rfl ?_
      refine r_pick_true rfl rfl rfl rfl (r_nil ?_)
      refine q_next (fun a ha => ?_)
      cases hb4
      exact ⟨rfl, ha.cut (l := [1, 5, 9, 10, 14, 16, 18, 19, 20, 95]) rfl⟩
     ·refine r_lit 92 rfl hb21 ?_
      refine r_off rfl (by decide) rfl (r_off rfl (by decide) rfl (r_pick_false rfl rfl rfl rfl (r_nil ?_)))
      refine q_next (fun a ha => ?_)
      cases hb4
      exact ⟨rfl, ha.cut (l := [1, 5, 9, 10, 14, 16, 18, 19, 20, 95]) rfl⟩
   ·clear hm
    rcases cond_some hb3 with ⟨hb22, hb3⟩ | ⟨hb22, hb3⟩
    ·refine r_lit 89 rfl hb22 ?_
     refine r_move rfl rfl rfl (r_pick_true rfl rfl rfl rfl (r_nil ?_))
     refine q_next (fun a ha => ?_)
     cases hb3
     exact ⟨rfl, ha.cut (l := [1, 5, 6, 9, 10, 14, 16, 18, 19, 20, 91]) rfl⟩
    ·refine r_lit 89 rfl hb22 ?_
     refine r_off rfl (by decide) rfl (r_pick_false rfl rfl rfl rfl (r_nil ?_))
     refine q_next (fun a ha => ?_)
     cases hb3
     exact ⟨rfl, ha.cut (l := [1, 5, 6, 9, 10, 14, 16, 18, 19, 20, 91]) rfl⟩
  ·clear hm
   rcases cond_some hb2 with ⟨hb23, hb2⟩ | ⟨hb23, hb2⟩
   ·refine r_lit 84 rfl hb23 ?_
    refine r_loadBW ag26 sz26 rfl rfl hx36 rfl (i := 4) rfl rfl ?_
    refine r_loadBW ag26 sz26 rfl rfl hx36 rfl (i := 3) rfl rfl ?_
    have hG8 := (((((((((((((((((((hF2.trans hF3).trans hF4).trans hF5).trans hF6).trans hF7).trans hF8).trans hF9).trans hF10).trans hF11).trans hF12).trans hF13).trans hF14).trans hF15).trans hF16).trans hF17).trans hF18).trans hF19).trans hF20).trans hF21).trans hF22
    have hG9 := ((((((((((((((hF7.trans hF8).trans hF9).trans hF10).trans hF11).trans hF12).trans hF13).trans hF14).trans hF15).trans hF16).trans hF17).trans hF18).trans hF19).trans hF20).trans hF21).trans hF22
    obtain ⟨v35, hv23, hb2⟩ := bind_some hb2
    refine r_callG0 ent11 rfl rfl rfl rfl hx36 (ref35_SameTariff_ok _ _ _ _ hv23 hx36.sat (hs1.mono hG8) (hs6.mono hG9)) ?_
    rintro _ Fx26 _ wx49 hF26 hx40 ⟨rfl, rfl⟩
    refine r_pick_true rfl rfl rfl rfl (r_nil ?_)
    refine q_next (fun a ha => ?_)
    cases hb2
    exact ⟨_, hF26, hx40.pick [0, 1, 2, 3, 4] (by decide) rfl, ha.cut (l := [1, 5, 6, 7, 9, 10, 14, 16, 18, 19, 20, 88]) rfl⟩
   ·refine r_lit 84 rfl hb23 ?_
    refine r_off rfl (by decide) rfl (r_off rfl (by decide) rfl (r_off rfl (by decide) rfl (r_pick_false rfl rfl rfl rfl (r_nil ?_))))
    refine q_next (fun a ha => ?_)
    cases hb2
    exact ⟨_, Frz.refl _, hx36.pick [0, 1, 2, 3, 4] (by decide) rfl, ha.cut (l := [1, 5, 6, 7, 9, 10, 14, 16, 18, 19, 20, 88]) rfl⟩
 ·clear hm
  rcases cond_some hb1 with ⟨hb24, hb1⟩ | ⟨hb24, hb1⟩
  ·refine r_lit 80 rfl hb24 ?_
   refine r_move rfl rfl rfl ?_
   refine r_bin rfl rfl rfl rfl rfl ?_
   refine r_pick_true rfl rfl rfl rfl (r_nil ?_)
   refine q_next (fun a ha => ?_)
   cases hb1
   exact ⟨rfl, ha.cut (l := [1, 2, 5, 6, 7, 9, 10, 14, 16, 18, 19, 20, 83]) rfl⟩
  ·refine r_lit 80 rfl hb24 ?_
   refine r_off rfl (by decide) rfl (r_off rfl (by decide) rfl (r_pick_false rfl rfl rfl rfl (r_nil ?_)))
   refine q_next (fun a ha => ?_)
   cases hb1
   exact ⟨rfl, ha.cut (l := [1, 2, 5, 6, 7, 9, 10, 14, 16, 18, 19, 20, 83]) rfl⟩


end Go.Proofs.YtpihabofmnnbbaaDoor.M
