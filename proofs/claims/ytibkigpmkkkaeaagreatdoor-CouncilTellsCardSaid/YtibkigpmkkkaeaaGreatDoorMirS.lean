/-
  THE MIRRORS of the council's functions, of the tariff's and the lexer's, of the references and the laws, and that each call returns what its mirror says. Printed by gen.py.
-/
import Derived.Test.YtibkigpmkkkaeaaGreatDoorRows
import Derived.Test.YtibkigpmkkkaeaaGreatDoorRtH
import Derived.Test.YtibkigpmkkkaeaaGreatDoorExpr
import Derived.Test.YtibkigpmkkkaeaaGreatDoorMirG
namespace Go.Proofs.YtibkigpmkkkaeaaGreatDoor.M
open Go Go.RowKit Rt
theorem ap23 : AppIs Tryz.prog 23 52 3 24 := AppIs.of (z := .agg #[.int .i64 0, .int .i64 0, .bool false]) (by kernel_rfl) (by kernel_rfl) rfl (by decide) (by decide)
theorem ent20 : Ent Tryz.prog 20 := fun _ _ => by kernel_rfl
theorem ent16 : Ent Tryz.prog 16 := fun _ _ => by kernel_rfl
theorem ent7 : Ent Tryz.prog 7 := fun _ _ => by kernel_rfl
theorem ent11 : Ent Tryz.prog 11 := fun _ _ => by kernel_rfl
theorem ent14 : Ent Tryz.prog 14 := fun _ _ => by kernel_rfl
def law40_sane (n : Nat)  : Option Bool :=
 (lsl [(⟨0, 0, true⟩ : Vote), (⟨0, 2, true⟩ : Vote), (⟨0, 1, false⟩ : Vote)] 0 1).bind fun l1 =>
 (council_Count n [5, 3, 2] l1 0).bind fun v1 =>
 (council_Count n [5, 3, 2] [(⟨0, 0, true⟩ : Vote), (⟨0, 2, true⟩ : Vote), (⟨0, 1, false⟩ : Vote)] 0).bind fun v2 =>
 (app 24 [] [(⟨0, 0, true⟩ : Vote), (⟨0, 2, true⟩ : Vote), (⟨0, 1, false⟩ : Vote)]).bind fun l2 =>
 (app 24 l2 [(⟨0, 2, false⟩ : Vote)]).bind fun l3 =>
 (council_Count n [5, 3, 2] l3 0).bind fun v3 =>
 (bif v1.1 != 5 then
  some true
 else
  some (v1.2 != 0)).bind fun v4 =>
 (bif v4 then
  some true
 else
  some (v2.1 != 7)).bind fun v5 =>
 (bif v5 then
  some true
 else
  some (v2.2 != 3)).bind fun v6 =>
 (bif v6 then
  some true
 else
  some (v3.1 != 5)).bind fun v7 =>
 (bif v7 then
  some true
 else
  some (v3.2 != 5)).bind fun v8 =>
 (bif v8 then
  some true
 else
  (lsl [(⟨0, 0, true⟩ : Vote), (⟨0, 2, true⟩ : Vote), (⟨0, 1, false⟩ : Vote)] 0 1).bind fun l4 =>
  (council_Passes n [5, 3, 2] l4 0).bind fun v32 =>
  some v32).bind fun v9 =>
 (bif v9 then
  some true
 else
  (council_Passes n [5, 3, 2] [(⟨0, 0, true⟩ : Vote), (⟨0, 2, true⟩ : Vote), (⟨0, 1, false⟩ : Vote)] 0).bind fun v31 =>
  some (!v31)).bind fun v10 =>
 bif v10 then
  some false
 else
  (law40_motion n 40 [112, 97, 112, 101, 114]).bind fun v11 =>
  (council_Check n v11 [[112, 97, 112, 101, 114]] 30).bind fun v12 =>
  (bif v12 == 0 then
   (law40_motion n 39 [112, 97, 112, 101, 114]).bind fun v29 =>
   (council_Check n v29 [[112, 97, 112, 101, 114]] 30).bind fun v30 =>
   some (v30 == 18)
  else
   some false).bind fun v13 =>
  (bif v13 then
   (law40_motion n 40 [116, 105, 110]).bind fun v27 =>
   (council_Check n v27 [[112, 97, 112, 101, 114]] 30).bind fun v28 =>
   some (v28 == 11)
  else
   some false).bind fun v14 =>
  (law40_motion n 40 [112, 97, 112, 101, 114]).bind fun v15 =>
  (law40_motion n 50 [112, 97, 112, 101, 114]).bind fun v16 =>
  (council_Adopt n [v15, v16] [(⟨0, 0, true⟩ : Vote), (⟨0, 2, true⟩ : Vote), (⟨0, 1, false⟩ : Vote)] [5, 3, 2] [[112, 97, 112, 101, 114]] 30).bind fun v17 =>
  (council_InForce n v17.1 39).bind fun v18 =>
  (council_InForce n v17.1 40).bind fun v19 =>
  (bif v14 then
   some (v17.2.2 == 0)
  else
   some false).bind fun v20 =>
  (bif v20 then
   (ref40_SameErrors n v17.2.1 [0, 7]).bind fun v26 =>
   some v26
  else
   some false).bind fun v21 =>
  (bif v21 then
   some ((v17.1.length : Int) == 1)
  else
   some false).bind fun v22 =>
  (bif v22 then
   some (!v18.2)
  else
   some false).bind fun v23 =>
  (bif v23 then
   some v19.2
  else
   some false).bind fun v24 =>
  (bif v24 then
   some (v19.1.Name == [97])
  else
   some false).bind fun v25 =>
  some v25
set_option maxHeartbeats 1000000 in
set_option maxRecDepth 1000000 in
theorem law40_sane_ok (n : Nat)  (r : Bool) (hm : law40_sane n  = some r) {w : World} {F : Frz} (hs : Sat F w) (hg0 : FX F 0 [.int .u8 40, .int .u8 41, .int .u8 44, .int .u8 59, .int .u8 58, .int .u8 61, .int .u8 60, .int .u8 43, .int .u8 45, .int .u8 42, .int .u8 47, .int .u8 123, .int .u8 125]) :
  Calls Tryz.prog 4 #[] w fun e w' => ∃ v F' O', e = .returned v ∧ HS F w [] F' O' w' ∧ (v = .bool r ∧ O' = []) := by
 unfold law40_sane at hm
 have h := HS.init hs
 refine calls_of 146 Tryz.func4 rfl rfl rfl ?_
 refine c_seq (c_region (r_assign rfl rfl rfl (r_nil (q_then (c_seq (c_region ?_))))))
 refine r_buildSlice (e := 3) (cs := [.int .i64 5, .int .i64 3, .int .i64 2]) (q := 1) rfl rfl h rfl (fun _ => by kernel_rfl) rfl rfl ?_
 intro b1 wx1 hx1
 refine r_assign rfl rfl rfl (r_nil (q_then (c_seq (c_region ?_))))
 refine r_build (v := .agg #[.int .i64 0, .int .i64 0, .bool true]) rfl rfl rfl (fun _ => by kernel_rfl) ?_
 refine r_build (v := .agg #[.int .i64 0, .int .i64 2, .bool true]) rfl rfl rfl (fun _ => by kernel_rfl) ?_
 refine r_build (v := .agg #[.int .i64 0, .int .i64 1, .bool false]) rfl rfl rfl (fun _ => by kernel_rfl) ?_
 refine r_buildSlice (e := 52) (cs := [.int .i64 0, .int .i64 0, .bool true, .int .i64 0, .int .i64 2, .bool true, .int .i64 0, .int .i64 1, .bool false]) (q := 3) rfl rfl hx1 rfl (fun _ => by kernel_rfl) rfl rfl ?_
 intro b2 wx2 hx2
 refine r_assign rfl rfl rfl (r_nil (q_then (c_seq (c_region (r_move rfl rfl rfl (r_move rfl rfl rfl ?_))))))
 obtain ⟨l1, hc1, hm⟩ := bind_some hm
 refine r_rsl_h u23 (r := rp_Vote) sz52 rfl rfl hx2 rfl rfl (p := 0) rfl rfl ((show RowN rp_Vote F 3 [.int .i64 0, .int .i64 0, .bool true, .int .i64 0, .int .i64 2, .bool true, .int .i64 0, .int .i64 1, .bool false] [(⟨0, 0, true⟩ : Vote), (⟨0, 2, true⟩ : Vote), (⟨0, 1, false⟩ : Vote)] from ⟨rfl, ⟨_, _, rfl, rfl, ⟨_, _, rfl, rfl, ⟨_, _, rfl, rfl, (rfl : RowR rp_Vote _ [] [])⟩⟩⟩⟩)) hc1 ?_
 intro as1 ns1 cs1 hs1
 obtain ⟨Fx1, hF1, hx3, hsx1⟩ := freezeRow hx2 (i := 1) rfl ((show RowN (Rp.int .i64) F 3 [.int .i64 5, .int .i64 3, .int .i64 2] [5, 3, 2] from ⟨rfl, ⟨_, _, rfl, rfl, ⟨_, _, rfl, rfl, ⟨_, _, rfl, rfl, (rfl : RowR (Rp.int .i64) _ [] [])⟩⟩⟩⟩))
 obtain ⟨Fx2, hF2, hx4, hsx2⟩ := freezeRow hx3 (i := 0) rfl ((show RowN rp_Vote F 3 [.int .i64 0, .int .i64 0, .bool true, .int .i64 0, .int .i64 2, .bool true, .int .i64 0, .int .i64 1, .bool false] [(⟨0, 0, true⟩ : Vote), (⟨0, 2, true⟩ : Vote), (⟨0, 1, false⟩ : Vote)] from ⟨rfl, ⟨_, _, rfl, rfl, ⟨_, _, rfl, rfl, ⟨_, _, rfl, rfl, (rfl : RowR rp_Vote _ [] [])⟩⟩⟩⟩).mono hF1)
 obtain ⟨v1, hv1, hm⟩ := bind_some hm
 refine r_callG0 ent9 rfl rfl rfl rfl hx4 (council_Count_ok _ _ _ _ _ hv1 hx4.sat (hsx1.mono hF2) ((hs1.frozen hsx2 hc1))) ?_
 rintro _ Fx3 _ wx3 hF3 hx5 ⟨rfl, rfl⟩
 refine r_move rfl rfl rfl (r_extract rfl rfl rfl rfl (r_extract rfl rfl rfl rfl (r_assign rfl rfl rfl (r_assign rfl rfl rfl (r_nil (q_then (c_seq (c_region (r_move rfl rfl rfl (r_move rfl rfl rfl ?_))))))))))
 obtain ⟨v2, hv2, hm⟩ := bind_some hm
 refine r_callG0 ent9 rfl rfl rfl rfl hx5 (council_Count_ok _ _ _ _ _ hv2 hx5.sat ((hsx1.mono hF2).mono hF3) (hsx2.mono hF3)) ?_
 rintro _ Fx4 _ wx4 hF4 hx6 ⟨rfl, rfl⟩
 refine r_move rfl rfl rfl (r_extract rfl rfl rfl rfl (r_extract rfl rfl rfl rfl (r_assign rfl rfl rfl (r_assign rfl rfl rfl (r_nil (q_then (c_seq (c_region (r_move rfl rfl rfl ?_)))))))))
 refine r_buildSlice (e := 52) (cs := []) (q := 3) rfl rfl hx6 rfl (fun _ => by kernel_rfl) rfl rfl ?_
 intro b3 wx5 hx7
 refine r_move rfl rfl rfl ?_
 obtain ⟨l2, hr1, hm⟩ := bind_some hm
 refine r_appendF (r := rp_Vote) ap23 rfl rfl rfl hx7 rfl rfl (i := 0) rfl ((show RowN rp_Vote Fx4 0 [] [] from ⟨rfl, (rfl : RowR rp_Vote _ [] [])⟩)) ((hsx2.mono hF3).mono hF4) hr1 ?_
 intro as2 cs2 wx6 xss2 hx8 hs2
 refine r_build (v := .agg #[.int .i64 0, .int .i64 2, .bool false]) rfl rfl rfl (fun _ => by kernel_rfl) ?_
 refine r_buildSlice (e := 52) (cs := [.int .i64 0, .int .i64 2, .bool false]) (q := 3) rfl rfl hx8 rfl (fun _ => by kernel_rfl) rfl rfl ?_
 intro b4 wx7 hx9
 obtain ⟨l3, hr2, hm⟩ := bind_some hm
 refine r_appendN (r := rp_Vote) ap23 rfl rfl hx9 rfl rfl (i := 1) (j := 0) rfl rfl hs2 ((show RowN rp_Vote Fx4 1 [.int .i64 0, .int .i64 2, .bool false] [(⟨0, 2, false⟩ : Vote)] from ⟨rfl, ⟨_, _, rfl, rfl, (rfl : RowR rp_Vote _ [] [])⟩⟩)) hr2 ?_
 intro as3 cs3 wx8 hx10 hs3
 obtain ⟨Fx5, hF5, hx11, hsx3⟩ := freezeRow hx10 (i := 1) rfl hs3
 have hG1 := ((hF2.trans hF3).trans hF4).trans hF5
 obtain ⟨v3, hv3, hm⟩ := bind_some hm
 refine r_callG0 ent9 rfl rfl rfl rfl hx11 (council_Count_ok _ _ _ _ _ hv3 hx11.sat (hsx1.mono hG1) hsx3) ?_
 rintro _ Fx6 _ wx9 hF6 hx12 ⟨rfl, rfl⟩
 refine r_move rfl rfl rfl (r_extract rfl rfl rfl rfl (r_extract rfl rfl rfl rfl (r_assign rfl rfl rfl (r_assign rfl rfl rfl (r_nil (q_then (c_seq (c_seq (c_region (r_move rfl rfl rfl ?_))))))))))
 refine r_bin rfl rfl rfl rfl rfl ?_
 refine r_move rfl rfl rfl ?_
 obtain ⟨v4, hb1, hm⟩ := bind_some hm
 refine r_mid 3 (fun a w' => wx9 = w' ∧ Has 146 a [(1, .slice (some ⟨b1, 0, none⟩) 3 3), (2, .slice (some ⟨b2, 0, none⟩) 3 3), (5, .int .i64 v2.1), (6, .int .i64 v2.2), (7, .int .i64 v3.1), (8, .int .i64 v3.2), (52, .bool v4)]) ?_ ?_
 ·rintro a wx10 ⟨rfl, hax1⟩
  refine rw_apply hax1 ?_
  refine r_move rfl rfl rfl ?_
  obtain ⟨v5, hb2, hm⟩ := bind_some hm
  refine r_mid 3 (fun a w' => wx9 = w' ∧ Has 146 a [(1, .slice (some ⟨b1, 0, none⟩) 3 3), (2, .slice (some ⟨b2, 0, none⟩) 3 3), (6, .int .i64 v2.2), (7, .int .i64 v3.1), (8, .int .i64 v3.2), (56, .bool v5)]) ?_ ?_
  ·rintro a wx11 ⟨rfl, hax2⟩
   refine rw_apply hax2 ?_
   refine r_move rfl rfl rfl ?_
   obtain ⟨v6, hb3, hm⟩ := bind_some hm
   refine r_mid 3 (fun a w' => wx9 = w' ∧ Has 146 a [(1, .slice (some ⟨b1, 0, none⟩) 3 3), (2, .slice (some ⟨b2, 0, none⟩) 3 3), (7, .int .i64 v3.1), (8, .int .i64 v3.2), (60, .bool v6)]) ?_ ?_
   ·rintro a wx12 ⟨rfl, hax3⟩
    refine rw_apply hax3 ?_
    refine r_move rfl rfl rfl ?_
    obtain ⟨v7, hb4, hm⟩ := bind_some hm
    refine r_mid 3 (fun a w' => wx9 = w' ∧ Has 146 a [(1, .slice (some ⟨b1, 0, none⟩) 3 3), (2, .slice (some ⟨b2, 0, none⟩) 3 3), (8, .int .i64 v3.2), (64, .bool v7)]) ?_ ?_
    ·rintro a wx13 ⟨rfl, hax4⟩
     refine rw_apply hax4 ?_
     refine r_move rfl rfl rfl ?_
     obtain ⟨v8, hb5, hm⟩ := bind_some hm
     refine r_mid 3 (fun a w' => wx9 = w' ∧ Has 146 a [(1, .slice (some ⟨b1, 0, none⟩) 3 3), (2, .slice (some ⟨b2, 0, none⟩) 3 3), (68, .bool v8)]) ?_ ?_
     ·rintro a wx14 ⟨rfl, hax5⟩
      refine rw_apply hax5 ?_
      refine r_move rfl rfl rfl ?_
      obtain ⟨v9, hb6, hm⟩ := bind_some hm
      refine r_mid 5 (fun a w' => ∃ (Fx7 : Frz), Frz.le Fx6 Fx7 ∧ HS F w [] Fx7 [.row 52 3 (some ⟨b4, 0, none⟩) 1 1 [.int .i64 0, .int .i64 2, .bool false]] w' ∧ Has 146 a [(1, .slice (some ⟨b1, 0, none⟩) 3 3), (2, .slice (some ⟨b2, 0, none⟩) 3 3), (74, .bool v9)]) ?_ ?_
      ·rintro a wx15 ⟨Fx7, hF7, hx13, hax6⟩
       refine rw_apply hax6 ?_
       refine r_move rfl rfl rfl ?_
       obtain ⟨v10, hb7, hm⟩ := bind_some hm
       refine r_mid 5 (fun a w' => ∃ (Fx8 : Frz), Frz.le Fx7 Fx8 ∧ HS F w [] Fx8 [.row 52 3 (some ⟨b4, 0, none⟩) 1 1 [.int .i64 0, .int .i64 2, .bool false]] w' ∧ Has 146 a [(1, .slice (some ⟨b1, 0, none⟩) 3 3), (2, .slice (some ⟨b2, 0, none⟩) 3 3), (80, .bool v10)]) ?_ ?_
       ·rintro a wx16 ⟨Fx8, hF8, hx14, hax7⟩
        refine rw_apply hax7 ?_
        refine r_nil (q_then ?_)
        rcases cond_some hm with ⟨hb8, hm⟩ | ⟨hb8, hm⟩
        ·refine c_lit 80 rfl hb8 ?_
         refine c_true rfl (c_seq (c_region (r_assign rfl rfl rfl (r_nil (q_then (c_ret (q_then_ret ?_)))))))
         refine b_ret1 rfl rfl ?_
         obtain rfl := Option.some.inj hm
         exact ⟨_, _, _, rfl, hx14.pick [] (by decide) rfl, rfl, rfl⟩
        ·refine c_lit 80 rfl hb8 ?_
         refine c_false rfl (c_skip (q_then (c_seq (c_region ?_))))
         refine r_buildSlice (e := 9) (cs := [vs [112, 97, 112, 101, 114]]) (q := 1) rfl rfl hx14 rfl (fun _ => by kernel_rfl) rfl rfl ?_
         intro b5 wx17 hx15
         refine r_assign rfl rfl rfl (r_nil (q_then (c_seq (c_region ?_))))
         obtain ⟨v11, hv4, hm⟩ := bind_some hm
         refine r_callG0 ent20 rfl rfl rfl rfl hx15 (law40_motion_ok _ _ _ _ hv4 hx15.sat) ?_
         rintro _ Fx9 _ wx18 hF9 hx16 ⟨rfl, rfl⟩
         refine r_move rfl rfl rfl ?_
         obtain ⟨Fx10, hF10, hx17, hsx4⟩ := freezeRow hx16 (i := 0) rfl ((show RowN Rp.str Fx8 1 [vs [112, 97, 112, 101, 114]] [[112, 97, 112, 101, 114]] from ⟨rfl, ⟨_, _, rfl, rfl, (rfl : RowR Rp.str _ [] [])⟩⟩).mono hF9)
         have hG2 := ((((((((hF1.trans hF2).trans hF3).trans hF4).trans hF5).trans hF6).trans hF7).trans hF8).trans hF9).trans hF10
         obtain ⟨v12, hv5, hm⟩ := bind_some hm
         refine r_callG0 ent16 rfl rfl rfl rfl hx17 (council_Check_ok _ _ _ _ _ hv5 hx17.sat hsx4 (hg0.mono hG2)) ?_
         rintro _ Fx11 _ wx19 hF11 hx18 ⟨rfl, rfl⟩
         refine r_bin rfl rfl rfl rfl rfl ?_
         refine r_move rfl rfl rfl ?_
         obtain ⟨v13, hb9, hm⟩ := bind_some hm
         refine r_mid 5 (fun a w' => ∃ (Fx12 : Frz), Frz.le Fx11 Fx12 ∧ HS F w [] Fx12 [.row 52 3 (some ⟨b4, 0, none⟩) 1 1 [.int .i64 0, .int .i64 2, .bool false]] w' ∧ Has 146 a [(1, .slice (some ⟨b1, 0, none⟩) 3 3), (2, .slice (some ⟨b2, 0, none⟩) 3 3), (9, .slice (some ⟨b5, 0, none⟩) 1 1), (91, .bool v13)]) ?_ ?_
         ·rintro a wx20 ⟨Fx12, hF12, hx19, hax8⟩
          refine rw_apply hax8 ?_
          refine r_move rfl rfl rfl ?_
          obtain ⟨v14, hb10, hm⟩ := bind_some hm
          refine r_mid 5 (fun a w' => ∃ (Fx13 : Frz), Frz.le Fx12 Fx13 ∧ HS F w [] Fx13 [.row 52 3 (some ⟨b4, 0, none⟩) 1 1 [.int .i64 0, .int .i64 2, .bool false]] w' ∧ Has 146 a [(1, .slice (some ⟨b1, 0, none⟩) 3 3), (2, .slice (some ⟨b2, 0, none⟩) 3 3), (9, .slice (some ⟨b5, 0, none⟩) 1 1), (97, .bool v14)]) ?_ ?_
          ·rintro a wx21 ⟨Fx13, hF13, hx20, hax9⟩
           refine rw_apply hax9 ?_
           refine r_assign rfl rfl rfl (r_nil (q_then (c_seq (c_region ?_))))
           obtain ⟨v15, hv6, hm⟩ := bind_some hm
           refine r_callG0 ent20 rfl rfl rfl rfl hx20 (law40_motion_ok _ _ _ _ hv6 hx20.sat) ?_
           rintro _ Fx14 _ wx22 hF14 hx21 ⟨rfl, rfl⟩
           obtain ⟨v16, hv7, hm⟩ := bind_some hm
           refine r_callG0 ent20 rfl rfl rfl rfl hx21 (law40_motion_ok _ _ _ _ hv7 hx21.sat) ?_
           rintro _ Fx15 _ wx23 hF15 hx22 ⟨rfl, rfl⟩
           refine r_buildSlice (e := 48) (cs := [vs v15.Text, .int .i64 v15.Day, .int .i64 v15.From, vs v16.Text, .int .i64 v16.Day, .int .i64 v16.From]) (q := 3) rfl rfl hx22 rfl (fun _ => by kernel_rfl) rfl rfl ?_
           intro b6 wx24 hx23
           refine r_move rfl rfl rfl (r_move rfl rfl rfl (r_move rfl rfl rfl ?_))
           obtain ⟨Fx16, hF16, hx24, hsx5⟩ := freezeRow hx23 (i := 0) rfl ((show RowN rp_Motion Fx15 2 [vs v15.Text, .int .i64 v15.Day, .int .i64 v15.From, vs v16.Text, .int .i64 v16.Day, .int .i64 v16.From] [v15, v16] from ⟨rfl, ⟨_, _, rfl, rfl, ⟨_, _, rfl, rfl, (rfl : RowR rp_Motion _ [] [])⟩⟩⟩))
           have hG3 := ((((((((((((hF3.trans hF4).trans hF5).trans hF6).trans hF7).trans hF8).trans hF9).trans hF10).trans hF11).trans hF12).trans hF13).trans hF14).trans hF15).trans hF16
           have hG4 := ((((((((((hG1.trans hF6).trans hF7).trans hF8).trans hF9).trans hF10).trans hF11).trans hF12).trans hF13).trans hF14).trans hF15).trans hF16
           have hG5 := ((((hF11.trans hF12).trans hF13).trans hF14).trans hF15).trans hF16
           have hG6 := (((((hG2.trans hF11).trans hF12).trans hF13).trans hF14).trans hF15).trans hF16
           obtain ⟨v17, hv8, hm⟩ := bind_some hm
           refine r_callG0 ent7 rfl rfl rfl rfl hx24 (council_Adopt_ok _ _ _ _ _ _ _ hv8 hx24.sat hsx5 (hsx2.mono hG3) (hsx1.mono hG4) (hsx4.mono hG5) (hg0.mono hG6)) ?_
           rintro _ Fx17 _ wx25 hF17 hx25 ⟨as4, ns4, cs4, as5, ns5, cs5, rfl, rfl, hs4, hs5⟩
           refine r_move rfl rfl rfl (r_extract rfl rfl rfl rfl (r_extract rfl rfl rfl rfl (r_extract rfl rfl rfl rfl (r_assign rfl rfl rfl (r_assign rfl rfl rfl (r_assign rfl rfl rfl (r_nil (q_then (c_seq (c_region (r_move rfl rfl rfl ?_)))))))))))
           obtain ⟨v18, hv9, hm⟩ := bind_some hm
           refine r_callG0 ent11 rfl rfl rfl rfl hx25 (council_InForce_ok _ _ _ _ hv9 hx25.sat hs4) ?_
           rintro _ Fx18 _ wx26 hF18 hx26 ⟨as6, ns6, cs6, rfl, rfl, hs6⟩
           refine r_move rfl rfl rfl (r_extract rfl rfl rfl rfl (r_extract rfl rfl rfl rfl ?_))
           refine r_alloc ze40 rfl rfl rfl hx26 ?_
           intro b7 wx27 hx27
           refine r_store sz40 rfl hx27 rfl rfl rfl rfl (i := 0) rfl rfl rfl rfl ?_
           intro wx28 hx28
           refine r_assign rfl rfl rfl (r_nil (q_then (c_seq (c_region (r_move rfl rfl rfl ?_)))))
           obtain ⟨v19, hv10, hm⟩ := bind_some hm
           refine r_callG0 ent11 rfl rfl rfl rfl hx28 (council_InForce_ok _ _ _ _ hv10 hx28.sat (hs4.mono hF18)) ?_
           rintro _ Fx19 _ wx29 hF19 hx29 ⟨as7, ns7, cs7, rfl, rfl, hs7⟩
           refine r_move rfl rfl rfl (r_extract rfl rfl rfl rfl (r_extract rfl rfl rfl rfl ?_))
           refine r_alloc ze40 rfl rfl rfl hx29 ?_
           intro b8 wx30 hx30
           refine r_store sz40 rfl hx30 rfl rfl rfl rfl (i := 0) rfl rfl rfl rfl ?_
           intro wx31 hx31
           refine r_assign rfl rfl rfl (r_nil (q_then (c_seq (c_region (r_move rfl rfl rfl (r_move rfl rfl rfl ?_))))))
           obtain ⟨v20, hb11, hm⟩ := bind_some hm
           refine r_mid 3 (fun a w' => wx31 = w' ∧ Has 146 a [(11, .slice as4 ns4 cs4), (12, .slice as5 ns5 cs5), (15, .bool v18.2), (16, .pointer (some ⟨b8, 0, none⟩)), (17, .bool v19.2), (123, .bool v20)]) ?_ ?_
           ·rintro a wx32 ⟨rfl, hax10⟩
            refine rw_apply hax10 ?_
            refine r_move rfl rfl rfl ?_
            obtain ⟨v21, hb12, hm⟩ := bind_some hm
            refine r_mid 4 (fun a w' => ∃ (Fx20 : Frz), Frz.le Fx19 Fx20 ∧ HS F w [] Fx20 [.box b8 40 [vs v19.1.Name, .int .i64 v19.1.Fee.Op, .int .i64 v19.1.Fee.N, vs v19.1.Fee.Name, .slice as7 ns7 cs7, .int .i64 v19.1.Cap], .box b7 40 [vs v18.1.Name, .int .i64 v18.1.Fee.Op, .int .i64 v18.1.Fee.N, vs v18.1.Fee.Name, .slice as6 ns6 cs6, .int .i64 v18.1.Cap], .row 52 3 (some ⟨b4, 0, none⟩) 1 1 [.int .i64 0, .int .i64 2, .bool false]] w' ∧ Has 146 a [(11, .slice as4 ns4 cs4), (15, .bool v18.2), (16, .pointer (some ⟨b8, 0, none⟩)), (17, .bool v19.2), (128, .bool v21)]) ?_ ?_
            ·rintro a wx33 ⟨Fx20, hF20, hx32, hax11⟩
             refine rw_apply hax11 ?_
             refine r_move rfl rfl rfl ?_
             obtain ⟨v22, hb13, hm⟩ := bind_some hm
             refine r_mid 4 (fun a w' => wx33 = w' ∧ Has 146 a [(15, .bool v18.2), (16, .pointer (some ⟨b8, 0, none⟩)), (17, .bool v19.2), (133, .bool v22)]) ?_ ?_
             ·rintro a wx34 ⟨rfl, hax12⟩
              refine rw_apply hax12 ?_
              refine r_move rfl rfl rfl ?_
              obtain ⟨v23, hb14, hm⟩ := bind_some hm
              refine r_mid 3 (fun a w' => wx33 = w' ∧ Has 146 a [(16, .pointer (some ⟨b8, 0, none⟩)), (17, .bool v19.2), (137, .bool v23)]) ?_ ?_
              ·rintro a wx35 ⟨rfl, hax13⟩
               refine rw_apply hax13 ?_
               refine r_move rfl rfl rfl ?_
               obtain ⟨v24, hb15, hm⟩ := bind_some hm
               refine r_mid 2 (fun a w' => wx33 = w' ∧ Has 146 a [(16, .pointer (some ⟨b8, 0, none⟩)), (140, .bool v24)]) ?_ ?_
               ·rintro a wx36 ⟨rfl, hax14⟩
                refine rw_apply hax14 ?_
                refine r_move rfl rfl rfl ?_
                obtain ⟨v25, hb16, hm⟩ := bind_some hm
                refine r_mid 4 (fun a w' => wx33 = w' ∧ Has 146 a [(145, .bool v25)]) ?_ ?_
                ·rintro a wx37 ⟨rfl, hax15⟩
                 refine rw_apply hax15 ?_
                 refine r_assign rfl rfl rfl (r_nil (q_then (c_ret ?_)))
                 refine b_ret1 rfl rfl ?_
                 obtain rfl := Option.some.inj hm
                 exact ⟨_, _, _, rfl, hx32.pick [] (by decide) rfl, rfl, rfl⟩
                ·clear hm
                 rcases cond_some hb16 with ⟨hb17, hb16⟩ | ⟨hb17, hb16⟩
                 ·refine r_lit 141 rfl hb17 ?_
                  refine r_fieldAddr fa40_0 rfl rfl rfl ?_
                  refine r_loadB1 ag9 rfl rfl hx32 rfl (i := 0) rfl rfl ?_
                  refine r_str rfl rfl rfl rfl rfl ?_
                  refine r_pick_true rfl rfl rfl rfl (r_nil ?_)
                  refine q_next (fun a ha => ?_)
                  cases hb16
                  exact ⟨rfl, ha.cut (l := [145]) rfl⟩
                 ·refine r_lit 141 rfl hb17 ?_
                  refine r_off rfl (by decide) rfl (r_off rfl (by decide) rfl (r_off rfl (by decide) rfl (r_pick_false rfl rfl rfl rfl (r_nil ?_))))
                  refine q_next (fun a ha => ?_)
                  cases hb16
                  exact ⟨rfl, ha.cut (l := [145]) rfl⟩
               ·clear hm
                rcases cond_some hb15 with ⟨hb18, hb15⟩ | ⟨hb18, hb15⟩
                ·refine r_lit 138 rfl hb18 ?_
                 refine r_move rfl rfl rfl (r_pick_true rfl rfl rfl rfl (r_nil ?_))
                 refine q_next (fun a ha => ?_)
                 cases hb15
                 exact ⟨rfl, ha.cut (l := [16, 140]) rfl⟩
                ·refine r_lit 138 rfl hb18 ?_
                 refine r_off rfl (by decide) rfl (r_pick_false rfl rfl rfl rfl (r_nil ?_))
                 refine q_next (fun a ha => ?_)
                 cases hb15
                 exact ⟨rfl, ha.cut (l := [16, 140]) rfl⟩
              ·clear hm
               rcases cond_some hb14 with ⟨hb19, hb14⟩ | ⟨hb19, hb14⟩
               ·refine r_lit 134 rfl hb19 ?_
                refine r_move rfl rfl rfl (r_not rfl rfl rfl (r_pick_true rfl rfl rfl rfl (r_nil ?_)))
                refine q_next (fun a ha => ?_)
                cases hb14
                exact ⟨rfl, ha.cut (l := [16, 17, 137]) rfl⟩
               ·refine r_lit 134 rfl hb19 ?_
                refine r_off rfl (by decide) rfl (r_off rfl (by decide) rfl (r_pick_false rfl rfl rfl rfl (r_nil ?_)))
                refine q_next (fun a ha => ?_)
                cases hb14
                exact ⟨rfl, ha.cut (l := [16, 17, 137]) rfl⟩
             ·clear hm
              rcases cond_some hb13 with ⟨hb20, hb13⟩ | ⟨hb20, hb13⟩
              ·refine r_lit 129 rfl hb20 ?_
               refine r_move rfl rfl rfl ?_
               refine r_lenS hs4.len u26 rfl rfl rfl ?_
               refine r_bin rfl rfl rfl rfl rfl ?_
               refine r_pick_true rfl rfl rfl rfl (r_nil ?_)
               refine q_next (fun a ha => ?_)
               cases hb13
               exact ⟨rfl, ha.cut (l := [15, 16, 17, 133]) rfl⟩
              ·refine r_lit 129 rfl hb20 ?_
               refine r_off rfl (by decide) rfl (r_off rfl (by decide) rfl (r_off rfl (by decide) rfl (r_pick_false rfl rfl rfl rfl (r_nil ?_))))
               refine q_next (fun a ha => ?_)
               cases hb13
               exact ⟨rfl, ha.cut (l := [15, 16, 17, 133]) rfl⟩
            ·clear hm
             rcases cond_some hb12 with ⟨hb21, hb12⟩ | ⟨hb21, hb12⟩
             ·refine r_lit 124 rfl hb21 ?_
              refine r_move rfl rfl rfl ?_
              refine r_buildSlice (e := 31) (cs := [.int .i64 0, .int .i64 7]) (q := 1) rfl rfl hx31 rfl (fun _ => by kernel_rfl) rfl rfl ?_
              intro b9 wx38 hx33
              obtain ⟨Fx21, hF21, hx34, hsx6⟩ := freezeRow hx33 (i := 0) rfl ((show RowN (Rp.int .i64) Fx19 2 [.int .i64 0, .int .i64 7] [0, 7] from ⟨rfl, ⟨_, _, rfl, rfl, ⟨_, _, rfl, rfl, (rfl : RowR (Rp.int .i64) _ [] [])⟩⟩⟩))
              obtain ⟨v26, hv11, hb12⟩ := bind_some hb12
              refine r_callG0 ent14 rfl rfl rfl rfl hx34 (ref40_SameErrors_ok _ _ _ _ hv11 hx34.sat (((hs5.mono hF18).mono hF19).mono hF21) hsx6) ?_
              rintro _ Fx22 _ wx39 hF22 hx35 ⟨rfl, rfl⟩
              refine r_pick_true rfl rfl rfl rfl (r_nil ?_)
              refine q_next (fun a ha => ?_)
              cases hb12
              exact ⟨_, (hF21.trans hF22), hx35.pick [0, 1, 2] (by decide) rfl, ha.cut (l := [11, 15, 16, 17, 128]) rfl⟩
             ·refine r_lit 124 rfl hb21 ?_
              refine r_off rfl (by decide) rfl (r_off rfl (by decide) rfl (r_off rfl (by decide) rfl (r_pick_false rfl rfl rfl rfl (r_nil ?_))))
              refine q_next (fun a ha => ?_)
              cases hb12
              exact ⟨_, Frz.refl _, hx31.pick [0, 1, 2] (by decide) rfl, ha.cut (l := [11, 15, 16, 17, 128]) rfl⟩
           ·clear hm
            rcases cond_some hb11 with ⟨hb22, hb11⟩ | ⟨hb22, hb11⟩
            ·refine r_lit 120 rfl hb22 ?_
             refine r_move rfl rfl rfl ?_
             refine r_bin rfl rfl rfl rfl rfl ?_
             refine r_pick_true rfl rfl rfl rfl (r_nil ?_)
             refine q_next (fun a ha => ?_)
             cases hb11
             exact ⟨rfl, ha.cut (l := [11, 12, 15, 16, 17, 123]) rfl⟩
            ·refine r_lit 120 rfl hb22 ?_
             refine r_off rfl (by decide) rfl (r_off rfl (by decide) rfl (r_pick_false rfl rfl rfl rfl (r_nil ?_)))
             refine q_next (fun a ha => ?_)
             cases hb11
             exact ⟨rfl, ha.cut (l := [11, 12, 15, 16, 17, 123]) rfl⟩
          ·clear hm
           rcases cond_some hb10 with ⟨hb23, hb10⟩ | ⟨hb23, hb10⟩
           ·refine r_lit 92 rfl hb23 ?_
            obtain ⟨v27, hv12, hb10⟩ := bind_some hb10
            refine r_callG0 ent20 rfl rfl rfl rfl hx19 (law40_motion_ok _ _ _ _ hv12 hx19.sat) ?_
            rintro _ Fx23 _ wx40 hF23 hx36 ⟨rfl, rfl⟩
            refine r_move rfl rfl rfl ?_
            obtain ⟨v28, hv13, hb10⟩ := bind_some hb10
            refine r_callG0 ent16 rfl rfl rfl rfl hx36 (council_Check_ok _ _ _ _ _ hv13 hx36.sat (((hsx4.mono hF11).mono hF12).mono hF23) ((((hg0.mono hG2).mono hF11).mono hF12).mono hF23)) ?_
            rintro _ Fx24 _ wx41 hF24 hx37 ⟨rfl, rfl⟩
            refine r_bin rfl rfl rfl rfl rfl ?_
            refine r_pick_true rfl rfl rfl rfl (r_nil ?_)
            refine q_next (fun a ha => ?_)
            cases hb10
            exact ⟨_, (hF23.trans hF24), hx37.pick [0] (by decide) rfl, ha.cut (l := [1, 2, 9, 97]) rfl⟩
           ·refine r_lit 92 rfl hb23 ?_
            refine r_off rfl (by decide) rfl (r_off rfl (by decide) rfl (r_off rfl (by decide) rfl (r_off rfl (by decide) rfl (r_pick_false rfl rfl rfl rfl (r_nil ?_)))))
            refine q_next (fun a ha => ?_)
            cases hb10
            exact ⟨_, Frz.refl _, hx19.pick [0] (by decide) rfl, ha.cut (l := [1, 2, 9, 97]) rfl⟩
         ·clear hm
          rcases cond_some hb9 with ⟨hb24, hb9⟩ | ⟨hb24, hb9⟩
          ·refine r_lit 86 rfl hb24 ?_
           obtain ⟨v29, hv14, hb9⟩ := bind_some hb9
           refine r_callG0 ent20 rfl rfl rfl rfl hx18 (law40_motion_ok _ _ _ _ hv14 hx18.sat) ?_
           rintro _ Fx25 _ wx42 hF25 hx38 ⟨rfl, rfl⟩
           refine r_move rfl rfl rfl ?_
           obtain ⟨v30, hv15, hb9⟩ := bind_some hb9
           refine r_callG0 ent16 rfl rfl rfl rfl hx38 (council_Check_ok _ _ _ _ _ hv15 hx38.sat ((hsx4.mono hF11).mono hF25) (((hg0.mono hG2).mono hF11).mono hF25)) ?_
           rintro _ Fx26 _ wx43 hF26 hx39 ⟨rfl, rfl⟩
           refine r_bin rfl rfl rfl rfl rfl ?_
           refine r_pick_true rfl rfl rfl rfl (r_nil ?_)
           refine q_next (fun a ha => ?_)
           cases hb9
           exact ⟨_, (hF25.trans hF26), hx39.pick [0] (by decide) rfl, ha.cut (l := [1, 2, 9, 91]) rfl⟩
          ·refine r_lit 86 rfl hb24 ?_
           refine r_off rfl (by decide) rfl (r_off rfl (by decide) rfl (r_off rfl (by decide) rfl (r_off rfl (by decide) rfl (r_pick_false rfl rfl rfl rfl (r_nil ?_)))))
           refine q_next (fun a ha => ?_)
           cases hb9
           exact ⟨_, Frz.refl _, hx18.pick [0] (by decide) rfl, ha.cut (l := [1, 2, 9, 91]) rfl⟩
       ·clear hm
        rcases cond_some hb7 with ⟨hb25, hb7⟩ | ⟨hb25, hb7⟩
        ·refine r_lit 75 rfl hb25 ?_
         refine r_off rfl (by decide) rfl (r_off rfl (by decide) rfl (r_off rfl (by decide) rfl (r_off rfl (by decide) rfl (r_pick_true rfl rfl rfl rfl (r_nil ?_)))))
         refine q_next (fun a ha => ?_)
         cases hb7
         exact ⟨_, Frz.refl _, hx13.pick [0] (by decide) rfl, ha.cut (l := [1, 2, 80]) rfl⟩
        ·refine r_lit 75 rfl hb25 ?_
         refine r_move rfl rfl rfl (r_move rfl rfl rfl ?_)
         have hG7 := (((hF3.trans hF4).trans hF5).trans hF6).trans hF7
         obtain ⟨v31, hv16, hb7⟩ := bind_some hb7
         refine r_callG0 ent18 rfl rfl rfl rfl hx13 (council_Passes_ok _ _ _ _ _ hv16 hx13.sat (((hsx1.mono hG1).mono hF6).mono hF7) (hsx2.mono hG7)) ?_
         rintro _ Fx27 _ wx44 hF27 hx40 ⟨rfl, rfl⟩
         refine r_not rfl rfl rfl (r_pick_false rfl rfl rfl rfl (r_nil ?_))
         refine q_next (fun a ha => ?_)
         cases hb7
         exact ⟨_, hF27, hx40.pick [0] (by decide) rfl, ha.cut (l := [1, 2, 80]) rfl⟩
      ·clear hm
       rcases cond_some hb6 with ⟨hb26, hb6⟩ | ⟨hb26, hb6⟩
       ·refine r_lit 69 rfl hb26 ?_
        refine r_off rfl (by decide) rfl (r_off rfl (by decide) rfl (r_off rfl (by decide) rfl (r_off rfl (by decide) rfl (r_pick_true rfl rfl rfl rfl (r_nil ?_)))))
        refine q_next (fun a ha => ?_)
        cases hb6
        exact ⟨_, Frz.refl _, hx12.pick [0] (by decide) rfl, ha.cut (l := [1, 2, 74]) rfl⟩
       ·refine r_lit 69 rfl hb26 ?_
        refine r_move rfl rfl rfl (r_move rfl rfl rfl ?_)
        obtain ⟨l4, hc2, hb6⟩ := bind_some hb6
        refine r_fsl_h u23 (r := rp_Vote) sz52 rfl rfl rfl rfl ((((hsx2.mono hF3).mono hF4).mono hF5).mono hF6) hc2 ?_
        intro as8 ns8 cs8 hs8
        obtain ⟨v32, hv17, hb6⟩ := bind_some hb6
        refine r_callG0 ent18 rfl rfl rfl rfl hx12 (council_Passes_ok _ _ _ _ _ hv17 hx12.sat ((hsx1.mono hG1).mono hF6) hs8) ?_
        rintro _ Fx28 _ wx45 hF28 hx41 ⟨rfl, rfl⟩
        refine r_pick_false rfl rfl rfl rfl (r_nil ?_)
        refine q_next (fun a ha => ?_)
        cases hb6
        exact ⟨_, hF28, hx41.pick [0] (by decide) rfl, ha.cut (l := [1, 2, 74]) rfl⟩
     ·clear hm
      rcases cond_some hb5 with ⟨hb27, hb5⟩ | ⟨hb27, hb5⟩
      ·refine r_lit 65 rfl hb27 ?_
       refine r_off rfl (by decide) rfl (r_off rfl (by decide) rfl (r_pick_true rfl rfl rfl rfl (r_nil ?_)))
       refine q_next (fun a ha => ?_)
       cases hb5
       exact ⟨rfl, ha.cut (l := [1, 2, 68]) rfl⟩
      ·refine r_lit 65 rfl hb27 ?_
       refine r_move rfl rfl rfl ?_
       refine r_bin rfl rfl rfl rfl rfl ?_
       refine r_pick_false rfl rfl rfl rfl (r_nil ?_)
       refine q_next (fun a ha => ?_)
       cases hb5
       exact ⟨rfl, ha.cut (l := [1, 2, 68]) rfl⟩
    ·clear hm
     rcases cond_some hb4 with ⟨hb28, hb4⟩ | ⟨hb28, hb4⟩
     ·refine r_lit 61 rfl hb28 ?_
      refine r_off rfl (by decide) rfl (r_off rfl (by decide) rfl (r_pick_true rfl rfl rfl rfl (r_nil ?_)))
      refine q_next (fun a ha => ?_)
      cases hb4
      exact ⟨rfl, ha.cut (l := [1, 2, 8, 64]) rfl⟩
     ·refine r_lit 61 rfl hb28 ?_
      refine r_move rfl rfl rfl ?_
      refine r_bin rfl rfl rfl rfl rfl ?_
      refine r_pick_false rfl rfl rfl rfl (r_nil ?_)
      refine q_next (fun a ha => ?_)
      cases hb4
      exact ⟨rfl, ha.cut (l := [1, 2, 8, 64]) rfl⟩
   ·clear hm
    rcases cond_some hb3 with ⟨hb29, hb3⟩ | ⟨hb29, hb3⟩
    ·refine r_lit 57 rfl hb29 ?_
     refine r_off rfl (by decide) rfl (r_off rfl (by decide) rfl (r_pick_true rfl rfl rfl rfl (r_nil ?_)))
     refine q_next (fun a ha => ?_)
     cases hb3
     exact ⟨rfl, ha.cut (l := [1, 2, 7, 8, 60]) rfl⟩
    ·refine r_lit 57 rfl hb29 ?_
     refine r_move rfl rfl rfl ?_
     refine r_bin rfl rfl rfl rfl rfl ?_
     refine r_pick_false rfl rfl rfl rfl (r_nil ?_)
     refine q_next (fun a ha => ?_)
     cases hb3
     exact ⟨rfl, ha.cut (l := [1, 2, 7, 8, 60]) rfl⟩
  ·clear hm
   rcases cond_some hb2 with ⟨hb30, hb2⟩ | ⟨hb30, hb2⟩
   ·refine r_lit 53 rfl hb30 ?_
    refine r_off rfl (by decide) rfl (r_off rfl (by decide) rfl (r_pick_true rfl rfl rfl rfl (r_nil ?_)))
    refine q_next (fun a ha => ?_)
    cases hb2
    exact ⟨rfl, ha.cut (l := [1, 2, 6, 7, 8, 56]) rfl⟩
   ·refine r_lit 53 rfl hb30 ?_
    refine r_move rfl rfl rfl ?_
    refine r_bin rfl rfl rfl rfl rfl ?_
    refine r_pick_false rfl rfl rfl rfl (r_nil ?_)
    refine q_next (fun a ha => ?_)
    cases hb2
    exact ⟨rfl, ha.cut (l := [1, 2, 6, 7, 8, 56]) rfl⟩
 ·clear hm
  rcases cond_some hb1 with ⟨hb31, hb1⟩ | ⟨hb31, hb1⟩
  ·refine r_lit 49 rfl hb31 ?_
   refine r_off rfl (by decide) rfl (r_off rfl (by decide) rfl (r_pick_true rfl rfl rfl rfl (r_nil ?_)))
   refine q_next (fun a ha => ?_)
   cases hb1
   exact ⟨rfl, ha.cut (l := [1, 2, 5, 6, 7, 8, 52]) rfl⟩
  ·refine r_lit 49 rfl hb31 ?_
   refine r_move rfl rfl rfl ?_
   refine r_bin rfl rfl rfl rfl rfl ?_
   refine r_pick_false rfl rfl rfl rfl (r_nil ?_)
   refine q_next (fun a ha => ?_)
   cases hb1
   exact ⟨rfl, ha.cut (l := [1, 2, 5, 6, 7, 8, 52]) rfl⟩
end Go.Proofs.YtibkigpmkkkaeaaGreatDoor.M
