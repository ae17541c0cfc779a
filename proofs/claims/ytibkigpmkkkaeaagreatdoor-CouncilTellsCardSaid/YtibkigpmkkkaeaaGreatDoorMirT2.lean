/-
  THE MIRRORS of the council's functions, of the tariff's and the lexer's, of the references and the laws, and that each call returns what its mirror says. Printed by gen.py.
-/
import Derived.Test.YtibkigpmkkkaeaaGreatDoorRows
import Derived.Test.YtibkigpmkkkaeaaGreatDoorRtH
import Derived.Test.YtibkigpmkkkaeaaGreatDoorExpr
import Derived.Test.YtibkigpmkkkaeaaGreatDoorMirR40
namespace Go.Proofs.YtibkigpmkkkaeaaGreatDoor.M
open Go Go.RowKit Rt
theorem ent4 : Ent Tryz.prog 4 := fun _ _ => by kernel_rfl
theorem ent5 : Ent Tryz.prog 5 := fun _ _ => by kernel_rfl
theorem ent8 : Ent Tryz.prog 8 := fun _ _ => by kernel_rfl
theorem ent12 : Ent Tryz.prog 12 := fun _ _ => by kernel_rfl
theorem u4 : Tryz.prog.underlying 4 = some .bool := by kernel_rfl
theorem ent13 : Ent Tryz.prog 13 := fun _ _ => by kernel_rfl
theorem ent6 : Ent Tryz.prog 6 := fun _ _ => by kernel_rfl
def law40_CouncilTells_L1 (n : Nat) (motions1 : (List Motion)) (names1 : (List Bs)) (notice1 : Int) (kont1 : Option Bool) : Nat → Int → Option Bool
 | 0, _ => none
 | mx1 + 1, i1 =>
  (bif decide (i1 < (motions1.length : Int)) then
   some (decide (i1 < 8))
  else
   some false).bind fun v19 =>
  bif v19 then
   (ix motions1 i1).bind fun ex1 =>
   (council_Check n ex1 names1 notice1).bind fun v20 =>
   (ix motions1 i1).bind fun ex2 =>
   (ref40_Check n ex2 names1 notice1).bind fun v21 =>
   bif v20 != v21 then
    some false
   else
    law40_CouncilTells_L1 n motions1 names1 notice1 kont1 mx1 (iadd .i64 i1 1)
  else
   kont1
theorem law40_CouncilTells_L1_s (n : Nat) (motions1 : (List Motion)) (names1 : (List Bs)) (notice1 : Int) (kont1 : Option Bool) (mx1 : Nat) (i1 : Int) : law40_CouncilTells_L1 n motions1 names1 notice1 kont1 (mx1 + 1) i1 =
  (bif decide (i1 < (motions1.length : Int)) then
   some (decide (i1 < 8))
  else
   some false).bind fun v19 =>
  bif v19 then
   (ix motions1 i1).bind fun ex1 =>
   (council_Check n ex1 names1 notice1).bind fun v20 =>
   (ix motions1 i1).bind fun ex2 =>
   (ref40_Check n ex2 names1 notice1).bind fun v21 =>
   bif v20 != v21 then
    some false
   else
    law40_CouncilTells_L1 n motions1 names1 notice1 kont1 mx1 (iadd .i64 i1 1)
  else
   kont1 := rfl
def law40_CouncilTells (n : Nat) (motions1 : (List Motion)) (votes1 : (List Vote)) (weights1 : (List Int)) (names1 : (List Bs)) (notice1 : Int) (which1 : Int) (versions1 : (List Version)) (day1 : Int) : Option Bool :=
 (law40_sane n).bind fun v1 =>
 (ref40_Few n motions1 votes1 weights1 names1).bind fun v2 =>
 (bif !v2 then
  some true
 else
  (ref40_FewVersions n versions1).bind fun v25 =>
  some (!v25)).bind fun v3 =>
 bif v3 then
  some v1
 else
  (council_Adopt n motions1 votes1 weights1 names1 notice1).bind fun v4 =>
  (ref40_Adopt n motions1 votes1 weights1 names1 notice1).bind fun v5 =>
  (council_Count n weights1 votes1 which1).bind fun v6 =>
  (ref40_Count n weights1 votes1 which1).bind fun v7 =>
  (council_InForce n versions1 day1).bind fun v8 =>
  (ref40_InForce n versions1 day1).bind fun v9 =>
  (bif v4.2.2 != v5.2.2 then
   some true
  else
   (ref40_SameVersions n v4.1 v5.1).bind fun v24 =>
   some (!v24)).bind fun v10 =>
  (bif v10 then
   some true
  else
   (ref40_SameErrors n v4.2.1 v5.2.1).bind fun v23 =>
   some (!v23)).bind fun v11 =>
  (bif v11 then
   some true
  else
   some (v6.1 != v7.1)).bind fun v12 =>
  (bif v12 then
   some true
  else
   some (v6.2 != v7.2)).bind fun v13 =>
  (bif v13 then
   some true
  else
   some (!(v8.2 == v9.2))).bind fun v14 =>
  (bif v14 then
   some true
  else
   (ref35_SameTariff n v8.1 v9.1).bind fun v22 =>
   some (!v22)).bind fun v15 =>
  bif v15 then
   some false
  else
   law40_CouncilTells_L1 n motions1 names1 notice1 (
    (bif v1 then
     (council_Passes n weights1 votes1 which1).bind fun v17 =>
     (ref40_Passes n weights1 votes1 which1).bind fun v18 =>
     some (v17 == v18)
    else
     some false).bind fun v16 =>
    some v16) n 0
set_option maxHeartbeats 1000000 in
set_option maxRecDepth 1000000 in
theorem law40_CouncilTells_ok (n : Nat) (motions1 : (List Motion)) (votes1 : (List Vote)) (weights1 : (List Int)) (names1 : (List Bs)) (notice1 : Int) (which1 : Int) (versions1 : (List Version)) (day1 : Int) (r : Bool) (hm : law40_CouncilTells n motions1 votes1 weights1 names1 notice1 which1 versions1 day1 = some r) {w : World} {F : Frz} (hs : Sat F w) {as1 : Option Addr} {ns1 : Nat} {cs1 : Nat} {as2 : Option Addr} {ns2 : Nat} {cs2 : Nat} {as3 : Option Addr} {ns3 : Nat} {cs3 : Nat} {as4 : Option Addr} {ns4 : Nat} {cs4 : Nat} {as5 : Option Addr} {ns5 : Nat} {cs5 : Nat} (hs1 : SlR rp_Motion F as1 ns1 cs1 motions1) (hs2 : SlR rp_Vote F as2 ns2 cs2 votes1) (hs3 : SlR (Rp.int .i64) F as3 ns3 cs3 weights1) (hs4 : SlR Rp.str F as4 ns4 cs4 names1) (hs5 : SlR rp_Version F as5 ns5 cs5 versions1) (hg0 : FX F 0 [.int .u8 40, .int .u8 41, .int .u8 44, .int .u8 59, .int .u8 58, .int .u8 61, .int .u8 60, .int .u8 43, .int .u8 45, .int .u8 42, .int .u8 47, .int .u8 123, .int .u8 125]) :
  Calls Tryz.prog 3 #[.slice as1 ns1 cs1, .slice as2 ns2 cs2, .slice as3 ns3 cs3, .slice as4 ns4 cs4, .int .i64 notice1, .int .i64 which1, .slice as5 ns5 cs5, .int .i64 day1] w fun e w' => ∃ v F' O', e = .returned v ∧ HS F w [] F' O' w' ∧ (v = .bool r ∧ O' = []) := by
 unfold law40_CouncilTells at hm
 have h := HS.init hs
 refine calls_of 165 Tryz.func3 rfl rfl rfl ?_
 refine c_seq (c_region (r_assign rfl rfl rfl (r_nil (q_then (c_seq (c_region ?_))))))
 obtain ⟨v1, hv1, hm⟩ := bind_some hm
 refine r_callG0 ent4 rfl rfl rfl rfl h (law40_sane_ok _ _ hv1 h.sat hg0) ?_
 rintro _ Fx1 _ wx1 hF1 hx1 ⟨rfl, rfl⟩
 refine r_assign rfl rfl rfl (r_nil (q_then (c_seq (c_seq (c_region (r_move rfl rfl rfl (r_move rfl rfl rfl (r_move rfl rfl rfl (r_move rfl rfl rfl ?_)))))))))
 obtain ⟨v2, hv2, hm⟩ := bind_some hm
 refine r_callP0 ent5 rfl rfl rfl rfl (ref40_Few_ok _ _ _ _ _ _ hv2 hx1.sat (hs1.mono hF1) (hs2.mono hF1) (hs3.mono hF1) (hs4.mono hF1)) ?_
 refine r_not rfl rfl rfl (r_move rfl rfl rfl ?_)
 obtain ⟨v3, hb1, hm⟩ := bind_some hm
 refine r_mid 4 (fun a w' => ∃ (Fx2 : Frz), Frz.le Fx1 Fx2 ∧ HS F w [] Fx2 [] w' ∧ Has 165 a [(0, .slice as1 ns1 cs1), (1, .slice as2 ns2 cs2), (2, .slice as3 ns3 cs3), (3, .slice as4 ns4 cs4), (4, .int .i64 notice1), (5, .int .i64 which1), (6, .slice as5 ns5 cs5), (7, .int .i64 day1), (17, .bool v1), (44, .bool v3)]) ?_ ?_
 ·rintro a wx2 ⟨Fx2, hF2, hx2, hax1⟩
  refine rw_apply hax1 ?_
  refine r_nil (q_then ?_)
  rcases cond_some hm with ⟨hb2, hm⟩ | ⟨hb2, hm⟩
  ·refine c_lit 44 rfl hb2 ?_
   refine c_true rfl (c_seq (c_region (r_move rfl rfl rfl (r_assign rfl rfl rfl (r_nil (q_then (c_ret (q_then_ret ?_))))))))
   refine b_ret1 rfl rfl ?_
   obtain rfl := Option.some.inj hm
   exact ⟨_, _, _, rfl, hx2.pick [] (by decide) rfl, rfl, rfl⟩
  ·refine c_lit 44 rfl hb2 ?_
   refine c_false rfl (c_skip (q_then (c_seq (c_region (r_move rfl rfl rfl (r_move rfl rfl rfl (r_move rfl rfl rfl (r_move rfl rfl rfl (r_move rfl rfl rfl ?_)))))))))
   obtain ⟨v4, hv3, hm⟩ := bind_some hm
   refine r_callG0 ent7 rfl rfl rfl rfl hx2 (council_Adopt_ok _ _ _ _ _ _ _ hv3 hx2.sat ((hs1.mono hF1).mono hF2) ((hs2.mono hF1).mono hF2) ((hs3.mono hF1).mono hF2) ((hs4.mono hF1).mono hF2) ((hg0.mono hF1).mono hF2)) ?_
   rintro _ Fx3 _ wx3 hF3 hx3 ⟨as6, ns6, cs6, as7, ns7, cs7, rfl, rfl, hs6, hs7⟩
   refine r_move rfl rfl rfl (r_extract rfl rfl rfl rfl (r_extract rfl rfl rfl rfl (r_extract rfl rfl rfl rfl (r_assign rfl rfl rfl (r_assign rfl rfl rfl (r_assign rfl rfl rfl (r_nil (q_then (c_seq (c_region (r_move rfl rfl rfl (r_move rfl rfl rfl (r_move rfl rfl rfl (r_move rfl rfl rfl (r_move rfl rfl rfl ?_)))))))))))))))
   obtain ⟨v5, hv4, hm⟩ := bind_some hm
   refine r_callG0 ent8 rfl rfl rfl rfl hx3 (ref40_Adopt_ok _ _ _ _ _ _ _ hv4 hx3.sat (((hs1.mono hF1).mono hF2).mono hF3) (((hs2.mono hF1).mono hF2).mono hF3) (((hs3.mono hF1).mono hF2).mono hF3) (((hs4.mono hF1).mono hF2).mono hF3)) ?_
   rintro _ Fx4 _ wx4 hF4 hx4 ⟨as8, ns8, cs8, as9, ns9, cs9, rfl, rfl, hs8, hs9⟩
   refine r_move rfl rfl rfl (r_extract rfl rfl rfl rfl (r_extract rfl rfl rfl rfl (r_extract rfl rfl rfl rfl (r_assign rfl rfl rfl (r_assign rfl rfl rfl (r_assign rfl rfl rfl (r_nil (q_then (c_seq (c_region (r_move rfl rfl rfl (r_move rfl rfl rfl (r_move rfl rfl rfl ?_)))))))))))))
   have hG1 := ((hF1.trans hF2).trans hF3).trans hF4
   obtain ⟨v6, hv5, hm⟩ := bind_some hm
   refine r_callG0 ent9 rfl rfl rfl rfl hx4 (council_Count_ok _ _ _ _ _ hv5 hx4.sat (hs3.mono hG1) (hs2.mono hG1)) ?_
   rintro _ Fx5 _ wx5 hF5 hx5 ⟨rfl, rfl⟩
   refine r_move rfl rfl rfl (r_extract rfl rfl rfl rfl (r_extract rfl rfl rfl rfl (r_assign rfl rfl rfl (r_assign rfl rfl rfl (r_nil (q_then (c_seq (c_region (r_move rfl rfl rfl (r_move rfl rfl rfl (r_move rfl rfl rfl ?_)))))))))))
   obtain ⟨v7, hv6, hm⟩ := bind_some hm
   refine r_callG0 ent10 rfl rfl rfl rfl hx5 (ref40_Count_ok _ _ _ _ _ hv6 hx5.sat ((hs3.mono hG1).mono hF5) ((hs2.mono hG1).mono hF5)) ?_
   rintro _ Fx6 _ wx6 hF6 hx6 ⟨rfl, rfl⟩
   refine r_move rfl rfl rfl (r_extract rfl rfl rfl rfl (r_extract rfl rfl rfl rfl (r_assign rfl rfl rfl (r_assign rfl rfl rfl (r_nil (q_then (c_seq (c_region (r_move rfl rfl rfl (r_move rfl rfl rfl ?_))))))))))
   obtain ⟨v8, hv7, hm⟩ := bind_some hm
   refine r_callG0 ent11 rfl rfl rfl rfl hx6 (council_InForce_ok _ _ _ _ hv7 hx6.sat (((hs5.mono hG1).mono hF5).mono hF6)) ?_
   rintro _ Fx7 _ wx7 hF7 hx7 ⟨as10, ns10, cs10, rfl, rfl, hs10⟩
   refine r_move rfl rfl rfl (r_extract rfl rfl rfl rfl (r_extract rfl rfl rfl rfl ?_))
   refine r_alloc ze40 rfl rfl rfl hx7 ?_
   intro b1 wx8 hx8
   refine r_store sz40 rfl hx8 rfl rfl rfl rfl (i := 0) rfl rfl rfl rfl ?_
   intro wx9 hx9
   refine r_assign rfl rfl rfl (r_nil (q_then (c_seq (c_region (r_move rfl rfl rfl (r_move rfl rfl rfl ?_))))))
   obtain ⟨v9, hv8, hm⟩ := bind_some hm
   refine r_callG0 ent12 rfl rfl rfl rfl hx9 (ref40_InForce_ok _ _ _ _ hv8 hx9.sat ((((hs5.mono hG1).mono hF5).mono hF6).mono hF7)) ?_
   rintro _ Fx8 _ wx10 hF8 hx10 ⟨as11, ns11, cs11, rfl, rfl, hs11⟩
   refine r_move rfl rfl rfl (r_extract rfl rfl rfl rfl (r_extract rfl rfl rfl rfl ?_))
   refine r_alloc ze40 rfl rfl rfl hx10 ?_
   intro b2 wx11 hx11
   refine r_store sz40 rfl hx11 rfl rfl rfl rfl (i := 0) rfl rfl rfl rfl ?_
   intro wx12 hx12
   refine r_assign rfl rfl rfl (r_nil (q_then (c_seq (c_seq (c_region (r_move rfl rfl rfl (r_move rfl rfl rfl ?_)))))))
   refine r_bin rfl rfl rfl rfl rfl ?_
   refine r_move rfl rfl rfl ?_
   obtain ⟨v10, hb3, hm⟩ := bind_some hm
   refine r_mid 5 (fun a w' => ∃ (Fx9 : Frz), Frz.le Fx8 Fx9 ∧ HS F w [] Fx9 [.box b2 40 [vs v9.1.Name, .int .i64 v9.1.Fee.Op, .int .i64 v9.1.Fee.N, vs v9.1.Fee.Name, .slice as11 ns11 cs11, .int .i64 v9.1.Cap], .box b1 40 [vs v8.1.Name, .int .i64 v8.1.Fee.Op, .int .i64 v8.1.Fee.N, vs v8.1.Fee.Name, .slice as10 ns10 cs10, .int .i64 v8.1.Cap]] w' ∧ Has 165 a [(0, .slice as1 ns1 cs1), (1, .slice as2 ns2 cs2), (2, .slice as3 ns3 cs3), (3, .slice as4 ns4 cs4), (4, .int .i64 notice1), (5, .int .i64 which1), (17, .bool v1), (19, .slice as7 ns7 cs7), (22, .slice as9 ns9 cs9), (24, .int .i64 v6.1), (25, .int .i64 v6.2), (26, .int .i64 v7.1), (27, .int .i64 v7.2), (28, .pointer (some ⟨b1, 0, none⟩)), (29, .bool v8.2), (30, .pointer (some ⟨b2, 0, none⟩)), (31, .bool v9.2), (100, .bool v10)]) ?_ ?_
   ·rintro a wx13 ⟨Fx9, hF9, hx13, hax2⟩
    refine rw_apply hax2 ?_
    refine r_move rfl rfl rfl ?_
    obtain ⟨v11, hb4, hm⟩ := bind_some hm
    refine r_mid 5 (fun a w' => ∃ (Fx10 : Frz), Frz.le Fx9 Fx10 ∧ HS F w [] Fx10 [.box b2 40 [vs v9.1.Name, .int .i64 v9.1.Fee.Op, .int .i64 v9.1.Fee.N, vs v9.1.Fee.Name, .slice as11 ns11 cs11, .int .i64 v9.1.Cap], .box b1 40 [vs v8.1.Name, .int .i64 v8.1.Fee.Op, .int .i64 v8.1.Fee.N, vs v8.1.Fee.Name, .slice as10 ns10 cs10, .int .i64 v8.1.Cap]] w' ∧ Has 165 a [(0, .slice as1 ns1 cs1), (1, .slice as2 ns2 cs2), (2, .slice as3 ns3 cs3), (3, .slice as4 ns4 cs4), (4, .int .i64 notice1), (5, .int .i64 which1), (17, .bool v1), (24, .int .i64 v6.1), (25, .int .i64 v6.2), (26, .int .i64 v7.1), (27, .int .i64 v7.2), (28, .pointer (some ⟨b1, 0, none⟩)), (29, .bool v8.2), (30, .pointer (some ⟨b2, 0, none⟩)), (31, .bool v9.2), (106, .bool v11)]) ?_ ?_
    ·rintro a wx14 ⟨Fx10, hF10, hx14, hax3⟩
     refine rw_apply hax3 ?_
     refine r_move rfl rfl rfl ?_
     obtain ⟨v12, hb5, hm⟩ := bind_some hm
     refine r_mid 4 (fun a w' => wx14 = w' ∧ Has 165 a [(0, .slice as1 ns1 cs1), (1, .slice as2 ns2 cs2), (2, .slice as3 ns3 cs3), (3, .slice as4 ns4 cs4), (4, .int .i64 notice1), (5, .int .i64 which1), (17, .bool v1), (25, .int .i64 v6.2), (27, .int .i64 v7.2), (28, .pointer (some ⟨b1, 0, none⟩)), (29, .bool v8.2), (30, .pointer (some ⟨b2, 0, none⟩)), (31, .bool v9.2), (111, .bool v12)]) ?_ ?_
     ·rintro a wx15 ⟨rfl, hax4⟩
      refine rw_apply hax4 ?_
      refine r_move rfl rfl rfl ?_
      obtain ⟨v13, hb6, hm⟩ := bind_some hm
      refine r_mid 4 (fun a w' => wx14 = w' ∧ Has 165 a [(0, .slice as1 ns1 cs1), (1, .slice as2 ns2 cs2), (2, .slice as3 ns3 cs3), (3, .slice as4 ns4 cs4), (4, .int .i64 notice1), (5, .int .i64 which1), (17, .bool v1), (28, .pointer (some ⟨b1, 0, none⟩)), (29, .bool v8.2), (30, .pointer (some ⟨b2, 0, none⟩)), (31, .bool v9.2), (116, .bool v13)]) ?_ ?_
      ·rintro a wx16 ⟨rfl, hax5⟩
       refine rw_apply hax5 ?_
       refine r_move rfl rfl rfl ?_
       obtain ⟨v14, hb7, hm⟩ := bind_some hm
       refine r_mid 4 (fun a w' => wx14 = w' ∧ Has 165 a [(0, .slice as1 ns1 cs1), (1, .slice as2 ns2 cs2), (2, .slice as3 ns3 cs3), (3, .slice as4 ns4 cs4), (4, .int .i64 notice1), (5, .int .i64 which1), (17, .bool v1), (28, .pointer (some ⟨b1, 0, none⟩)), (30, .pointer (some ⟨b2, 0, none⟩)), (121, .bool v14)]) ?_ ?_
       ·rintro a wx17 ⟨rfl, hax6⟩
        refine rw_apply hax6 ?_
        refine r_move rfl rfl rfl ?_
        obtain ⟨v15, hb8, hm⟩ := bind_some hm
        refine r_mid 5 (fun a w' => ∃ (Fx11 : Frz), Frz.le Fx10 Fx11 ∧ HS F w [] Fx11 [.box b2 40 [vs v9.1.Name, .int .i64 v9.1.Fee.Op, .int .i64 v9.1.Fee.N, vs v9.1.Fee.Name, .slice as11 ns11 cs11, .int .i64 v9.1.Cap], .box b1 40 [vs v8.1.Name, .int .i64 v8.1.Fee.Op, .int .i64 v8.1.Fee.N, vs v8.1.Fee.Name, .slice as10 ns10 cs10, .int .i64 v8.1.Cap]] w' ∧ Has 165 a [(0, .slice as1 ns1 cs1), (1, .slice as2 ns2 cs2), (2, .slice as3 ns3 cs3), (3, .slice as4 ns4 cs4), (4, .int .i64 notice1), (5, .int .i64 which1), (17, .bool v1), (127, .bool v15)]) ?_ ?_
        ·rintro a wx18 ⟨Fx11, hF11, hx15, hax7⟩
         refine rw_apply hax7 ?_
         refine r_nil (q_then ?_)
         rcases cond_some hm with ⟨hb9, hm⟩ | ⟨hb9, hm⟩
         ·refine c_lit 127 rfl hb9 ?_
          refine c_true rfl (c_seq (c_region (r_assign rfl rfl rfl (r_nil (q_then (c_ret (q_then_ret ?_)))))))
          refine b_ret1 rfl rfl ?_
          obtain rfl := Option.some.inj hm
          exact ⟨_, _, _, rfl, hx15.pick [] (by decide) rfl, rfl, rfl⟩
         ·refine c_lit 127 rfl hb9 ?_
          refine c_false rfl (c_skip (q_then (c_seq (c_seq (c_region (r_assign rfl rfl rfl (r_nil (q_then (c_block ?_)))))))))
          intro a hax12
          obtain ⟨kont1, hkont1⟩ : ∃ kont1 : Option Bool, kont1 = (
       (bif v1 then
        (council_Passes n weights1 votes1 which1).bind fun v17 =>
        (ref40_Passes n weights1 votes1 which1).bind fun v18 =>
        some (v17 == v18)
       else
        some false).bind fun v16 =>
       some v16) := ⟨_, rfl⟩
          replace hm : (fun m (s : Int) => law40_CouncilTells_L1 n motions1 names1 notice1 kont1 m s) n 0 = some r := by rw [hkont1]; exact hm
          refine loopX (id := 0) (fun m (s : Int) => law40_CouncilTells_L1 n motions1 names1 notice1 kont1 m s) (fun (y : Unit) => kont1) r (fun (s : Int) a w' => ∃ (Fx12 : Frz), Frz.le Fx11 Fx12 ∧ HS F w [] Fx12 [] w' ∧ Has 165 a [(0, .slice as1 ns1 cs1), (1, .slice as2 ns2 cs2), (2, .slice as3 ns3 cs3), (3, .slice as4 ns4 cs4), (4, .int .i64 notice1), (5, .int .i64 which1), (17, .bool v1), (32, .int .i64 s)]) (fun (y : Unit) a w' => ∃ (Fx13 : Frz), Frz.le Fx11 Fx13 ∧ HS F w [] Fx13 [] w' ∧ Has 165 a [(1, .slice as2 ns2 cs2), (2, .slice as3 ns3 cs3), (5, .int .i64 which1), (17, .bool v1)]) (fun _ => rfl) ?_ ?_ hm ⟨_, Frz.refl _, hx15.pick [] (by decide) rfl, hax12.cut (l := [0, 1, 2, 3, 4, 5, 17, 32]) rfl⟩
          ·clear hm; rintro _u a wx19 hm ⟨Fx13, hF13, hx17, hax8⟩
           rw [hkont1] at hm
           refine qw_apply (e := .exit 0) hax8 ?_
           refine q_block_hit (q_then (c_seq (c_region (r_move rfl rfl rfl (r_move rfl rfl rfl ?_)))))
           obtain ⟨v16, hb10, hm⟩ := bind_some hm
           refine r_mid 10 (fun a w' => ∃ (Fx14 : Frz), Frz.le Fx13 Fx14 ∧ HS F w [] Fx14 [] w' ∧ Has 165 a [(164, .bool v16)]) ?_ ?_
           ·rintro a wx20 ⟨Fx14, hF14, hx18, hax9⟩
            refine rw_apply hax9 ?_
            refine r_assign rfl rfl rfl (r_nil (q_then (c_ret ?_)))
            refine b_ret1 rfl rfl ?_
            obtain rfl := Option.some.inj hm
            exact ⟨_, _, _, rfl, hx18.pick [] (by decide) rfl, rfl, rfl⟩
           ·clear hm
            rcases cond_some hb10 with ⟨hb11, hb10⟩ | ⟨hb11, hb10⟩
            ·refine r_lit 154 rfl hb11 ?_
             refine r_move rfl rfl rfl (r_move rfl rfl rfl (r_move rfl rfl rfl ?_))
             have hG2 := (((((((hG1.trans hF5).trans hF6).trans hF7).trans hF8).trans hF9).trans hF10).trans hF11).trans hF13
             obtain ⟨v17, hv9, hb10⟩ := bind_some hb10
             refine r_callG0 ent18 rfl rfl rfl rfl hx17 (council_Passes_ok _ _ _ _ _ hv9 hx17.sat (hs3.mono hG2) (hs2.mono hG2)) ?_
             rintro _ Fx15 _ wx21 hF15 hx19 ⟨rfl, rfl⟩
             refine r_move rfl rfl rfl (r_move rfl rfl rfl (r_move rfl rfl rfl ?_))
             obtain ⟨v18, hv10, hb10⟩ := bind_some hb10
             refine r_callG0 ent19 rfl rfl rfl rfl hx19 (ref40_Passes_ok _ _ _ _ _ hv10 hx19.sat ((hs3.mono hG2).mono hF15) ((hs2.mono hG2).mono hF15)) ?_
             rintro _ Fx16 _ wx22 hF16 hx20 ⟨rfl, rfl⟩
             refine r_beq u4 rfl rfl rfl rfl ?_
             refine r_pick_true rfl rfl rfl rfl (r_nil ?_)
             refine q_next (fun a ha => ?_)
             cases hb10
             exact ⟨_, (hF15.trans hF16), hx20.pick [] (by decide) rfl, ha.cut (l := [164]) rfl⟩
            ·refine r_lit 154 rfl hb11 ?_
             refine r_off rfl (by decide) rfl (r_off rfl (by decide) rfl (r_off rfl (by decide) rfl (r_off rfl (by decide) rfl (r_off rfl (by decide) rfl (r_off rfl (by decide) rfl (r_off rfl (by decide) rfl (r_off rfl (by decide) rfl (r_off rfl (by decide) rfl (r_pick_false rfl rfl rfl rfl (r_nil ?_))))))))))
             refine q_next (fun a ha => ?_)
             cases hb10
             exact ⟨_, Frz.refl _, hx17.pick [] (by decide) rfl, ha.cut (l := [164]) rfl⟩
          ·clear hm hkont1; intro hk1 mx1 K ihx1
           rintro i1 a wx23 hm ⟨Fx12, hF12, hx16, hax10⟩
           simp only [law40_CouncilTells_L1_s] at hm
           refine cw_apply hax10 ?_
           refine c_seq (c_seq (c_region (r_move rfl rfl rfl (r_move rfl rfl rfl ?_))))
           refine r_lenS hs1.len u22 rfl rfl rfl ?_
           refine r_bin rfl rfl rfl rfl rfl ?_
           refine r_move rfl rfl rfl ?_
           obtain ⟨v19, hb12, hm⟩ := bind_some hm
           refine r_mid 3 (fun a w' => wx23 = w' ∧ Has 165 a [(0, .slice as1 ns1 cs1), (1, .slice as2 ns2 cs2), (2, .slice as3 ns3 cs3), (3, .slice as4 ns4 cs4), (4, .int .i64 notice1), (5, .int .i64 which1), (17, .bool v1), (32, .int .i64 i1), (135, .bool v19)]) ?_ ?_
           ·rintro a wx24 ⟨rfl, hax11⟩
            refine rw_apply hax11 ?_
            refine r_nil (q_then ?_)
            rcases cond_some hm with ⟨hb13, hm⟩ | ⟨hb13, hm⟩
            ·refine c_lit 135 rfl hb13 ?_
             refine c_true rfl (c_skip (q_then (c_seq (c_block (c_seq ?_)))))
             refine c_regionD (by kernel_rfl) (by kernel_rfl) hx16 ?_
             refine q_stp rfl rfl rfl rfl (fun _ _ _ _ => r_move rfl rfl rfl (r_nil (qq rfl))) ?_
             refine q_stp rfl rfl rfl rfl (fun _ _ _ _ => r_move rfl rfl rfl (r_nil (qq rfl))) ?_
             obtain ⟨ex1, he1, hm⟩ := bind_some hm
             obtain ⟨b3, o1, cs1, hf1, hr1, hrun1⟩ := findex_ex (P := Tryz.prog) (r := rp_Motion) u22 sz48 (((((((((hs1.mono hG1).mono hF5).mono hF6).mono hF7).mono hF8).mono hF9).mono hF10).mono hF11).mono hF12) he1
             have hc1 : cs1 = [vs ex1.Text, .int .i64 ex1.Day, .int .i64 ex1.From] := hr1
             subst hc1
             refine q_findex rfl rfl rfl rfl hrun1 ?_
             refine q_stp rfl rfl rfl rfl (fun _ _ hleq hq => r_loadFW ag48 sz48 rfl rfl hq (hf1.mono hleq) rfl rfl (r_nil (qq rfl))) ?_
             refine q_stp rfl rfl rfl rfl (fun _ _ _ _ => r_move rfl rfl rfl (r_nil (qq rfl))) ?_
             refine q_stp rfl rfl rfl rfl (fun _ _ _ _ => r_move rfl rfl rfl (r_nil (qq rfl))) ?_
             obtain ⟨v20, hv11, hm⟩ := bind_some hm
             refine q_callG0 ent16 rfl rfl rfl rfl (fun _ _ hleq hq => council_Check_ok _ _ _ _ _ hv11 hq.sat ((((((((((hs4.mono hG1).mono hF5).mono hF6).mono hF7).mono hF8).mono hF9).mono hF10).mono hF11).mono hF12).mono hleq) ((((((((((hg0.mono hG1).mono hF5).mono hF6).mono hF7).mono hF8).mono hF9).mono hF10).mono hF11).mono hF12).mono hleq)) ?_
             refine q_stp rfl rfl rfl rfl (fun _ _ _ _ => r_move rfl rfl rfl (r_nil (qq rfl))) ?_
             refine q_stp rfl rfl rfl rfl (fun _ _ _ _ => r_move rfl rfl rfl (r_nil (qq rfl))) ?_
             obtain ⟨ex2, he2, hm⟩ := bind_some hm
             obtain ⟨b4, o2, cs2, hf2, hr2, hrun2⟩ := findex_ex (P := Tryz.prog) (r := rp_Motion) u22 sz48 (((((((((hs1.mono hG1).mono hF5).mono hF6).mono hF7).mono hF8).mono hF9).mono hF10).mono hF11).mono hF12) he2
             have hc2 : cs2 = [vs ex2.Text, .int .i64 ex2.Day, .int .i64 ex2.From] := hr2
             subst hc2
             refine q_findex rfl rfl rfl rfl hrun2 ?_
             refine q_stp rfl rfl rfl rfl (fun _ _ hleq hq => r_loadFW ag48 sz48 rfl rfl hq (hf2.mono hleq) rfl rfl (r_nil (qq rfl))) ?_
             refine q_stp rfl rfl rfl rfl (fun _ _ _ _ => r_move rfl rfl rfl (r_nil (qq rfl))) ?_
             refine q_stp rfl rfl rfl rfl (fun _ _ _ _ => r_move rfl rfl rfl (r_nil (qq rfl))) ?_
             obtain ⟨v21, hv12, hm⟩ := bind_some hm
             refine q_callG0 ent17 rfl rfl rfl rfl (fun _ _ hleq hq => ref40_Check_ok _ _ _ _ _ hv12 hq.sat ((((((((((hs4.mono hG1).mono hF5).mono hF6).mono hF7).mono hF8).mono hF9).mono hF10).mono hF11).mono hF12).mono hleq)) ?_
             refine q_stp rfl rfl rfl rfl (fun _ _ _ _ => r_bin rfl rfl rfl rfl rfl (r_nil (qq rfl))) ?_
             refine q_end ?_
             rintro wx25 ⟨Fx17, hF17, hx21⟩
             refine q_then ?_
             rcases cond_some hm with ⟨hb14, hm⟩ | ⟨hb14, hm⟩
             ·refine c_lit 152 rfl hb14 ?_
              refine c_true rfl (c_seq (c_region (r_assign rfl rfl rfl (r_nil (q_then (c_ret (q_block_ret (q_then_ret (q_then_ret (q_block_ret (q_then_ret ?_)))))))))))
              refine b_ret1 rfl rfl ?_
              obtain rfl := Option.some.inj hm
              exact ⟨_, _, _, rfl, hx21.pick [] (by decide) rfl, rfl, rfl⟩
             ·refine c_lit 152 rfl hb14 ?_
              refine c_false rfl (c_skip (q_block (q_then (c_region (r_move rfl rfl rfl ?_)))))
              refine r_bin rfl rfl rfl rfl rfl ?_
              refine r_assign rfl rfl rfl (r_nil ?_)
              refine q_next (fun a ha => ihx1 (iadd .i64 i1 1) a _ hm ?_)
              exact ⟨_, (hF12.trans hF17), hx21.pick [] (by decide) rfl, ha.cut (l := [0, 1, 2, 3, 4, 5, 17, 32]) rfl⟩
            ·refine c_lit 135 rfl hb13 ?_
             refine c_false rfl (c_exit (q_then_exit (q_then_exit ?_)))
             refine fun a ha => hk1 () a _ hm ?_
             exact ⟨_, hF12, hx16.pick [] (by decide) rfl, ha.cut (l := [1, 2, 5, 17]) rfl⟩
           ·clear hm
            rcases cond_some hb12 with ⟨hb15, hb12⟩ | ⟨hb15, hb12⟩
            ·refine r_lit 132 rfl hb15 ?_
             refine r_move rfl rfl rfl ?_
             refine r_bin rfl rfl rfl rfl rfl ?_
             refine r_pick_true rfl rfl rfl rfl (r_nil ?_)
             refine q_next (fun a ha => ?_)
             cases hb12
             exact ⟨rfl, ha.cut (l := [0, 1, 2, 3, 4, 5, 17, 32, 135]) rfl⟩
            ·refine r_lit 132 rfl hb15 ?_
             refine r_off rfl (by decide) rfl (r_off rfl (by decide) rfl (r_pick_false rfl rfl rfl rfl (r_nil ?_)))
             refine q_next (fun a ha => ?_)
             cases hb12
             exact ⟨rfl, ha.cut (l := [0, 1, 2, 3, 4, 5, 17, 32, 135]) rfl⟩
        ·clear hm
         rcases cond_some hb8 with ⟨hb16, hb8⟩ | ⟨hb16, hb8⟩
         ·refine r_lit 122 rfl hb16 ?_
          refine r_off rfl (by decide) rfl (r_off rfl (by decide) rfl (r_off rfl (by decide) rfl (r_off rfl (by decide) rfl (r_pick_true rfl rfl rfl rfl (r_nil ?_)))))
          refine q_next (fun a ha => ?_)
          cases hb8
          exact ⟨_, Frz.refl _, hx14.pick [0, 1] (by decide) rfl, ha.cut (l := [0, 1, 2, 3, 4, 5, 17, 127]) rfl⟩
         ·refine r_lit 122 rfl hb16 ?_
          refine r_loadBW ag40 sz40 rfl rfl hx14 rfl (i := 1) rfl rfl ?_
          refine r_loadBW ag40 sz40 rfl rfl hx14 rfl (i := 0) rfl rfl ?_
          obtain ⟨v22, hv13, hb8⟩ := bind_some hb8
          refine r_callG0 ent15 rfl rfl rfl rfl hx14 (ref35_SameTariff_ok _ _ _ _ hv13 hx14.sat (((hs10.mono hF8).mono hF9).mono hF10) ((hs11.mono hF9).mono hF10)) ?_
          rintro _ Fx18 _ wx26 hF18 hx22 ⟨rfl, rfl⟩
          refine r_not rfl rfl rfl (r_pick_false rfl rfl rfl rfl (r_nil ?_))
          refine q_next (fun a ha => ?_)
          cases hb8
          exact ⟨_, hF18, hx22.pick [0, 1] (by decide) rfl, ha.cut (l := [0, 1, 2, 3, 4, 5, 17, 127]) rfl⟩
       ·clear hm
        rcases cond_some hb7 with ⟨hb17, hb7⟩ | ⟨hb17, hb7⟩
        ·refine r_lit 117 rfl hb17 ?_
         refine r_off rfl (by decide) rfl (r_off rfl (by decide) rfl (r_off rfl (by decide) rfl (r_pick_true rfl rfl rfl rfl (r_nil ?_))))
         refine q_next (fun a ha => ?_)
         cases hb7
         exact ⟨rfl, ha.cut (l := [0, 1, 2, 3, 4, 5, 17, 28, 30, 121]) rfl⟩
        ·refine r_lit 117 rfl hb17 ?_
         refine r_move rfl rfl rfl (r_move rfl rfl rfl ?_)
         refine r_bne u4 rfl rfl rfl rfl ?_
         refine r_pick_false rfl rfl rfl rfl (r_nil ?_)
         refine q_next (fun a ha => ?_)
         cases hb7
         exact ⟨rfl, ha.cut (l := [0, 1, 2, 3, 4, 5, 17, 28, 30, 121]) rfl⟩
      ·clear hm
       rcases cond_some hb6 with ⟨hb18, hb6⟩ | ⟨hb18, hb6⟩
       ·refine r_lit 112 rfl hb18 ?_
        refine r_off rfl (by decide) rfl (r_off rfl (by decide) rfl (r_off rfl (by decide) rfl (r_pick_true rfl rfl rfl rfl (r_nil ?_))))
        refine q_next (fun a ha => ?_)
        cases hb6
        exact ⟨rfl, ha.cut (l := [0, 1, 2, 3, 4, 5, 17, 28, 29, 30, 31, 116]) rfl⟩
       ·refine r_lit 112 rfl hb18 ?_
        refine r_move rfl rfl rfl (r_move rfl rfl rfl ?_)
        refine r_bin rfl rfl rfl rfl rfl ?_
        refine r_pick_false rfl rfl rfl rfl (r_nil ?_)
        refine q_next (fun a ha => ?_)
        cases hb6
        exact ⟨rfl, ha.cut (l := [0, 1, 2, 3, 4, 5, 17, 28, 29, 30, 31, 116]) rfl⟩
     ·clear hm
      rcases cond_some hb5 with ⟨hb19, hb5⟩ | ⟨hb19, hb5⟩
      ·refine r_lit 107 rfl hb19 ?_
       refine r_off rfl (by decide) rfl (r_off rfl (by decide) rfl (r_off rfl (by decide) rfl (r_pick_true rfl rfl rfl rfl (r_nil ?_))))
       refine q_next (fun a ha => ?_)
       cases hb5
       exact ⟨rfl, ha.cut (l := [0, 1, 2, 3, 4, 5, 17, 25, 27, 28, 29, 30, 31, 111]) rfl⟩
      ·refine r_lit 107 rfl hb19 ?_
       refine r_move rfl rfl rfl (r_move rfl rfl rfl ?_)
       refine r_bin rfl rfl rfl rfl rfl ?_
       refine r_pick_false rfl rfl rfl rfl (r_nil ?_)
       refine q_next (fun a ha => ?_)
       cases hb5
       exact ⟨rfl, ha.cut (l := [0, 1, 2, 3, 4, 5, 17, 25, 27, 28, 29, 30, 31, 111]) rfl⟩
    ·clear hm
     rcases cond_some hb4 with ⟨hb20, hb4⟩ | ⟨hb20, hb4⟩
     ·refine r_lit 101 rfl hb20 ?_
      refine r_off rfl (by decide) rfl (r_off rfl (by decide) rfl (r_off rfl (by decide) rfl (r_off rfl (by decide) rfl (r_pick_true rfl rfl rfl rfl (r_nil ?_)))))
      refine q_next (fun a ha => ?_)
      cases hb4
      exact ⟨_, Frz.refl _, hx13.pick [0, 1] (by decide) rfl, ha.cut (l := [0, 1, 2, 3, 4, 5, 17, 24, 25, 26, 27, 28, 29, 30, 31, 106]) rfl⟩
     ·refine r_lit 101 rfl hb20 ?_
      refine r_move rfl rfl rfl (r_move rfl rfl rfl ?_)
      have hG3 := ((((hF4.trans hF5).trans hF6).trans hF7).trans hF8).trans hF9
      have hG4 := (((hF5.trans hF6).trans hF7).trans hF8).trans hF9
      obtain ⟨v23, hv14, hb4⟩ := bind_some hb4
      refine r_callG0 ent14 rfl rfl rfl rfl hx13 (ref40_SameErrors_ok _ _ _ _ hv14 hx13.sat (hs7.mono hG3) (hs9.mono hG4)) ?_
      rintro _ Fx19 _ wx27 hF19 hx23 ⟨rfl, rfl⟩
      refine r_not rfl rfl rfl (r_pick_false rfl rfl rfl rfl (r_nil ?_))
      refine q_next (fun a ha => ?_)
      cases hb4
      exact ⟨_, hF19, hx23.pick [0, 1] (by decide) rfl, ha.cut (l := [0, 1, 2, 3, 4, 5, 17, 24, 25, 26, 27, 28, 29, 30, 31, 106]) rfl⟩
   ·clear hm
    rcases cond_some hb3 with ⟨hb21, hb3⟩ | ⟨hb21, hb3⟩
    ·refine r_lit 95 rfl hb21 ?_
     refine r_off rfl (by decide) rfl (r_off rfl (by decide) rfl (r_off rfl (by decide) rfl (r_off rfl (by decide) rfl (r_pick_true rfl rfl rfl rfl (r_nil ?_)))))
     refine q_next (fun a ha => ?_)
     cases hb3
     exact ⟨_, Frz.refl _, hx12.pick [0, 1] (by decide) rfl, ha.cut (l := [0, 1, 2, 3, 4, 5, 17, 19, 22, 24, 25, 26, 27, 28, 29, 30, 31, 100]) rfl⟩
    ·refine r_lit 95 rfl hb21 ?_
     refine r_move rfl rfl rfl (r_move rfl rfl rfl ?_)
     have hG5 := (((hF4.trans hF5).trans hF6).trans hF7).trans hF8
     have hG6 := ((hF5.trans hF6).trans hF7).trans hF8
     obtain ⟨v24, hv15, hb3⟩ := bind_some hb3
     refine r_callG0 ent13 rfl rfl rfl rfl hx12 (ref40_SameVersions_ok _ _ _ _ hv15 hx12.sat (hs6.mono hG5) (hs8.mono hG6)) ?_
     rintro _ Fx20 _ wx28 hF20 hx24 ⟨rfl, rfl⟩
     refine r_not rfl rfl rfl (r_pick_false rfl rfl rfl rfl (r_nil ?_))
     refine q_next (fun a ha => ?_)
     cases hb3
     exact ⟨_, hF20, hx24.pick [0, 1] (by decide) rfl, ha.cut (l := [0, 1, 2, 3, 4, 5, 17, 19, 22, 24, 25, 26, 27, 28, 29, 30, 31, 100]) rfl⟩
 ·clear hm
  rcases cond_some hb1 with ⟨hb22, hb1⟩ | ⟨hb22, hb1⟩
  ·refine r_lit 40 rfl hb22 ?_
   refine r_off rfl (by decide) rfl (r_off rfl (by decide) rfl (r_off rfl (by decide) rfl (r_pick_true rfl rfl rfl rfl (r_nil ?_))))
   refine q_next (fun a ha => ?_)
   cases hb1
   exact ⟨_, Frz.refl _, hx1.pick [] (by decide) rfl, ha.cut (l := [0, 1, 2, 3, 4, 5, 6, 7, 17, 44]) rfl⟩
  ·refine r_lit 40 rfl hb22 ?_
   refine r_move rfl rfl rfl ?_
   obtain ⟨v25, hv16, hb1⟩ := bind_some hb1
   refine r_callG0 ent6 rfl rfl rfl rfl hx1 (ref40_FewVersions_ok _ _ _ hv16 hx1.sat (hs5.mono hF1)) ?_
   rintro _ Fx21 _ wx29 hF21 hx25 ⟨rfl, rfl⟩
   refine r_not rfl rfl rfl (r_pick_false rfl rfl rfl rfl (r_nil ?_))
   refine q_next (fun a ha => ?_)
   cases hb1
   exact ⟨_, hF21, hx25.pick [] (by decide) rfl, ha.cut (l := [0, 1, 2, 3, 4, 5, 6, 7, 17, 44]) rfl⟩
end Go.Proofs.YtibkigpmkkkaeaaGreatDoor.M
