/-
  THE MIRRORS of the big integers' functions, of their reference and of the laws, and that each call returns what its mirror says. Printed by gen.py.
-/
import Derived.Test.YtaiiclbemlmmaaaDoorRows
import Derived.Test.YtaiiclbemlmmaaaDoorTrim
import Derived.Test.YtaiiclbemlmmaaaDoorMirD
namespace Go.Proofs.YtaiiclbemlmmaaaDoor.M
open Go Go.RowKit Rt

theorem ent9 : Ent Tryd.prog 9 := fun _ _ => by kernel_rfl

theorem ent22 : Ent Tryd.prog 22 := fun _ _ => by kernel_rfl

theorem ent23 : Ent Tryd.prog 23 := fun _ _ => by kernel_rfl

theorem u4 : Tryd.prog.underlying 4 = some .bool := by kernel_rfl

def law04_BigInts (n : Nat) (ax1 : Int) (b1 : Int) : Option Bool :=
  (law04_small n).bind fun v1 =>
  (big_Of n ax1).bind fun v2 =>
  (big_Of n b1).bind fun v3 =>
  (big_Int n (⟨v2.Sign, v2.Digits⟩ : Big)).bind fun v4 =>
  (big_Neg n (⟨v2.Sign, v2.Digits⟩ : Big)).bind fun v5 =>
  (big_Int n v5).bind fun v6 =>
  (big_Right n (⟨v2.Sign, v2.Digits⟩ : Big)).bind fun v7 =>
  (bif !v7 then
    some true
  else
    some (!v4.2)).bind fun v8 =>
  (bif v8 then
    some true
  else
    some (v4.1 != ax1)).bind fun v9 =>
  (bif v9 then
    some true
  else
    some (!(v6.2 == (ax1 != (-9223372036854775808))))).bind fun v10 =>
  (bif v10 then
    some true
  else
    (bif v6.2 then
      some (v6.1 != (IntKind.i64.wrap (0 - ax1)))
    else
      some false).bind fun v34 =>
    some v34).bind fun v11 =>
  (bif v11 then
    some true
  else
    (big_Text n (⟨v2.Sign, v2.Digits⟩ : Big)).bind fun v32 =>
    (big_Text n (⟨v3.Sign, v3.Digits⟩ : Big)).bind fun v33 =>
    some (!((v32 == v33) == (ax1 == b1)))).bind fun v12 =>
  bif v12 then
    some false
  else
    (bif decide (ax1 < b1) then
      some (-1)
    else
      some 0).bind fun order1 =>
    (bif decide (b1 < ax1) then
      some 1
    else
      some order1).bind fun order2 =>
    (big_Add n (⟨v2.Sign, v2.Digits⟩ : Big) (⟨v3.Sign, v3.Digits⟩ : Big)).bind fun v13 =>
    (big_Sub n (⟨v2.Sign, v2.Digits⟩ : Big) (⟨v3.Sign, v3.Digits⟩ : Big)).bind fun v14 =>
    (big_Mul n (⟨v2.Sign, v2.Digits⟩ : Big) (⟨v3.Sign, v3.Digits⟩ : Big)).bind fun v15 =>
    (bif v13.2 != 0 then
      some true
    else
      some (v14.2 != 0)).bind fun v16 =>
    (bif v16 then
      some true
    else
      some (v15.2 != 0)).bind fun v17 =>
    (bif v17 then
      some true
    else
      (big_Compare n (⟨v2.Sign, v2.Digits⟩ : Big) (⟨v3.Sign, v3.Digits⟩ : Big)).bind fun v31 =>
      some (v31 != order2)).bind fun v18 =>
    bif v18 then
      some false
    else
      (bif decide ((IntKind.i64.wrap (0 - 1073741824)) < ax1) then
        some (decide (ax1 < 1073741824))
      else
        some false).bind fun v19 =>
      (bif v19 then
        some (decide ((IntKind.i64.wrap (0 - 1073741824)) < b1))
      else
        some false).bind fun v20 =>
      (bif v20 then
        some (decide (b1 < 1073741824))
      else
        some false).bind fun v21 =>
      bif v21 then
        (big_Int n (⟨v13.1.Sign, v13.1.Digits⟩ : Big)).bind fun v22 =>
        (big_Int n (⟨v14.1.Sign, v14.1.Digits⟩ : Big)).bind fun v23 =>
        (big_Int n (⟨v15.1.Sign, v15.1.Digits⟩ : Big)).bind fun v24 =>
        (bif v1 then
          some v22.2
        else
          some false).bind fun v25 =>
        (bif v25 then
          some v23.2
        else
          some false).bind fun v26 =>
        (bif v26 then
          some v24.2
        else
          some false).bind fun v27 =>
        (bif v27 then
          some (v22.1 == (iadd .i64 ax1 b1))
        else
          some false).bind fun v28 =>
        (bif v28 then
          some (v23.1 == (isub .i64 ax1 b1))
        else
          some false).bind fun v29 =>
        (bif v29 then
          some (v24.1 == (imul .i64 ax1 b1))
        else
          some false).bind fun v30 =>
        some v30
      else
        some v1

set_option maxHeartbeats 1000000 in
set_option maxRecDepth 1000000 in
theorem law04_BigInts_ok (n : Nat) (ax1 : Int) (b1 : Int) (r : Bool) (hm : law04_BigInts n ax1 b1 = some r) {w : World} {F : Frz} (hs : Sat F w) (hg2 : FX F 2 (Lib.pow10Tab.map (Value.int .u64))) :
    Calls Tryd.prog 8 #[.int .i64 ax1, .int .i64 b1] w fun e w' => ∃ v F' O', e = .returned v ∧ HS F w [] F' O' w' ∧ (v = .bool r ∧ O' = []) := by
  unfold law04_BigInts at hm
  have h := HS.init hs
  refine calls_of (args := [.int .i64 ax1, .int .i64 b1]) 188 Tryd.func8 rfl rfl rfl ?_
  refine c_seq ?_
  refine c_region ?_
  refine r_assign rfl rfl rfl ?_
  refine r_nil ?_
  refine q_then ?_
  refine c_seq ?_
  refine c_region ?_
  obtain ⟨v1, hv1, hm⟩ := bind_some hm
  refine r_callG0 ent9 rfl rfl rfl rfl h (law04_small_ok _ _ hv1 h.sat hg2) ?_
  rintro _ Fx1 _ wx1 hF1 hx1 ⟨rfl, rfl⟩
  refine r_assign rfl rfl rfl ?_
  refine r_nil ?_
  refine q_then ?_
  refine c_seq ?_
  refine c_region ?_
  refine r_move rfl rfl rfl ?_
  obtain ⟨v2, hv2, hm⟩ := bind_some hm
  refine r_callG0 ent19 rfl rfl rfl rfl hx1 (big_Of_ok _ _ _ hv2 hx1.sat) ?_
  rintro _ Fx2 _ wx2 hF2 hx2 ⟨as1, ns1, cs1, rfl, rfl, hs1⟩
  refine r_alloc ze24 rfl rfl rfl hx2 ?_
  intro b2 wx3 hx3
  refine r_store sz24 rfl hx3 rfl rfl rfl rfl (i := 0) rfl rfl rfl rfl ?_
  intro wx4 hx4
  refine r_nil ?_
  refine q_then ?_
  refine c_seq ?_
  refine c_region ?_
  refine r_move rfl rfl rfl ?_
  obtain ⟨v3, hv3, hm⟩ := bind_some hm
  refine r_callG0 ent19 rfl rfl rfl rfl hx4 (big_Of_ok _ _ _ hv3 hx4.sat) ?_
  rintro _ Fx3 _ wx5 hF3 hx5 ⟨as2, ns2, cs2, rfl, rfl, hs2⟩
  refine r_alloc ze24 rfl rfl rfl hx5 ?_
  intro b3 wx6 hx6
  refine r_store sz24 rfl hx6 rfl rfl rfl rfl (i := 0) rfl rfl rfl rfl ?_
  intro wx7 hx7
  refine r_nil ?_
  refine q_then ?_
  refine c_seq ?_
  refine c_region ?_
  refine r_loadBA (cs' := [.int .i64 v2.Sign, .slice as1 ns1 cs1]) ag24 sz24 rfl rfl hx7 rfl (i := 1) rfl rfl rfl ?_
  obtain ⟨v4, hv4, hm⟩ := bind_some hm
  refine r_callG0 ent24 rfl rfl rfl rfl hx7 (big_Int_ok _ _ _ hv4 hx7.sat (hs1.mono hF3)) ?_
  rintro _ Fx4 _ wx8 hF4 hx8 ⟨rfl, rfl⟩
  refine r_move rfl rfl rfl ?_
  refine r_extract rfl rfl rfl rfl ?_
  refine r_extract rfl rfl rfl rfl ?_
  refine r_assign rfl rfl rfl ?_
  refine r_assign rfl rfl rfl ?_
  refine r_nil ?_
  refine q_then ?_
  refine c_seq ?_
  refine c_region ?_
  refine r_loadBA (cs' := [.int .i64 v2.Sign, .slice as1 ns1 cs1]) ag24 sz24 rfl rfl hx8 rfl (i := 1) rfl rfl rfl ?_
  obtain ⟨v5, hv5, hm⟩ := bind_some hm
  refine r_callG0 ent13 rfl rfl rfl rfl hx8 (big_Neg_ok _ _ _ hv5 hx8.sat ((hs1.mono hF3).mono hF4)) ?_
  rintro _ Fx5 _ wx9 hF5 hx9 ⟨as3, ns3, cs3, rfl, rfl, hs3⟩
  obtain ⟨v6, hv6, hm⟩ := bind_some hm
  refine r_callG0 ent24 rfl rfl rfl rfl hx9 (big_Int_ok _ _ _ hv6 hx9.sat hs3) ?_
  rintro _ Fx6 _ wx10 hF6 hx10 ⟨rfl, rfl⟩
  refine r_move rfl rfl rfl ?_
  refine r_extract rfl rfl rfl rfl ?_
  refine r_extract rfl rfl rfl rfl ?_
  refine r_assign rfl rfl rfl ?_
  refine r_assign rfl rfl rfl ?_
  refine r_nil ?_
  refine q_then ?_
  refine c_seq ?_
  refine c_seq ?_
  refine c_regionD (by kernel_rfl) (by kernel_rfl) hx10 ?_
  refine q_step (v := .agg #[.int .i64 v2.Sign, .slice as1 ns1 cs1]) rfl rfl rfl rfl (fun _ hC => ?_) ?_
  · obtain ⟨_, hleq, hq⟩ := hC
    refine r_loadBA (cs' := [.int .i64 v2.Sign, .slice as1 ns1 cs1]) ag24 sz24 rfl rfl hq rfl (i := 1) rfl rfl rfl (r_nil (qq rfl))
  obtain ⟨v7, hv7, hm⟩ := bind_some hm
  refine q_callG0 ent11 rfl rfl rfl rfl (fun _ _ hleq hq => big_Right_ok _ _ _ hv7 hq.sat (((((hs1.mono hF3).mono hF4).mono hF5).mono hF6).mono hleq)) ?_
  refine q_step (v := .bool (!v7)) rfl rfl rfl rfl (fun _ hC => ?_) ?_
  · obtain ⟨_, hleq, hq⟩ := hC
    refine r_not rfl rfl rfl (r_nil (qq rfl))
  refine q_step (v := .bool (!v7)) rfl rfl rfl rfl (fun _ hC => ?_) ?_
  · obtain ⟨_, hleq, hq⟩ := hC
    refine r_move rfl rfl rfl (r_nil (qq rfl))
  obtain ⟨v8, hb1, hm⟩ := bind_some hm
  refine q_mid 3 (fun a => Has 188 a [(0, .int .i64 ax1), (1, .int .i64 b1), (5, .bool v1), (6, .pointer (some ⟨b2, 0, none⟩)), (7, .pointer (some ⟨b3, 0, none⟩)), (8, .int .i64 v4.1), (10, .int .i64 v6.1), (11, .bool v6.2), (48, .bool v8)]) ?_ ?_
  · intro a hax1
    refine qr_apply hax1 ?_
    refine q_step (v := .bool v8) rfl rfl rfl rfl (fun _ hC => ?_) ?_
    · obtain ⟨_, hleq, hq⟩ := hC
      refine r_move rfl rfl rfl (r_nil (qq rfl))
    obtain ⟨v9, hb2, hm⟩ := bind_some hm
    refine q_mid 4 (fun a => Has 188 a [(0, .int .i64 ax1), (1, .int .i64 b1), (5, .bool v1), (6, .pointer (some ⟨b2, 0, none⟩)), (7, .pointer (some ⟨b3, 0, none⟩)), (10, .int .i64 v6.1), (11, .bool v6.2), (53, .bool v9)]) ?_ ?_
    · intro a hax2
      refine qr_apply hax2 ?_
      refine q_step (v := .bool v9) rfl rfl rfl rfl (fun _ hC => ?_) ?_
      · obtain ⟨_, hleq, hq⟩ := hC
        refine r_move rfl rfl rfl (r_nil (qq rfl))
      obtain ⟨v10, hb3, hm⟩ := bind_some hm
      refine q_mid 5 (fun a => Has 188 a [(0, .int .i64 ax1), (1, .int .i64 b1), (5, .bool v1), (6, .pointer (some ⟨b2, 0, none⟩)), (7, .pointer (some ⟨b3, 0, none⟩)), (10, .int .i64 v6.1), (11, .bool v6.2), (59, .bool v10)]) ?_ ?_
      · intro a hax3
        refine qr_apply hax3 ?_
        refine q_step (v := .bool v10) rfl rfl rfl rfl (fun _ hC => ?_) ?_
        · obtain ⟨_, hleq, hq⟩ := hC
          refine r_move rfl rfl rfl (r_nil (qq rfl))
        obtain ⟨v11, hb4, hm⟩ := bind_some hm
        refine q_mid 8 (fun a => Has 188 a [(0, .int .i64 ax1), (1, .int .i64 b1), (5, .bool v1), (6, .pointer (some ⟨b2, 0, none⟩)), (7, .pointer (some ⟨b3, 0, none⟩)), (68, .bool v11)]) ?_ ?_
        · intro a hax4
          refine qr_apply hax4 ?_
          refine q_step (v := .bool v11) rfl rfl rfl rfl (fun _ hC => ?_) ?_
          · obtain ⟨_, hleq, hq⟩ := hC
            refine r_move rfl rfl rfl (r_nil (qq rfl))
          obtain ⟨v12, hb5, hm⟩ := bind_some hm
          refine q_mid 10 (fun a => Has 188 a [(0, .int .i64 ax1), (1, .int .i64 b1), (5, .bool v1), (6, .pointer (some ⟨b2, 0, none⟩)), (7, .pointer (some ⟨b3, 0, none⟩)), (79, .bool v12)]) ?_ ?_
          · intro a hax5
            refine qr_apply hax5 ?_
            refine q_end ?_
            rintro wx16 ⟨Fx7, hF7, hx11⟩
            refine q_then ?_
            rcases cond_some hm with ⟨hb6, hm⟩ | ⟨hb6, hm⟩
            · refine c_lit 79 rfl hb6 ?_
              refine c_true rfl ?_
              refine c_seq ?_
              refine c_region ?_
              refine r_assign rfl rfl rfl ?_
              refine r_nil ?_
              refine q_then ?_
              refine c_ret ?_
              refine q_then_ret ?_
              refine b_ret1 rfl rfl ?_
              obtain rfl := Option.some.inj hm
              exact ⟨_, _, _, rfl, hx11.pick [] (by decide) rfl, rfl, rfl⟩
            · refine c_lit 79 rfl hb6 ?_
              refine c_false rfl ?_
              refine c_skip ?_
              refine q_then ?_
              refine c_seq ?_
              refine c_region ?_
              refine r_assign rfl rfl rfl ?_
              refine r_nil ?_
              refine q_then ?_
              refine c_seq ?_
              refine c_seq ?_
              refine c_region ?_
              refine r_move rfl rfl rfl ?_
              refine r_move rfl rfl rfl ?_
              refine r_bin rfl rfl rfl rfl rfl ?_
              refine r_nil ?_
              refine q_then ?_
              obtain ⟨order1, hb7, hm⟩ := bind_some hm
              refine c_midT (fun a w' => wx16 = w' ∧ Has 188 a [(0, .int .i64 ax1), (1, .int .i64 b1), (5, .bool v1), (6, .pointer (some ⟨b2, 0, none⟩)), (7, .pointer (some ⟨b3, 0, none⟩)), (12, .int .i64 order1)]) ?_ ?_
              · rintro a wx17 ⟨rfl, hax6⟩
                refine cw_apply hax6 ?_
                refine c_seq ?_
                refine c_seq ?_
                refine c_region ?_
                refine r_move rfl rfl rfl ?_
                refine r_move rfl rfl rfl ?_
                refine r_bin rfl rfl rfl rfl rfl ?_
                refine r_nil ?_
                refine q_then ?_
                obtain ⟨order2, hb8, hm⟩ := bind_some hm
                refine c_midT (fun a w' => wx16 = w' ∧ Has 188 a [(0, .int .i64 ax1), (1, .int .i64 b1), (5, .bool v1), (6, .pointer (some ⟨b2, 0, none⟩)), (7, .pointer (some ⟨b3, 0, none⟩)), (12, .int .i64 order2)]) ?_ ?_
                · rintro a wx18 ⟨rfl, hax7⟩
                  refine cw_apply hax7 ?_
                  refine c_seq ?_
                  refine c_region ?_
                  refine r_loadBA (cs' := [.int .i64 v2.Sign, .slice as1 ns1 cs1]) ag24 sz24 rfl rfl hx11 rfl (i := 1) rfl rfl rfl ?_
                  refine r_loadBA (cs' := [.int .i64 v3.Sign, .slice as2 ns2 cs2]) ag24 sz24 rfl rfl hx11 rfl (i := 0) rfl rfl rfl ?_
                  obtain ⟨v13, hv8, hm⟩ := bind_some hm
                  refine r_callG0 ent20 rfl rfl rfl rfl hx11 (big_Add_ok _ _ _ _ hv8 hx11.sat (((((hs1.mono hF3).mono hF4).mono hF5).mono hF6).mono hF7) ((((hs2.mono hF4).mono hF5).mono hF6).mono hF7)) ?_
                  rintro _ Fx8 _ wx19 hF8 hx12 ⟨as4, ns4, cs4, rfl, rfl, hs4⟩
                  refine r_move rfl rfl rfl ?_
                  refine r_extract rfl rfl rfl rfl ?_
                  refine r_extract rfl rfl rfl rfl ?_
                  refine r_alloc ze24 rfl rfl rfl hx12 ?_
                  intro b4 wx20 hx13
                  refine r_store sz24 rfl hx13 rfl rfl rfl rfl (i := 0) rfl rfl rfl rfl ?_
                  intro wx21 hx14
                  refine r_assign rfl rfl rfl ?_
                  refine r_nil ?_
                  refine q_then ?_
                  refine c_seq ?_
                  refine c_region ?_
                  refine r_loadBA (cs' := [.int .i64 v2.Sign, .slice as1 ns1 cs1]) ag24 sz24 rfl rfl hx14 rfl (i := 2) rfl rfl rfl ?_
                  refine r_loadBA (cs' := [.int .i64 v3.Sign, .slice as2 ns2 cs2]) ag24 sz24 rfl rfl hx14 rfl (i := 1) rfl rfl rfl ?_
                  obtain ⟨v14, hv9, hm⟩ := bind_some hm
                  refine r_callG0 ent22 rfl rfl rfl rfl hx14 (big_Sub_ok _ _ _ _ hv9 hx14.sat ((((((hs1.mono hF3).mono hF4).mono hF5).mono hF6).mono hF7).mono hF8) (((((hs2.mono hF4).mono hF5).mono hF6).mono hF7).mono hF8)) ?_
                  rintro _ Fx9 _ wx22 hF9 hx15 ⟨as5, ns5, cs5, rfl, rfl, hs5⟩
                  refine r_move rfl rfl rfl ?_
                  refine r_extract rfl rfl rfl rfl ?_
                  refine r_extract rfl rfl rfl rfl ?_
                  refine r_alloc ze24 rfl rfl rfl hx15 ?_
                  intro b5 wx23 hx16
                  refine r_store sz24 rfl hx16 rfl rfl rfl rfl (i := 0) rfl rfl rfl rfl ?_
                  intro wx24 hx17
                  refine r_assign rfl rfl rfl ?_
                  refine r_nil ?_
                  refine q_then ?_
                  refine c_seq ?_
                  refine c_region ?_
                  refine r_loadBA (cs' := [.int .i64 v2.Sign, .slice as1 ns1 cs1]) ag24 sz24 rfl rfl hx17 rfl (i := 3) rfl rfl rfl ?_
                  refine r_loadBA (cs' := [.int .i64 v3.Sign, .slice as2 ns2 cs2]) ag24 sz24 rfl rfl hx17 rfl (i := 2) rfl rfl rfl ?_
                  obtain ⟨v15, hv10, hm⟩ := bind_some hm
                  refine r_callG0 ent16 rfl rfl rfl rfl hx17 (big_Mul_ok _ _ _ _ hv10 hx17.sat (((((((hs1.mono hF3).mono hF4).mono hF5).mono hF6).mono hF7).mono hF8).mono hF9) ((((((hs2.mono hF4).mono hF5).mono hF6).mono hF7).mono hF8).mono hF9)) ?_
                  rintro _ Fx10 _ wx25 hF10 hx18 ⟨as6, ns6, cs6, rfl, rfl, hs6⟩
                  refine r_move rfl rfl rfl ?_
                  refine r_extract rfl rfl rfl rfl ?_
                  refine r_extract rfl rfl rfl rfl ?_
                  refine r_alloc ze24 rfl rfl rfl hx18 ?_
                  intro b6 wx26 hx19
                  refine r_store sz24 rfl hx19 rfl rfl rfl rfl (i := 0) rfl rfl rfl rfl ?_
                  intro wx27 hx20
                  refine r_assign rfl rfl rfl ?_
                  refine r_nil ?_
                  refine q_then ?_
                  refine c_seq ?_
                  refine c_seq ?_
                  refine c_region ?_
                  refine r_move rfl rfl rfl ?_
                  refine r_bin rfl rfl rfl rfl rfl ?_
                  refine r_move rfl rfl rfl ?_
                  obtain ⟨v16, hb9, hm⟩ := bind_some hm
                  refine r_mid 3 (fun a w' => wx27 = w' ∧ Has 188 a [(0, .int .i64 ax1), (1, .int .i64 b1), (5, .bool v1), (6, .pointer (some ⟨b2, 0, none⟩)), (7, .pointer (some ⟨b3, 0, none⟩)), (12, .int .i64 order2), (13, .pointer (some ⟨b4, 0, none⟩)), (15, .pointer (some ⟨b5, 0, none⟩)), (17, .pointer (some ⟨b6, 0, none⟩)), (18, .int .i64 v15.2), (109, .bool v16)]) ?_ ?_
                  · rintro a wx28 ⟨rfl, hax8⟩
                    refine rw_apply hax8 ?_
                    refine r_move rfl rfl rfl ?_
                    obtain ⟨v17, hb10, hm⟩ := bind_some hm
                    refine r_mid 3 (fun a w' => wx27 = w' ∧ Has 188 a [(0, .int .i64 ax1), (1, .int .i64 b1), (5, .bool v1), (6, .pointer (some ⟨b2, 0, none⟩)), (7, .pointer (some ⟨b3, 0, none⟩)), (12, .int .i64 order2), (13, .pointer (some ⟨b4, 0, none⟩)), (15, .pointer (some ⟨b5, 0, none⟩)), (17, .pointer (some ⟨b6, 0, none⟩)), (113, .bool v17)]) ?_ ?_
                    · rintro a wx29 ⟨rfl, hax9⟩
                      refine rw_apply hax9 ?_
                      refine r_move rfl rfl rfl ?_
                      obtain ⟨v18, hb11, hm⟩ := bind_some hm
                      refine r_mid 6 (fun a w' => ∃ (Fx11 : Frz), Frz.le Fx10 Fx11 ∧ HS F w [] Fx11 [.box b6 24 [.int .i64 v15.1.Sign, .slice as6 ns6 cs6], .box b5 24 [.int .i64 v14.1.Sign, .slice as5 ns5 cs5], .box b4 24 [.int .i64 v13.1.Sign, .slice as4 ns4 cs4], .box b3 24 [.int .i64 v3.Sign, .slice as2 ns2 cs2], .box b2 24 [.int .i64 v2.Sign, .slice as1 ns1 cs1]] w' ∧ Has 188 a [(0, .int .i64 ax1), (1, .int .i64 b1), (5, .bool v1), (13, .pointer (some ⟨b4, 0, none⟩)), (15, .pointer (some ⟨b5, 0, none⟩)), (17, .pointer (some ⟨b6, 0, none⟩)), (120, .bool v18)]) ?_ ?_
                      · rintro a wx30 ⟨Fx11, hF11, hx21, hax10⟩
                        refine rw_apply hax10 ?_
                        refine r_nil ?_
                        refine q_then ?_
                        rcases cond_some hm with ⟨hb12, hm⟩ | ⟨hb12, hm⟩
                        · refine c_lit 120 rfl hb12 ?_
                          refine c_true rfl ?_
                          refine c_seq ?_
                          refine c_region ?_
                          refine r_assign rfl rfl rfl ?_
                          refine r_nil ?_
                          refine q_then ?_
                          refine c_ret ?_
                          refine q_then_ret ?_
                          refine b_ret1 rfl rfl ?_
                          obtain rfl := Option.some.inj hm
                          exact ⟨_, _, _, rfl, hx21.pick [] (by decide) rfl, rfl, rfl⟩
                        · refine c_lit 120 rfl hb12 ?_
                          refine c_false rfl ?_
                          refine c_skip ?_
                          refine q_then ?_
                          refine c_seq ?_
                          refine c_region ?_
                          refine r_assign rfl rfl rfl ?_
                          refine r_nil ?_
                          refine q_then ?_
                          refine c_seq ?_
                          refine c_seq ?_
                          refine c_region ?_
                          refine r_move rfl rfl rfl ?_
                          refine r_move rfl rfl rfl ?_
                          refine r_neg rfl rfl rfl ?_
                          refine r_bin rfl rfl rfl rfl rfl ?_
                          refine r_move rfl rfl rfl ?_
                          obtain ⟨v19, hb13, hm⟩ := bind_some hm
                          refine r_mid 4 (fun a w' => wx30 = w' ∧ Has 188 a [(0, .int .i64 ax1), (1, .int .i64 b1), (5, .bool v1), (13, .pointer (some ⟨b4, 0, none⟩)), (15, .pointer (some ⟨b5, 0, none⟩)), (17, .pointer (some ⟨b6, 0, none⟩)), (19, .int .i64 1073741824), (129, .bool v19)]) ?_ ?_
                          · rintro a wx31 ⟨rfl, hax11⟩
                            refine rw_apply hax11 ?_
                            refine r_move rfl rfl rfl ?_
                            obtain ⟨v20, hb14, hm⟩ := bind_some hm
                            refine r_mid 5 (fun a w' => wx30 = w' ∧ Has 188 a [(0, .int .i64 ax1), (1, .int .i64 b1), (5, .bool v1), (13, .pointer (some ⟨b4, 0, none⟩)), (15, .pointer (some ⟨b5, 0, none⟩)), (17, .pointer (some ⟨b6, 0, none⟩)), (19, .int .i64 1073741824), (135, .bool v20)]) ?_ ?_
                            · rintro a wx32 ⟨rfl, hax12⟩
                              refine rw_apply hax12 ?_
                              refine r_move rfl rfl rfl ?_
                              obtain ⟨v21, hb15, hm⟩ := bind_some hm
                              refine r_mid 4 (fun a w' => wx30 = w' ∧ Has 188 a [(0, .int .i64 ax1), (1, .int .i64 b1), (5, .bool v1), (13, .pointer (some ⟨b4, 0, none⟩)), (15, .pointer (some ⟨b5, 0, none⟩)), (17, .pointer (some ⟨b6, 0, none⟩)), (140, .bool v21)]) ?_ ?_
                              · rintro a wx33 ⟨rfl, hax13⟩
                                refine rw_apply hax13 ?_
                                refine r_nil ?_
                                refine q_then ?_
                                rcases cond_some hm with ⟨hb16, hm⟩ | ⟨hb16, hm⟩
                                · refine c_lit 140 rfl hb16 ?_
                                  refine c_true rfl ?_
                                  refine c_seq ?_
                                  refine c_region ?_
                                  refine r_loadBA (cs' := [.int .i64 v13.1.Sign, .slice as4 ns4 cs4]) ag24 sz24 rfl rfl hx21 rfl (i := 2) rfl rfl rfl ?_
                                  obtain ⟨v22, hv11, hm⟩ := bind_some hm
                                  refine r_callG0 ent24 rfl rfl rfl rfl hx21 (big_Int_ok _ _ _ hv11 hx21.sat (((hs4.mono hF9).mono hF10).mono hF11)) ?_
                                  rintro _ Fx12 _ wx34 hF12 hx22 ⟨rfl, rfl⟩
                                  refine r_move rfl rfl rfl ?_
                                  refine r_extract rfl rfl rfl rfl ?_
                                  refine r_extract rfl rfl rfl rfl ?_
                                  refine r_assign rfl rfl rfl ?_
                                  refine r_assign rfl rfl rfl ?_
                                  refine r_nil ?_
                                  refine q_then ?_
                                  refine c_seq ?_
                                  refine c_region ?_
                                  refine r_loadBA (cs' := [.int .i64 v14.1.Sign, .slice as5 ns5 cs5]) ag24 sz24 rfl rfl hx22 rfl (i := 1) rfl rfl rfl ?_
                                  obtain ⟨v23, hv12, hm⟩ := bind_some hm
                                  refine r_callG0 ent24 rfl rfl rfl rfl hx22 (big_Int_ok _ _ _ hv12 hx22.sat (((hs5.mono hF10).mono hF11).mono hF12)) ?_
                                  rintro _ Fx13 _ wx35 hF13 hx23 ⟨rfl, rfl⟩
                                  refine r_move rfl rfl rfl ?_
                                  refine r_extract rfl rfl rfl rfl ?_
                                  refine r_extract rfl rfl rfl rfl ?_
                                  refine r_assign rfl rfl rfl ?_
                                  refine r_assign rfl rfl rfl ?_
                                  refine r_nil ?_
                                  refine q_then ?_
                                  refine c_seq ?_
                                  refine c_region ?_
                                  refine r_loadBA (cs' := [.int .i64 v15.1.Sign, .slice as6 ns6 cs6]) ag24 sz24 rfl rfl hx23 rfl (i := 0) rfl rfl rfl ?_
                                  obtain ⟨v24, hv13, hm⟩ := bind_some hm
                                  refine r_callG0 ent24 rfl rfl rfl rfl hx23 (big_Int_ok _ _ _ hv13 hx23.sat (((hs6.mono hF11).mono hF12).mono hF13)) ?_
                                  rintro _ Fx14 _ wx36 hF14 hx24 ⟨rfl, rfl⟩
                                  refine r_move rfl rfl rfl ?_
                                  refine r_extract rfl rfl rfl rfl ?_
                                  refine r_extract rfl rfl rfl rfl ?_
                                  refine r_assign rfl rfl rfl ?_
                                  refine r_assign rfl rfl rfl ?_
                                  refine r_nil ?_
                                  refine q_then ?_
                                  refine c_seq ?_
                                  refine c_region ?_
                                  refine r_move rfl rfl rfl ?_
                                  refine r_move rfl rfl rfl ?_
                                  obtain ⟨v25, hb17, hm⟩ := bind_some hm
                                  refine r_mid 2 (fun a w' => wx36 = w' ∧ Has 188 a [(0, .int .i64 ax1), (1, .int .i64 b1), (20, .int .i64 v22.1), (22, .int .i64 v23.1), (23, .bool v23.2), (24, .int .i64 v24.1), (25, .bool v24.2), (159, .bool v25)]) ?_ ?_
                                  · rintro a wx37 ⟨rfl, hax14⟩
                                    refine rw_apply hax14 ?_
                                    refine r_move rfl rfl rfl ?_
                                    obtain ⟨v26, hb18, hm⟩ := bind_some hm
                                    refine r_mid 2 (fun a w' => wx36 = w' ∧ Has 188 a [(0, .int .i64 ax1), (1, .int .i64 b1), (20, .int .i64 v22.1), (22, .int .i64 v23.1), (24, .int .i64 v24.1), (25, .bool v24.2), (162, .bool v26)]) ?_ ?_
                                    · rintro a wx38 ⟨rfl, hax15⟩
                                      refine rw_apply hax15 ?_
                                      refine r_move rfl rfl rfl ?_
                                      obtain ⟨v27, hb19, hm⟩ := bind_some hm
                                      refine r_mid 2 (fun a w' => wx36 = w' ∧ Has 188 a [(0, .int .i64 ax1), (1, .int .i64 b1), (20, .int .i64 v22.1), (22, .int .i64 v23.1), (24, .int .i64 v24.1), (165, .bool v27)]) ?_ ?_
                                      · rintro a wx39 ⟨rfl, hax16⟩
                                        refine rw_apply hax16 ?_
                                        refine r_move rfl rfl rfl ?_
                                        obtain ⟨v28, hb20, hm⟩ := bind_some hm
                                        refine r_mid 6 (fun a w' => wx36 = w' ∧ Has 188 a [(0, .int .i64 ax1), (1, .int .i64 b1), (22, .int .i64 v23.1), (24, .int .i64 v24.1), (172, .bool v28)]) ?_ ?_
                                        · rintro a wx40 ⟨rfl, hax17⟩
                                          refine rw_apply hax17 ?_
                                          refine r_move rfl rfl rfl ?_
                                          obtain ⟨v29, hb21, hm⟩ := bind_some hm
                                          refine r_mid 6 (fun a w' => wx36 = w' ∧ Has 188 a [(0, .int .i64 ax1), (1, .int .i64 b1), (24, .int .i64 v24.1), (179, .bool v29)]) ?_ ?_
                                          · rintro a wx41 ⟨rfl, hax18⟩
                                            refine rw_apply hax18 ?_
                                            refine r_move rfl rfl rfl ?_
                                            obtain ⟨v30, hb22, hm⟩ := bind_some hm
                                            refine r_mid 6 (fun a w' => wx36 = w' ∧ Has 188 a [(186, .bool v30)]) ?_ ?_
                                            · rintro a wx42 ⟨rfl, hax19⟩
                                              refine rw_apply hax19 ?_
                                              refine r_assign rfl rfl rfl ?_
                                              refine r_nil ?_
                                              refine q_then ?_
                                              refine c_ret ?_
                                              refine q_then_ret ?_
                                              refine b_ret1 rfl rfl ?_
                                              obtain rfl := Option.some.inj hm
                                              exact ⟨_, _, _, rfl, hx24.pick [] (by decide) rfl, rfl, rfl⟩
                                            · clear hm
                                              rcases cond_some hb22 with ⟨hb23, hb22⟩ | ⟨hb23, hb22⟩
                                              · refine r_lit 180 rfl hb23 ?_
                                                refine r_move rfl rfl rfl ?_
                                                refine r_move rfl rfl rfl ?_
                                                refine r_move rfl rfl rfl ?_
                                                refine r_bin rfl rfl rfl rfl rfl ?_
                                                refine r_bin rfl rfl rfl rfl rfl ?_
                                                refine r_pick_true rfl rfl rfl rfl ?_
                                                refine r_nil ?_
                                                refine q_next (fun a ha => ?_)
                                                cases hb22
                                                exact ⟨rfl, ha.cut (l := [186]) rfl⟩
                                              · refine r_lit 180 rfl hb23 ?_
                                                refine r_off rfl (by decide) rfl ?_
                                                refine r_off rfl (by decide) rfl ?_
                                                refine r_off rfl (by decide) rfl ?_
                                                refine r_off rfl (by decide) rfl ?_
                                                refine r_off rfl (by decide) rfl ?_
                                                refine r_pick_false rfl rfl rfl rfl ?_
                                                refine r_nil ?_
                                                refine q_next (fun a ha => ?_)
                                                cases hb22
                                                exact ⟨rfl, ha.cut (l := [186]) rfl⟩
                                          · clear hm
                                            rcases cond_some hb21 with ⟨hb24, hb21⟩ | ⟨hb24, hb21⟩
                                            · refine r_lit 173 rfl hb24 ?_
                                              refine r_move rfl rfl rfl ?_
                                              refine r_move rfl rfl rfl ?_
                                              refine r_move rfl rfl rfl ?_
                                              refine r_bin rfl rfl rfl rfl rfl ?_
                                              refine r_bin rfl rfl rfl rfl rfl ?_
                                              refine r_pick_true rfl rfl rfl rfl ?_
                                              refine r_nil ?_
                                              refine q_next (fun a ha => ?_)
                                              cases hb21
                                              exact ⟨rfl, ha.cut (l := [0, 1, 24, 179]) rfl⟩
                                            · refine r_lit 173 rfl hb24 ?_
                                              refine r_off rfl (by decide) rfl ?_
                                              refine r_off rfl (by decide) rfl ?_
                                              refine r_off rfl (by decide) rfl ?_
                                              refine r_off rfl (by decide) rfl ?_
                                              refine r_off rfl (by decide) rfl ?_
                                              refine r_pick_false rfl rfl rfl rfl ?_
                                              refine r_nil ?_
                                              refine q_next (fun a ha => ?_)
                                              cases hb21
                                              exact ⟨rfl, ha.cut (l := [0, 1, 24, 179]) rfl⟩
                                        · clear hm
                                          rcases cond_some hb20 with ⟨hb25, hb20⟩ | ⟨hb25, hb20⟩
                                          · refine r_lit 166 rfl hb25 ?_
                                            refine r_move rfl rfl rfl ?_
                                            refine r_move rfl rfl rfl ?_
                                            refine r_move rfl rfl rfl ?_
                                            refine r_bin rfl rfl rfl rfl rfl ?_
                                            refine r_bin rfl rfl rfl rfl rfl ?_
                                            refine r_pick_true rfl rfl rfl rfl ?_
                                            refine r_nil ?_
                                            refine q_next (fun a ha => ?_)
                                            cases hb20
                                            exact ⟨rfl, ha.cut (l := [0, 1, 22, 24, 172]) rfl⟩
                                          · refine r_lit 166 rfl hb25 ?_
                                            refine r_off rfl (by decide) rfl ?_
                                            refine r_off rfl (by decide) rfl ?_
                                            refine r_off rfl (by decide) rfl ?_
                                            refine r_off rfl (by decide) rfl ?_
                                            refine r_off rfl (by decide) rfl ?_
                                            refine r_pick_false rfl rfl rfl rfl ?_
                                            refine r_nil ?_
                                            refine q_next (fun a ha => ?_)
                                            cases hb20
                                            exact ⟨rfl, ha.cut (l := [0, 1, 22, 24, 172]) rfl⟩
                                      · clear hm
                                        rcases cond_some hb19 with ⟨hb26, hb19⟩ | ⟨hb26, hb19⟩
                                        · refine r_lit 163 rfl hb26 ?_
                                          refine r_move rfl rfl rfl ?_
                                          refine r_pick_true rfl rfl rfl rfl ?_
                                          refine r_nil ?_
                                          refine q_next (fun a ha => ?_)
                                          cases hb19
                                          exact ⟨rfl, ha.cut (l := [0, 1, 20, 22, 24, 165]) rfl⟩
                                        · refine r_lit 163 rfl hb26 ?_
                                          refine r_off rfl (by decide) rfl ?_
                                          refine r_pick_false rfl rfl rfl rfl ?_
                                          refine r_nil ?_
                                          refine q_next (fun a ha => ?_)
                                          cases hb19
                                          exact ⟨rfl, ha.cut (l := [0, 1, 20, 22, 24, 165]) rfl⟩
                                    · clear hm
                                      rcases cond_some hb18 with ⟨hb27, hb18⟩ | ⟨hb27, hb18⟩
                                      · refine r_lit 160 rfl hb27 ?_
                                        refine r_move rfl rfl rfl ?_
                                        refine r_pick_true rfl rfl rfl rfl ?_
                                        refine r_nil ?_
                                        refine q_next (fun a ha => ?_)
                                        cases hb18
                                        exact ⟨rfl, ha.cut (l := [0, 1, 20, 22, 24, 25, 162]) rfl⟩
                                      · refine r_lit 160 rfl hb27 ?_
                                        refine r_off rfl (by decide) rfl ?_
                                        refine r_pick_false rfl rfl rfl rfl ?_
                                        refine r_nil ?_
                                        refine q_next (fun a ha => ?_)
                                        cases hb18
                                        exact ⟨rfl, ha.cut (l := [0, 1, 20, 22, 24, 25, 162]) rfl⟩
                                  · clear hm
                                    rcases cond_some hb17 with ⟨hb28, hb17⟩ | ⟨hb28, hb17⟩
                                    · refine r_lit 157 rfl hb28 ?_
                                      refine r_move rfl rfl rfl ?_
                                      refine r_pick_true rfl rfl rfl rfl ?_
                                      refine r_nil ?_
                                      refine q_next (fun a ha => ?_)
                                      cases hb17
                                      exact ⟨rfl, ha.cut (l := [0, 1, 20, 22, 23, 24, 25, 159]) rfl⟩
                                    · refine r_lit 157 rfl hb28 ?_
                                      refine r_off rfl (by decide) rfl ?_
                                      refine r_pick_false rfl rfl rfl rfl ?_
                                      refine r_nil ?_
                                      refine q_next (fun a ha => ?_)
                                      cases hb17
                                      exact ⟨rfl, ha.cut (l := [0, 1, 20, 22, 23, 24, 25, 159]) rfl⟩
                                · refine c_lit 140 rfl hb16 ?_
                                  refine c_false rfl ?_
                                  refine c_skip ?_
                                  refine q_then ?_
                                  refine c_seq ?_
                                  refine c_region ?_
                                  refine r_move rfl rfl rfl ?_
                                  refine r_assign rfl rfl rfl ?_
                                  refine r_nil ?_
                                  refine q_then ?_
                                  refine c_ret ?_
                                  refine b_ret1 rfl rfl ?_
                                  obtain rfl := Option.some.inj hm
                                  exact ⟨_, _, _, rfl, hx21.pick [] (by decide) rfl, rfl, rfl⟩
                              · clear hm
                                rcases cond_some hb15 with ⟨hb29, hb15⟩ | ⟨hb29, hb15⟩
                                · refine r_lit 136 rfl hb29 ?_
                                  refine r_move rfl rfl rfl ?_
                                  refine r_move rfl rfl rfl ?_
                                  refine r_bin rfl rfl rfl rfl rfl ?_
                                  refine r_pick_true rfl rfl rfl rfl ?_
                                  refine r_nil ?_
                                  refine q_next (fun a ha => ?_)
                                  cases hb15
                                  exact ⟨rfl, ha.cut (l := [0, 1, 5, 13, 15, 17, 140]) rfl⟩
                                · refine r_lit 136 rfl hb29 ?_
                                  refine r_off rfl (by decide) rfl ?_
                                  refine r_off rfl (by decide) rfl ?_
                                  refine r_off rfl (by decide) rfl ?_
                                  refine r_pick_false rfl rfl rfl rfl ?_
                                  refine r_nil ?_
                                  refine q_next (fun a ha => ?_)
                                  cases hb15
                                  exact ⟨rfl, ha.cut (l := [0, 1, 5, 13, 15, 17, 140]) rfl⟩
                            · clear hm
                              rcases cond_some hb14 with ⟨hb30, hb14⟩ | ⟨hb30, hb14⟩
                              · refine r_lit 130 rfl hb30 ?_
                                refine r_move rfl rfl rfl ?_
                                refine r_move rfl rfl rfl ?_
                                refine r_neg rfl rfl rfl ?_
                                refine r_bin rfl rfl rfl rfl rfl ?_
                                refine r_pick_true rfl rfl rfl rfl ?_
                                refine r_nil ?_
                                refine q_next (fun a ha => ?_)
                                cases hb14
                                exact ⟨rfl, ha.cut (l := [0, 1, 5, 13, 15, 17, 19, 135]) rfl⟩
                              · refine r_lit 130 rfl hb30 ?_
                                refine r_off rfl (by decide) rfl ?_
                                refine r_off rfl (by decide) rfl ?_
                                refine r_off rfl (by decide) rfl ?_
                                refine r_off rfl (by decide) rfl ?_
                                refine r_pick_false rfl rfl rfl rfl ?_
                                refine r_nil ?_
                                refine q_next (fun a ha => ?_)
                                cases hb14
                                exact ⟨rfl, ha.cut (l := [0, 1, 5, 13, 15, 17, 19, 135]) rfl⟩
                          · clear hm
                            rcases cond_some hb13 with ⟨hb31, hb13⟩ | ⟨hb31, hb13⟩
                            · refine r_lit 125 rfl hb31 ?_
                              refine r_move rfl rfl rfl ?_
                              refine r_move rfl rfl rfl ?_
                              refine r_bin rfl rfl rfl rfl rfl ?_
                              refine r_pick_true rfl rfl rfl rfl ?_
                              refine r_nil ?_
                              refine q_next (fun a ha => ?_)
                              cases hb13
                              exact ⟨rfl, ha.cut (l := [0, 1, 5, 13, 15, 17, 19, 129]) rfl⟩
                            · refine r_lit 125 rfl hb31 ?_
                              refine r_off rfl (by decide) rfl ?_
                              refine r_off rfl (by decide) rfl ?_
                              refine r_off rfl (by decide) rfl ?_
                              refine r_pick_false rfl rfl rfl rfl ?_
                              refine r_nil ?_
                              refine q_next (fun a ha => ?_)
                              cases hb13
                              exact ⟨rfl, ha.cut (l := [0, 1, 5, 13, 15, 17, 19, 129]) rfl⟩
                      · clear hm
                        rcases cond_some hb11 with ⟨hb32, hb11⟩ | ⟨hb32, hb11⟩
                        · refine r_lit 114 rfl hb32 ?_
                          refine r_off rfl (by decide) rfl ?_
                          refine r_off rfl (by decide) rfl ?_
                          refine r_off rfl (by decide) rfl ?_
                          refine r_off rfl (by decide) rfl ?_
                          refine r_off rfl (by decide) rfl ?_
                          refine r_pick_true rfl rfl rfl rfl ?_
                          refine r_nil ?_
                          refine q_next (fun a ha => ?_)
                          cases hb11
                          exact ⟨_, Frz.refl _, hx20.pick [0, 1, 2, 3, 4] (by decide) rfl, ha.cut (l := [0, 1, 5, 13, 15, 17, 120]) rfl⟩
                        · refine r_lit 114 rfl hb32 ?_
                          refine r_loadBA (cs' := [.int .i64 v2.Sign, .slice as1 ns1 cs1]) ag24 sz24 rfl rfl hx20 rfl (i := 4) rfl rfl rfl ?_
                          refine r_loadBA (cs' := [.int .i64 v3.Sign, .slice as2 ns2 cs2]) ag24 sz24 rfl rfl hx20 rfl (i := 3) rfl rfl rfl ?_
                          obtain ⟨v31, hv14, hb11⟩ := bind_some hb11
                          refine r_callG0 ent23 rfl rfl rfl rfl hx20 (big_Compare_ok _ _ _ _ hv14 hx20.sat ((((((((hs1.mono hF3).mono hF4).mono hF5).mono hF6).mono hF7).mono hF8).mono hF9).mono hF10) (((((((hs2.mono hF4).mono hF5).mono hF6).mono hF7).mono hF8).mono hF9).mono hF10)) ?_
                          rintro _ Fx15 _ wx43 hF15 hx25 ⟨rfl, rfl⟩
                          refine r_move rfl rfl rfl ?_
                          refine r_bin rfl rfl rfl rfl rfl ?_
                          refine r_pick_false rfl rfl rfl rfl ?_
                          refine r_nil ?_
                          refine q_next (fun a ha => ?_)
                          cases hb11
                          exact ⟨_, hF15, hx25.pick [0, 1, 2, 3, 4] (by decide) rfl, ha.cut (l := [0, 1, 5, 13, 15, 17, 120]) rfl⟩
                    · clear hm
                      rcases cond_some hb10 with ⟨hb33, hb10⟩ | ⟨hb33, hb10⟩
                      · refine r_lit 110 rfl hb33 ?_
                        refine r_off rfl (by decide) rfl ?_
                        refine r_off rfl (by decide) rfl ?_
                        refine r_pick_true rfl rfl rfl rfl ?_
                        refine r_nil ?_
                        refine q_next (fun a ha => ?_)
                        cases hb10
                        exact ⟨rfl, ha.cut (l := [0, 1, 5, 6, 7, 12, 13, 15, 17, 113]) rfl⟩
                      · refine r_lit 110 rfl hb33 ?_
                        refine r_move rfl rfl rfl ?_
                        refine r_bin rfl rfl rfl rfl rfl ?_
                        refine r_pick_false rfl rfl rfl rfl ?_
                        refine r_nil ?_
                        refine q_next (fun a ha => ?_)
                        cases hb10
                        exact ⟨rfl, ha.cut (l := [0, 1, 5, 6, 7, 12, 13, 15, 17, 113]) rfl⟩
                  · clear hm
                    rcases cond_some hb9 with ⟨hb34, hb9⟩ | ⟨hb34, hb9⟩
                    · refine r_lit 106 rfl hb34 ?_
                      refine r_off rfl (by decide) rfl ?_
                      refine r_off rfl (by decide) rfl ?_
                      refine r_pick_true rfl rfl rfl rfl ?_
                      refine r_nil ?_
                      refine q_next (fun a ha => ?_)
                      cases hb9
                      exact ⟨rfl, ha.cut (l := [0, 1, 5, 6, 7, 12, 13, 15, 17, 18, 109]) rfl⟩
                    · refine r_lit 106 rfl hb34 ?_
                      refine r_move rfl rfl rfl ?_
                      refine r_bin rfl rfl rfl rfl rfl ?_
                      refine r_pick_false rfl rfl rfl rfl ?_
                      refine r_nil ?_
                      refine q_next (fun a ha => ?_)
                      cases hb9
                      exact ⟨rfl, ha.cut (l := [0, 1, 5, 6, 7, 12, 13, 15, 17, 18, 109]) rfl⟩
                · clear hm
                  rcases cond_some hb8 with ⟨hb35, hb8⟩ | ⟨hb35, hb8⟩
                  · refine c_lit 85 rfl hb35 ?_
                    refine c_true rfl ?_
                    refine c_region ?_
                    refine r_assign rfl rfl rfl ?_
                    refine r_nil ?_
                    refine q_next (fun a ha => ?_)
                    cases hb8
                    exact ⟨rfl, ha.cut (l := [0, 1, 5, 6, 7, 12]) rfl⟩
                  · refine c_lit 85 rfl hb35 ?_
                    refine c_false rfl ?_
                    refine c_skip ?_
                    refine q_next (fun a ha => ?_)
                    cases hb8
                    exact ⟨rfl, ha.cut (l := [0, 1, 5, 6, 7, 12]) rfl⟩
              · clear hm
                rcases cond_some hb7 with ⟨hb36, hb7⟩ | ⟨hb36, hb7⟩
                · refine c_lit 82 rfl hb36 ?_
                  refine c_true rfl ?_
                  refine c_region ?_
                  refine r_assign rfl rfl rfl ?_
                  refine r_nil ?_
                  refine q_next (fun a ha => ?_)
                  cases hb7
                  exact ⟨rfl, ha.cut (l := [0, 1, 5, 6, 7, 12]) rfl⟩
                · refine c_lit 82 rfl hb36 ?_
                  refine c_false rfl ?_
                  refine c_skip ?_
                  refine q_next (fun a ha => ?_)
                  cases hb7
                  exact ⟨rfl, ha.cut (l := [0, 1, 5, 6, 7, 12]) rfl⟩
          · clear hm
            rcases cond_some hb5 with ⟨hb37, hb5⟩ | ⟨hb37, hb5⟩
            · refine q_lit 69 rfl hb37 ?_
              refine q_off rfl rfl rfl ?_
              refine q_off rfl rfl rfl ?_
              refine q_off rfl rfl rfl ?_
              refine q_off rfl rfl rfl ?_
              refine q_off rfl rfl rfl ?_
              refine q_off rfl rfl rfl ?_
              refine q_off rfl rfl rfl ?_
              refine q_off rfl rfl rfl ?_
              refine q_off rfl rfl rfl ?_
              refine q_step (v := .bool true) rfl rfl rfl rfl (fun _ hC => ?_) ?_
              · obtain ⟨_, hleq, hq⟩ := hC
                refine r_pick_true rfl rfl rfl rfl (r_nil (qq rfl))
              refine q_nil (fun a ha => ?_)
              cases hb5
              exact ha.cut (l := [0, 1, 5, 6, 7, 79]) rfl
            · refine q_lit 69 rfl hb37 ?_
              refine q_step (v := .agg #[.int .i64 v2.Sign, .slice as1 ns1 cs1]) rfl rfl rfl rfl (fun _ hC => ?_) ?_
              · obtain ⟨_, hleq, hq⟩ := hC
                refine r_loadBA (cs' := [.int .i64 v2.Sign, .slice as1 ns1 cs1]) ag24 sz24 rfl rfl hq rfl (i := 1) rfl rfl rfl (r_nil (qq rfl))
              obtain ⟨v32, hv15, hb5⟩ := bind_some hb5
              refine q_callG0 ent18 rfl rfl rfl rfl (fun _ _ hleq hq => big_Text_ok _ _ _ hv15 hq.sat (((((hs1.mono hF3).mono hF4).mono hF5).mono hF6).mono hleq) (((((((hg2.mono hF1).mono hF2).mono hF3).mono hF4).mono hF5).mono hF6).mono hleq)) ?_
              refine q_step (v := .agg #[.int .i64 v3.Sign, .slice as2 ns2 cs2]) rfl rfl rfl rfl (fun _ hC => ?_) ?_
              · obtain ⟨_, hleq, hq⟩ := hC
                refine r_loadBA (cs' := [.int .i64 v3.Sign, .slice as2 ns2 cs2]) ag24 sz24 rfl rfl hq rfl (i := 0) rfl rfl rfl (r_nil (qq rfl))
              obtain ⟨v33, hv16, hb5⟩ := bind_some hb5
              refine q_callG0 ent18 rfl rfl rfl rfl (fun _ _ hleq hq => big_Text_ok _ _ _ hv16 hq.sat ((((hs2.mono hF4).mono hF5).mono hF6).mono hleq) (((((((hg2.mono hF1).mono hF2).mono hF3).mono hF4).mono hF5).mono hF6).mono hleq)) ?_
              refine q_step (v := .bool (v32 == v33)) rfl rfl rfl rfl (fun _ hC => ?_) ?_
              · obtain ⟨_, hleq, hq⟩ := hC
                refine r_str rfl rfl rfl rfl rfl (r_nil (qq rfl))
              refine q_step (v := .int .i64 ax1) rfl rfl rfl rfl (fun _ hC => ?_) ?_
              · obtain ⟨_, hleq, hq⟩ := hC
                refine r_move rfl rfl rfl (r_nil (qq rfl))
              refine q_step (v := .int .i64 b1) rfl rfl rfl rfl (fun _ hC => ?_) ?_
              · obtain ⟨_, hleq, hq⟩ := hC
                refine r_move rfl rfl rfl (r_nil (qq rfl))
              refine q_step (v := .bool (ax1 == b1)) rfl rfl rfl rfl (fun _ hC => ?_) ?_
              · obtain ⟨_, hleq, hq⟩ := hC
                refine r_bin rfl rfl rfl rfl rfl (r_nil (qq rfl))
              refine q_step (v := .bool (!((v32 == v33) == (ax1 == b1)))) rfl rfl rfl rfl (fun _ hC => ?_) ?_
              · obtain ⟨_, hleq, hq⟩ := hC
                refine r_bne u4 rfl rfl rfl rfl (r_nil (qq rfl))
              refine q_step (v := .bool (!((v32 == v33) == (ax1 == b1)))) rfl rfl rfl rfl (fun _ hC => ?_) ?_
              · obtain ⟨_, hleq, hq⟩ := hC
                refine r_pick_false rfl rfl rfl rfl (r_nil (qq rfl))
              refine q_nil (fun a ha => ?_)
              cases hb5
              exact ha.cut (l := [0, 1, 5, 6, 7, 79]) rfl
        · clear hm
          rcases cond_some hb4 with ⟨hb38, hb4⟩ | ⟨hb38, hb4⟩
          · refine q_lit 60 rfl hb38 ?_
            refine q_off rfl rfl rfl ?_
            refine q_off rfl rfl rfl ?_
            refine q_off rfl rfl rfl ?_
            refine q_off rfl rfl rfl ?_
            refine q_off rfl rfl rfl ?_
            refine q_off rfl rfl rfl ?_
            refine q_off rfl rfl rfl ?_
            refine q_step (v := .bool true) rfl rfl rfl rfl (fun _ hC => ?_) ?_
            · obtain ⟨_, hleq, hq⟩ := hC
              refine r_pick_true rfl rfl rfl rfl (r_nil (qq rfl))
            refine q_nil (fun a ha => ?_)
            cases hb4
            exact ha.cut (l := [0, 1, 5, 6, 7, 68]) rfl
          · refine q_lit 60 rfl hb38 ?_
            refine q_step (v := .bool v6.2) rfl rfl rfl rfl (fun _ hC => ?_) ?_
            · obtain ⟨_, hleq, hq⟩ := hC
              refine r_move rfl rfl rfl (r_nil (qq rfl))
            refine q_step (v := .bool v6.2) rfl rfl rfl rfl (fun _ hC => ?_) ?_
            · obtain ⟨_, hleq, hq⟩ := hC
              refine r_move rfl rfl rfl (r_nil (qq rfl))
            obtain ⟨v34, hb39, hb4⟩ := bind_some hb4
            refine q_mid 5 (fun a => Has 188 a [(0, .int .i64 ax1), (1, .int .i64 b1), (5, .bool v1), (6, .pointer (some ⟨b2, 0, none⟩)), (7, .pointer (some ⟨b3, 0, none⟩)), (60, .bool false), (67, .bool v34)]) ?_ ?_
            · intro a hax20
              refine qr_apply hax20 ?_
              refine q_step (v := .bool v34) rfl rfl rfl rfl (fun _ hC => ?_) ?_
              · obtain ⟨_, hleq, hq⟩ := hC
                refine r_pick_false rfl rfl rfl rfl (r_nil (qq rfl))
              refine q_nil (fun a ha => ?_)
              cases hb4
              exact ha.cut (l := [0, 1, 5, 6, 7, 68]) rfl
            · clear hb4
              rcases cond_some hb39 with ⟨hb40, hb39⟩ | ⟨hb40, hb39⟩
              · refine q_lit 62 rfl hb40 ?_
                refine q_step (v := .int .i64 v6.1) rfl rfl rfl rfl (fun _ hC => ?_) ?_
                · obtain ⟨_, hleq, hq⟩ := hC
                  refine r_move rfl rfl rfl (r_nil (qq rfl))
                refine q_step (v := .int .i64 ax1) rfl rfl rfl rfl (fun _ hC => ?_) ?_
                · obtain ⟨_, hleq, hq⟩ := hC
                  refine r_move rfl rfl rfl (r_nil (qq rfl))
                refine q_step (v := .int .i64 (IntKind.i64.wrap (0 - ax1))) rfl rfl rfl rfl (fun _ hC => ?_) ?_
                · obtain ⟨_, hleq, hq⟩ := hC
                  refine r_neg rfl rfl rfl (r_nil (qq rfl))
                refine q_step (v := .bool (v6.1 != (IntKind.i64.wrap (0 - ax1)))) rfl rfl rfl rfl (fun _ hC => ?_) ?_
                · obtain ⟨_, hleq, hq⟩ := hC
                  refine r_bin rfl rfl rfl rfl rfl (r_nil (qq rfl))
                refine q_step (v := .bool (v6.1 != (IntKind.i64.wrap (0 - ax1)))) rfl rfl rfl rfl (fun _ hC => ?_) ?_
                · obtain ⟨_, hleq, hq⟩ := hC
                  refine r_pick_true rfl rfl rfl rfl (r_nil (qq rfl))
                refine q_nil (fun a ha => ?_)
                cases hb39
                exact ha.cut (l := [0, 1, 5, 6, 7, 60, 67]) rfl
              · refine q_lit 62 rfl hb40 ?_
                refine q_off rfl rfl rfl ?_
                refine q_off rfl rfl rfl ?_
                refine q_off rfl rfl rfl ?_
                refine q_off rfl rfl rfl ?_
                refine q_step (v := .bool false) rfl rfl rfl rfl (fun _ hC => ?_) ?_
                · obtain ⟨_, hleq, hq⟩ := hC
                  refine r_pick_false rfl rfl rfl rfl (r_nil (qq rfl))
                refine q_nil (fun a ha => ?_)
                cases hb39
                exact ha.cut (l := [0, 1, 5, 6, 7, 60, 67]) rfl
      · clear hm
        rcases cond_some hb3 with ⟨hb41, hb3⟩ | ⟨hb41, hb3⟩
        · refine q_lit 54 rfl hb41 ?_
          refine q_off rfl rfl rfl ?_
          refine q_off rfl rfl rfl ?_
          refine q_off rfl rfl rfl ?_
          refine q_off rfl rfl rfl ?_
          refine q_step (v := .bool true) rfl rfl rfl rfl (fun _ hC => ?_) ?_
          · obtain ⟨_, hleq, hq⟩ := hC
            refine r_pick_true rfl rfl rfl rfl (r_nil (qq rfl))
          refine q_nil (fun a ha => ?_)
          cases hb3
          exact ha.cut (l := [0, 1, 5, 6, 7, 10, 11, 59]) rfl
        · refine q_lit 54 rfl hb41 ?_
          refine q_step (v := .bool v6.2) rfl rfl rfl rfl (fun _ hC => ?_) ?_
          · obtain ⟨_, hleq, hq⟩ := hC
            refine r_move rfl rfl rfl (r_nil (qq rfl))
          refine q_step (v := .int .i64 ax1) rfl rfl rfl rfl (fun _ hC => ?_) ?_
          · obtain ⟨_, hleq, hq⟩ := hC
            refine r_move rfl rfl rfl (r_nil (qq rfl))
          refine q_step (v := .bool (ax1 != (-9223372036854775808))) rfl rfl rfl rfl (fun _ hC => ?_) ?_
          · obtain ⟨_, hleq, hq⟩ := hC
            refine r_bin rfl rfl rfl rfl rfl (r_nil (qq rfl))
          refine q_step (v := .bool (!(v6.2 == (ax1 != (-9223372036854775808))))) rfl rfl rfl rfl (fun _ hC => ?_) ?_
          · obtain ⟨_, hleq, hq⟩ := hC
            refine r_bne u4 rfl rfl rfl rfl (r_nil (qq rfl))
          refine q_step (v := .bool (!(v6.2 == (ax1 != (-9223372036854775808))))) rfl rfl rfl rfl (fun _ hC => ?_) ?_
          · obtain ⟨_, hleq, hq⟩ := hC
            refine r_pick_false rfl rfl rfl rfl (r_nil (qq rfl))
          refine q_nil (fun a ha => ?_)
          cases hb3
          exact ha.cut (l := [0, 1, 5, 6, 7, 10, 11, 59]) rfl
    · clear hm
      rcases cond_some hb2 with ⟨hb42, hb2⟩ | ⟨hb42, hb2⟩
      · refine q_lit 49 rfl hb42 ?_
        refine q_off rfl rfl rfl ?_
        refine q_off rfl rfl rfl ?_
        refine q_off rfl rfl rfl ?_
        refine q_step (v := .bool true) rfl rfl rfl rfl (fun _ hC => ?_) ?_
        · obtain ⟨_, hleq, hq⟩ := hC
          refine r_pick_true rfl rfl rfl rfl (r_nil (qq rfl))
        refine q_nil (fun a ha => ?_)
        cases hb2
        exact ha.cut (l := [0, 1, 5, 6, 7, 10, 11, 53]) rfl
      · refine q_lit 49 rfl hb42 ?_
        refine q_step (v := .int .i64 v4.1) rfl rfl rfl rfl (fun _ hC => ?_) ?_
        · obtain ⟨_, hleq, hq⟩ := hC
          refine r_move rfl rfl rfl (r_nil (qq rfl))
        refine q_step (v := .int .i64 ax1) rfl rfl rfl rfl (fun _ hC => ?_) ?_
        · obtain ⟨_, hleq, hq⟩ := hC
          refine r_move rfl rfl rfl (r_nil (qq rfl))
        refine q_step (v := .bool (v4.1 != ax1)) rfl rfl rfl rfl (fun _ hC => ?_) ?_
        · obtain ⟨_, hleq, hq⟩ := hC
          refine r_bin rfl rfl rfl rfl rfl (r_nil (qq rfl))
        refine q_step (v := .bool (v4.1 != ax1)) rfl rfl rfl rfl (fun _ hC => ?_) ?_
        · obtain ⟨_, hleq, hq⟩ := hC
          refine r_pick_false rfl rfl rfl rfl (r_nil (qq rfl))
        refine q_nil (fun a ha => ?_)
        cases hb2
        exact ha.cut (l := [0, 1, 5, 6, 7, 10, 11, 53]) rfl
  · clear hm
    rcases cond_some hb1 with ⟨hb43, hb1⟩ | ⟨hb43, hb1⟩
    · refine q_lit 45 rfl hb43 ?_
      refine q_off rfl rfl rfl ?_
      refine q_off rfl rfl rfl ?_
      refine q_step (v := .bool true) rfl rfl rfl rfl (fun _ hC => ?_) ?_
      · obtain ⟨_, hleq, hq⟩ := hC
        refine r_pick_true rfl rfl rfl rfl (r_nil (qq rfl))
      refine q_nil (fun a ha => ?_)
      cases hb1
      exact ha.cut (l := [0, 1, 5, 6, 7, 8, 10, 11, 48]) rfl
    · refine q_lit 45 rfl hb43 ?_
      refine q_step (v := .bool v4.2) rfl rfl rfl rfl (fun _ hC => ?_) ?_
      · obtain ⟨_, hleq, hq⟩ := hC
        refine r_move rfl rfl rfl (r_nil (qq rfl))
      refine q_step (v := .bool (!v4.2)) rfl rfl rfl rfl (fun _ hC => ?_) ?_
      · obtain ⟨_, hleq, hq⟩ := hC
        refine r_not rfl rfl rfl (r_nil (qq rfl))
      refine q_step (v := .bool (!v4.2)) rfl rfl rfl rfl (fun _ hC => ?_) ?_
      · obtain ⟨_, hleq, hq⟩ := hC
        refine r_pick_false rfl rfl rfl rfl (r_nil (qq rfl))
      refine q_nil (fun a ha => ?_)
      cases hb1
      exact ha.cut (l := [0, 1, 5, 6, 7, 8, 10, 11, 48]) rfl


end Go.Proofs.YtaiiclbemlmmaaaDoor.M
