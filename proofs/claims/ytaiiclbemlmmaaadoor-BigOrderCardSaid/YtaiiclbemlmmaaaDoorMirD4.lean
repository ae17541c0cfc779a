/-
  THE MIRRORS of the big integers' functions, of their reference and of the laws, and that each call returns what its mirror says. Printed by gen.py.
-/
import Derived.Test.YtaiiclbemlmmaaaDoorRows
import Derived.Test.YtaiiclbemlmmaaaDoorTrim
import Derived.Test.YtaiiclbemlmmaaaDoorMirD
namespace Go.Proofs.YtaiiclbemlmmaaaDoor.M
open Go Go.RowKit Rt

theorem ent9 : Ent Tryd.prog 9 := fun _ _ => by kernel_rfl

theorem ent10 : Ent Tryd.prog 10 := fun _ _ => by kernel_rfl

theorem ent23 : Ent Tryd.prog 23 := fun _ _ => by kernel_rfl

theorem ent22 : Ent Tryd.prog 22 := fun _ _ => by kernel_rfl

theorem u4 : Tryd.prog.underlying 4 = some .bool := by kernel_rfl

def law04_BigOrder (n : Nat) (ax1 : Big) (b1 : Big) (c1 : Big) : Option Bool :=
  (law04_small n).bind fun v1 =>
  (law04_few n (⟨ax1.Sign, ax1.Digits⟩ : Big) 25).bind fun v2 =>
  (bif !v2 then
    some true
  else
    (law04_few n (⟨b1.Sign, b1.Digits⟩ : Big) 25).bind fun v35 =>
    some (!v35)).bind fun v3 =>
  (bif v3 then
    some true
  else
    (law04_few n (⟨c1.Sign, c1.Digits⟩ : Big) 25).bind fun v34 =>
    some (!v34)).bind fun v4 =>
  (bif v4 then
    some true
  else
    (big_Right n (⟨ax1.Sign, ax1.Digits⟩ : Big)).bind fun v33 =>
    some (!v33)).bind fun v5 =>
  (bif v5 then
    some true
  else
    (big_Right n (⟨b1.Sign, b1.Digits⟩ : Big)).bind fun v32 =>
    some (!v32)).bind fun v6 =>
  (bif v6 then
    some true
  else
    (big_Right n (⟨c1.Sign, c1.Digits⟩ : Big)).bind fun v31 =>
    some (!v31)).bind fun v7 =>
  bif v7 then
    some v1
  else
    (big_Compare n (⟨ax1.Sign, ax1.Digits⟩ : Big) (⟨b1.Sign, b1.Digits⟩ : Big)).bind fun v8 =>
    (big_Sub n (⟨ax1.Sign, ax1.Digits⟩ : Big) (⟨b1.Sign, b1.Digits⟩ : Big)).bind fun v9 =>
    (big_Add n (⟨ax1.Sign, ax1.Digits⟩ : Big) (⟨c1.Sign, c1.Digits⟩ : Big)).bind fun v10 =>
    (big_Add n (⟨b1.Sign, b1.Digits⟩ : Big) (⟨c1.Sign, c1.Digits⟩ : Big)).bind fun v11 =>
    (big_Mul n (⟨ax1.Sign, ax1.Digits⟩ : Big) (⟨c1.Sign, c1.Digits⟩ : Big)).bind fun v12 =>
    (big_Mul n (⟨b1.Sign, b1.Digits⟩ : Big) (⟨c1.Sign, c1.Digits⟩ : Big)).bind fun v13 =>
    (bif v9.2 != 0 then
      some true
    else
      some (v10.2 != 0)).bind fun v14 =>
    (bif v14 then
      some true
    else
      some (v11.2 != 0)).bind fun v15 =>
    (bif v15 then
      some true
    else
      some (v12.2 != 0)).bind fun v16 =>
    (bif v16 then
      some true
    else
      some (v13.2 != 0)).bind fun v17 =>
    bif v17 then
      some false
    else
      (big_Same n (⟨ax1.Sign, ax1.Digits⟩ : Big) (⟨b1.Sign, b1.Digits⟩ : Big)).bind fun v18 =>
      (bif !((v8 == 0) == v18) then
        some true
      else
        (big_Compare n (⟨b1.Sign, b1.Digits⟩ : Big) (⟨ax1.Sign, ax1.Digits⟩ : Big)).bind fun v30 =>
        some (v30 != (IntKind.i64.wrap (0 - v8)))).bind fun v19 =>
      (bif v19 then
        some true
      else
        some (v9.1.Sign != v8)).bind fun v20 =>
      (bif v20 then
        some true
      else
        (big_Compare n (⟨v10.1.Sign, v10.1.Digits⟩ : Big) (⟨v11.1.Sign, v11.1.Digits⟩ : Big)).bind fun v29 =>
        some (v29 != v8)).bind fun v21 =>
      (bif v21 then
        some true
      else
        (big_Compare n (⟨v12.1.Sign, v12.1.Digits⟩ : Big) (⟨v13.1.Sign, v13.1.Digits⟩ : Big)).bind fun v28 =>
        some (v28 != (imul .i64 v8 c1.Sign))).bind fun v22 =>
      bif v22 then
        some false
      else
        (bif v1 then
          (bif decide (0 < v8) then
            some true
          else
            (big_Compare n (⟨b1.Sign, b1.Digits⟩ : Big) (⟨c1.Sign, c1.Digits⟩ : Big)).bind fun v27 =>
            some (decide (0 < v27))).bind fun v24 =>
          (bif v24 then
            some true
          else
            (big_Compare n (⟨ax1.Sign, ax1.Digits⟩ : Big) (⟨c1.Sign, c1.Digits⟩ : Big)).bind fun v26 =>
            some (decide (v26 ≤ 0))).bind fun v25 =>
          some v25
        else
          some false).bind fun v23 =>
        some v23

set_option maxHeartbeats 1000000 in
set_option maxRecDepth 1000000 in
theorem law04_BigOrder_ok (n : Nat) (ax1 : Big) (b1 : Big) (c1 : Big) (r : Bool) (hm : law04_BigOrder n ax1 b1 c1 = some r) {w : World} {F : Frz} (hs : Sat F w) {as1 : Option Addr} {ns1 : Nat} {cs1 : Nat} {as2 : Option Addr} {ns2 : Nat} {cs2 : Nat} {as3 : Option Addr} {ns3 : Nat} {cs3 : Nat} (hs1 : SlR (Rp.int .i64) F as1 ns1 cs1 ax1.Digits) (hs2 : SlR (Rp.int .i64) F as2 ns2 cs2 b1.Digits) (hs3 : SlR (Rp.int .i64) F as3 ns3 cs3 c1.Digits) (hg2 : FX F 2 (Lib.pow10Tab.map (Value.int .u64))) :
    Calls Tryd.prog 7 #[.agg #[.int .i64 ax1.Sign, .slice as1 ns1 cs1], .agg #[.int .i64 b1.Sign, .slice as2 ns2 cs2], .agg #[.int .i64 c1.Sign, .slice as3 ns3 cs3]] w fun e w' => ∃ v F' O', e = .returned v ∧ HS F w [] F' O' w' ∧ (v = .bool r ∧ O' = []) := by
  unfold law04_BigOrder at hm
  have h := HS.init hs
  refine calls_of (args := [.agg #[.int .i64 ax1.Sign, .slice as1 ns1 cs1], .agg #[.int .i64 b1.Sign, .slice as2 ns2 cs2], .agg #[.int .i64 c1.Sign, .slice as3 ns3 cs3]]) 154 Tryd.func7 rfl rfl rfl ?_
  refine c_seq ?_
  refine c_region ?_
  refine r_box rfl rfl rfl rfl h ?_
  intro b2 wx1 hx1
  refine r_box rfl rfl rfl rfl hx1 ?_
  intro b3 wx2 hx2
  refine r_box rfl rfl rfl rfl hx2 ?_
  intro b4 wx3 hx3
  refine r_assign rfl rfl rfl ?_
  refine r_nil ?_
  refine q_then ?_
  refine c_seq ?_
  refine c_region ?_
  obtain ⟨v1, hv1, hm⟩ := bind_some hm
  refine r_callG0 ent9 rfl rfl rfl rfl hx3 (law04_small_ok _ _ hv1 hx3.sat hg2) ?_
  rintro _ Fx1 _ wx4 hF1 hx4 ⟨rfl, rfl⟩
  refine r_assign rfl rfl rfl ?_
  refine r_nil ?_
  refine q_then ?_
  refine c_seq ?_
  refine c_seq ?_
  refine c_region ?_
  refine r_loadBA (cs' := [.int .i64 ax1.Sign, .slice as1 ns1 cs1]) ag24 sz24 rfl rfl hx4 rfl (i := 2) rfl rfl rfl ?_
  obtain ⟨v2, hv2, hm⟩ := bind_some hm
  refine r_callG0 ent10 rfl rfl rfl rfl hx4 (law04_few_ok _ _ _ _ hv2 hx4.sat (hs1.mono hF1)) ?_
  rintro _ Fx2 _ wx5 hF2 hx5 ⟨rfl, rfl⟩
  refine r_not rfl rfl rfl ?_
  refine r_move rfl rfl rfl ?_
  obtain ⟨v3, hb1, hm⟩ := bind_some hm
  refine r_mid 4 (fun a w' => ∃ (Fx3 : Frz), Frz.le Fx2 Fx3 ∧ HS F w [] Fx3 [.box b4 24 [.int .i64 c1.Sign, .slice as3 ns3 cs3], .box b3 24 [.int .i64 b1.Sign, .slice as2 ns2 cs2], .box b2 24 [.int .i64 ax1.Sign, .slice as1 ns1 cs1]] w' ∧ Has 154 a [(3, .pointer (some ⟨b2, 0, none⟩)), (4, .pointer (some ⟨b3, 0, none⟩)), (5, .pointer (some ⟨b4, 0, none⟩)), (7, .bool v1), (27, .bool v3)]) ?_ ?_
  · rintro a wx6 ⟨Fx3, hF3, hx6, hax1⟩
    refine rw_apply hax1 ?_
    refine r_move rfl rfl rfl ?_
    obtain ⟨v4, hb2, hm⟩ := bind_some hm
    refine r_mid 4 (fun a w' => ∃ (Fx4 : Frz), Frz.le Fx3 Fx4 ∧ HS F w [] Fx4 [.box b4 24 [.int .i64 c1.Sign, .slice as3 ns3 cs3], .box b3 24 [.int .i64 b1.Sign, .slice as2 ns2 cs2], .box b2 24 [.int .i64 ax1.Sign, .slice as1 ns1 cs1]] w' ∧ Has 154 a [(3, .pointer (some ⟨b2, 0, none⟩)), (4, .pointer (some ⟨b3, 0, none⟩)), (5, .pointer (some ⟨b4, 0, none⟩)), (7, .bool v1), (32, .bool v4)]) ?_ ?_
    · rintro a wx7 ⟨Fx4, hF4, hx7, hax2⟩
      refine rw_apply hax2 ?_
      refine r_move rfl rfl rfl ?_
      obtain ⟨v5, hb3, hm⟩ := bind_some hm
      refine r_mid 4 (fun a w' => ∃ (Fx5 : Frz), Frz.le Fx4 Fx5 ∧ HS F w [] Fx5 [.box b4 24 [.int .i64 c1.Sign, .slice as3 ns3 cs3], .box b3 24 [.int .i64 b1.Sign, .slice as2 ns2 cs2], .box b2 24 [.int .i64 ax1.Sign, .slice as1 ns1 cs1]] w' ∧ Has 154 a [(3, .pointer (some ⟨b2, 0, none⟩)), (4, .pointer (some ⟨b3, 0, none⟩)), (5, .pointer (some ⟨b4, 0, none⟩)), (7, .bool v1), (37, .bool v5)]) ?_ ?_
      · rintro a wx8 ⟨Fx5, hF5, hx8, hax3⟩
        refine rw_apply hax3 ?_
        refine r_move rfl rfl rfl ?_
        obtain ⟨v6, hb4, hm⟩ := bind_some hm
        refine r_mid 4 (fun a w' => ∃ (Fx6 : Frz), Frz.le Fx5 Fx6 ∧ HS F w [] Fx6 [.box b4 24 [.int .i64 c1.Sign, .slice as3 ns3 cs3], .box b3 24 [.int .i64 b1.Sign, .slice as2 ns2 cs2], .box b2 24 [.int .i64 ax1.Sign, .slice as1 ns1 cs1]] w' ∧ Has 154 a [(3, .pointer (some ⟨b2, 0, none⟩)), (4, .pointer (some ⟨b3, 0, none⟩)), (5, .pointer (some ⟨b4, 0, none⟩)), (7, .bool v1), (42, .bool v6)]) ?_ ?_
        · rintro a wx9 ⟨Fx6, hF6, hx9, hax4⟩
          refine rw_apply hax4 ?_
          refine r_move rfl rfl rfl ?_
          obtain ⟨v7, hb5, hm⟩ := bind_some hm
          refine r_mid 4 (fun a w' => ∃ (Fx7 : Frz), Frz.le Fx6 Fx7 ∧ HS F w [] Fx7 [.box b4 24 [.int .i64 c1.Sign, .slice as3 ns3 cs3], .box b3 24 [.int .i64 b1.Sign, .slice as2 ns2 cs2], .box b2 24 [.int .i64 ax1.Sign, .slice as1 ns1 cs1]] w' ∧ Has 154 a [(3, .pointer (some ⟨b2, 0, none⟩)), (4, .pointer (some ⟨b3, 0, none⟩)), (5, .pointer (some ⟨b4, 0, none⟩)), (7, .bool v1), (47, .bool v7)]) ?_ ?_
          · rintro a wx10 ⟨Fx7, hF7, hx10, hax5⟩
            refine rw_apply hax5 ?_
            refine r_nil ?_
            refine q_then ?_
            rcases cond_some hm with ⟨hb6, hm⟩ | ⟨hb6, hm⟩
            · refine c_lit 47 rfl hb6 ?_
              refine c_true rfl ?_
              refine c_seq ?_
              refine c_region ?_
              refine r_move rfl rfl rfl ?_
              refine r_assign rfl rfl rfl ?_
              refine r_nil ?_
              refine q_then ?_
              refine c_ret ?_
              refine q_then_ret ?_
              refine b_ret1 rfl rfl ?_
              obtain rfl := Option.some.inj hm
              exact ⟨_, _, _, rfl, hx10.pick [] (by decide) rfl, rfl, rfl⟩
            · refine c_lit 47 rfl hb6 ?_
              refine c_false rfl ?_
              refine c_skip ?_
              refine q_then ?_
              refine c_seq ?_
              refine c_region ?_
              refine r_loadBA (cs' := [.int .i64 ax1.Sign, .slice as1 ns1 cs1]) ag24 sz24 rfl rfl hx10 rfl (i := 2) rfl rfl rfl ?_
              refine r_loadBA (cs' := [.int .i64 b1.Sign, .slice as2 ns2 cs2]) ag24 sz24 rfl rfl hx10 rfl (i := 1) rfl rfl rfl ?_
              obtain ⟨v8, hv3, hm⟩ := bind_some hm
              refine r_callG0 ent23 rfl rfl rfl rfl hx10 (big_Compare_ok _ _ _ _ hv3 hx10.sat (((((((hs1.mono hF1).mono hF2).mono hF3).mono hF4).mono hF5).mono hF6).mono hF7) (((((((hs2.mono hF1).mono hF2).mono hF3).mono hF4).mono hF5).mono hF6).mono hF7)) ?_
              rintro _ Fx8 _ wx11 hF8 hx11 ⟨rfl, rfl⟩
              refine r_assign rfl rfl rfl ?_
              refine r_nil ?_
              refine q_then ?_
              refine c_seq ?_
              refine c_region ?_
              refine r_loadBA (cs' := [.int .i64 ax1.Sign, .slice as1 ns1 cs1]) ag24 sz24 rfl rfl hx11 rfl (i := 2) rfl rfl rfl ?_
              refine r_loadBA (cs' := [.int .i64 b1.Sign, .slice as2 ns2 cs2]) ag24 sz24 rfl rfl hx11 rfl (i := 1) rfl rfl rfl ?_
              obtain ⟨v9, hv4, hm⟩ := bind_some hm
              refine r_callG0 ent22 rfl rfl rfl rfl hx11 (big_Sub_ok _ _ _ _ hv4 hx11.sat ((((((((hs1.mono hF1).mono hF2).mono hF3).mono hF4).mono hF5).mono hF6).mono hF7).mono hF8) ((((((((hs2.mono hF1).mono hF2).mono hF3).mono hF4).mono hF5).mono hF6).mono hF7).mono hF8)) ?_
              rintro _ Fx9 _ wx12 hF9 hx12 ⟨as4, ns4, cs4, rfl, rfl, hs4⟩
              refine r_move rfl rfl rfl ?_
              refine r_extract rfl rfl rfl rfl ?_
              refine r_extract rfl rfl rfl rfl ?_
              refine r_alloc ze24 rfl rfl rfl hx12 ?_
              intro b5 wx13 hx13
              refine r_store sz24 rfl hx13 rfl rfl rfl rfl (i := 0) rfl rfl rfl rfl ?_
              intro wx14 hx14
              refine r_assign rfl rfl rfl ?_
              refine r_nil ?_
              refine q_then ?_
              refine c_seq ?_
              refine c_region ?_
              refine r_loadBA (cs' := [.int .i64 ax1.Sign, .slice as1 ns1 cs1]) ag24 sz24 rfl rfl hx14 rfl (i := 3) rfl rfl rfl ?_
              refine r_loadBA (cs' := [.int .i64 c1.Sign, .slice as3 ns3 cs3]) ag24 sz24 rfl rfl hx14 rfl (i := 1) rfl rfl rfl ?_
              obtain ⟨v10, hv5, hm⟩ := bind_some hm
              refine r_callG0 ent20 rfl rfl rfl rfl hx14 (big_Add_ok _ _ _ _ hv5 hx14.sat (((((((((hs1.mono hF1).mono hF2).mono hF3).mono hF4).mono hF5).mono hF6).mono hF7).mono hF8).mono hF9) (((((((((hs3.mono hF1).mono hF2).mono hF3).mono hF4).mono hF5).mono hF6).mono hF7).mono hF8).mono hF9)) ?_
              rintro _ Fx10 _ wx15 hF10 hx15 ⟨as5, ns5, cs5, rfl, rfl, hs5⟩
              refine r_move rfl rfl rfl ?_
              refine r_extract rfl rfl rfl rfl ?_
              refine r_extract rfl rfl rfl rfl ?_
              refine r_alloc ze24 rfl rfl rfl hx15 ?_
              intro b6 wx16 hx16
              refine r_store sz24 rfl hx16 rfl rfl rfl rfl (i := 0) rfl rfl rfl rfl ?_
              intro wx17 hx17
              refine r_assign rfl rfl rfl ?_
              refine r_nil ?_
              refine q_then ?_
              refine c_seq ?_
              refine c_region ?_
              refine r_loadBA (cs' := [.int .i64 b1.Sign, .slice as2 ns2 cs2]) ag24 sz24 rfl rfl hx17 rfl (i := 3) rfl rfl rfl ?_
              refine r_loadBA (cs' := [.int .i64 c1.Sign, .slice as3 ns3 cs3]) ag24 sz24 rfl rfl hx17 rfl (i := 2) rfl rfl rfl ?_
              obtain ⟨v11, hv6, hm⟩ := bind_some hm
              refine r_callG0 ent20 rfl rfl rfl rfl hx17 (big_Add_ok _ _ _ _ hv6 hx17.sat ((((((((((hs2.mono hF1).mono hF2).mono hF3).mono hF4).mono hF5).mono hF6).mono hF7).mono hF8).mono hF9).mono hF10) ((((((((((hs3.mono hF1).mono hF2).mono hF3).mono hF4).mono hF5).mono hF6).mono hF7).mono hF8).mono hF9).mono hF10)) ?_
              rintro _ Fx11 _ wx18 hF11 hx18 ⟨as6, ns6, cs6, rfl, rfl, hs6⟩
              refine r_move rfl rfl rfl ?_
              refine r_extract rfl rfl rfl rfl ?_
              refine r_extract rfl rfl rfl rfl ?_
              refine r_alloc ze24 rfl rfl rfl hx18 ?_
              intro b7 wx19 hx19
              refine r_store sz24 rfl hx19 rfl rfl rfl rfl (i := 0) rfl rfl rfl rfl ?_
              intro wx20 hx20
              refine r_assign rfl rfl rfl ?_
              refine r_nil ?_
              refine q_then ?_
              refine c_seq ?_
              refine c_region ?_
              refine r_loadBA (cs' := [.int .i64 ax1.Sign, .slice as1 ns1 cs1]) ag24 sz24 rfl rfl hx20 rfl (i := 5) rfl rfl rfl ?_
              refine r_loadBA (cs' := [.int .i64 c1.Sign, .slice as3 ns3 cs3]) ag24 sz24 rfl rfl hx20 rfl (i := 3) rfl rfl rfl ?_
              obtain ⟨v12, hv7, hm⟩ := bind_some hm
              refine r_callG0 ent16 rfl rfl rfl rfl hx20 (big_Mul_ok _ _ _ _ hv7 hx20.sat (((((((((((hs1.mono hF1).mono hF2).mono hF3).mono hF4).mono hF5).mono hF6).mono hF7).mono hF8).mono hF9).mono hF10).mono hF11) (((((((((((hs3.mono hF1).mono hF2).mono hF3).mono hF4).mono hF5).mono hF6).mono hF7).mono hF8).mono hF9).mono hF10).mono hF11)) ?_
              rintro _ Fx12 _ wx21 hF12 hx21 ⟨as7, ns7, cs7, rfl, rfl, hs7⟩
              refine r_move rfl rfl rfl ?_
              refine r_extract rfl rfl rfl rfl ?_
              refine r_extract rfl rfl rfl rfl ?_
              refine r_alloc ze24 rfl rfl rfl hx21 ?_
              intro b8 wx22 hx22
              refine r_store sz24 rfl hx22 rfl rfl rfl rfl (i := 0) rfl rfl rfl rfl ?_
              intro wx23 hx23
              refine r_assign rfl rfl rfl ?_
              refine r_nil ?_
              refine q_then ?_
              refine c_seq ?_
              refine c_region ?_
              refine r_loadBA (cs' := [.int .i64 b1.Sign, .slice as2 ns2 cs2]) ag24 sz24 rfl rfl hx23 rfl (i := 5) rfl rfl rfl ?_
              refine r_loadBA (cs' := [.int .i64 c1.Sign, .slice as3 ns3 cs3]) ag24 sz24 rfl rfl hx23 rfl (i := 4) rfl rfl rfl ?_
              obtain ⟨v13, hv8, hm⟩ := bind_some hm
              refine r_callG0 ent16 rfl rfl rfl rfl hx23 (big_Mul_ok _ _ _ _ hv8 hx23.sat ((((((((((((hs2.mono hF1).mono hF2).mono hF3).mono hF4).mono hF5).mono hF6).mono hF7).mono hF8).mono hF9).mono hF10).mono hF11).mono hF12) ((((((((((((hs3.mono hF1).mono hF2).mono hF3).mono hF4).mono hF5).mono hF6).mono hF7).mono hF8).mono hF9).mono hF10).mono hF11).mono hF12)) ?_
              rintro _ Fx13 _ wx24 hF13 hx24 ⟨as8, ns8, cs8, rfl, rfl, hs8⟩
              refine r_move rfl rfl rfl ?_
              refine r_extract rfl rfl rfl rfl ?_
              refine r_extract rfl rfl rfl rfl ?_
              refine r_alloc ze24 rfl rfl rfl hx24 ?_
              intro b9 wx25 hx25
              refine r_store sz24 rfl hx25 rfl rfl rfl rfl (i := 0) rfl rfl rfl rfl ?_
              intro wx26 hx26
              refine r_assign rfl rfl rfl ?_
              refine r_nil ?_
              refine q_then ?_
              refine c_seq ?_
              refine c_seq ?_
              refine c_region ?_
              refine r_move rfl rfl rfl ?_
              refine r_bin rfl rfl rfl rfl rfl ?_
              refine r_move rfl rfl rfl ?_
              obtain ⟨v14, hb7, hm⟩ := bind_some hm
              refine r_mid 3 (fun a w' => wx26 = w' ∧ Has 154 a [(3, .pointer (some ⟨b2, 0, none⟩)), (4, .pointer (some ⟨b3, 0, none⟩)), (5, .pointer (some ⟨b4, 0, none⟩)), (7, .bool v1), (8, .int .i64 v8), (9, .pointer (some ⟨b5, 0, none⟩)), (11, .pointer (some ⟨b6, 0, none⟩)), (13, .pointer (some ⟨b7, 0, none⟩)), (14, .int .i64 v11.2), (15, .pointer (some ⟨b8, 0, none⟩)), (16, .int .i64 v12.2), (17, .pointer (some ⟨b9, 0, none⟩)), (18, .int .i64 v13.2), (87, .bool v14)]) ?_ ?_
              · rintro a wx27 ⟨rfl, hax6⟩
                refine rw_apply hax6 ?_
                refine r_move rfl rfl rfl ?_
                obtain ⟨v15, hb8, hm⟩ := bind_some hm
                refine r_mid 3 (fun a w' => wx26 = w' ∧ Has 154 a [(3, .pointer (some ⟨b2, 0, none⟩)), (4, .pointer (some ⟨b3, 0, none⟩)), (5, .pointer (some ⟨b4, 0, none⟩)), (7, .bool v1), (8, .int .i64 v8), (9, .pointer (some ⟨b5, 0, none⟩)), (11, .pointer (some ⟨b6, 0, none⟩)), (13, .pointer (some ⟨b7, 0, none⟩)), (15, .pointer (some ⟨b8, 0, none⟩)), (16, .int .i64 v12.2), (17, .pointer (some ⟨b9, 0, none⟩)), (18, .int .i64 v13.2), (91, .bool v15)]) ?_ ?_
                · rintro a wx28 ⟨rfl, hax7⟩
                  refine rw_apply hax7 ?_
                  refine r_move rfl rfl rfl ?_
                  obtain ⟨v16, hb9, hm⟩ := bind_some hm
                  refine r_mid 3 (fun a w' => wx26 = w' ∧ Has 154 a [(3, .pointer (some ⟨b2, 0, none⟩)), (4, .pointer (some ⟨b3, 0, none⟩)), (5, .pointer (some ⟨b4, 0, none⟩)), (7, .bool v1), (8, .int .i64 v8), (9, .pointer (some ⟨b5, 0, none⟩)), (11, .pointer (some ⟨b6, 0, none⟩)), (13, .pointer (some ⟨b7, 0, none⟩)), (15, .pointer (some ⟨b8, 0, none⟩)), (17, .pointer (some ⟨b9, 0, none⟩)), (18, .int .i64 v13.2), (95, .bool v16)]) ?_ ?_
                  · rintro a wx29 ⟨rfl, hax8⟩
                    refine rw_apply hax8 ?_
                    refine r_move rfl rfl rfl ?_
                    obtain ⟨v17, hb10, hm⟩ := bind_some hm
                    refine r_mid 3 (fun a w' => wx26 = w' ∧ Has 154 a [(3, .pointer (some ⟨b2, 0, none⟩)), (4, .pointer (some ⟨b3, 0, none⟩)), (5, .pointer (some ⟨b4, 0, none⟩)), (7, .bool v1), (8, .int .i64 v8), (9, .pointer (some ⟨b5, 0, none⟩)), (11, .pointer (some ⟨b6, 0, none⟩)), (13, .pointer (some ⟨b7, 0, none⟩)), (15, .pointer (some ⟨b8, 0, none⟩)), (17, .pointer (some ⟨b9, 0, none⟩)), (99, .bool v17)]) ?_ ?_
                    · rintro a wx30 ⟨rfl, hax9⟩
                      refine rw_apply hax9 ?_
                      refine r_nil ?_
                      refine q_then ?_
                      rcases cond_some hm with ⟨hb11, hm⟩ | ⟨hb11, hm⟩
                      · refine c_lit 99 rfl hb11 ?_
                        refine c_true rfl ?_
                        refine c_seq ?_
                        refine c_region ?_
                        refine r_assign rfl rfl rfl ?_
                        refine r_nil ?_
                        refine q_then ?_
                        refine c_ret ?_
                        refine q_then_ret ?_
                        refine b_ret1 rfl rfl ?_
                        obtain rfl := Option.some.inj hm
                        exact ⟨_, _, _, rfl, hx26.pick [] (by decide) rfl, rfl, rfl⟩
                      · refine c_lit 99 rfl hb11 ?_
                        refine c_false rfl ?_
                        refine c_skip ?_
                        refine q_then ?_
                        refine c_seq ?_
                        refine c_seq ?_
                        refine c_regionD (by kernel_rfl) (by kernel_rfl) hx26 ?_
                        refine q_step (v := .int .i64 v8) rfl rfl rfl rfl (fun _ hC => ?_) ?_
                        · obtain ⟨_, hleq, hq⟩ := hC
                          refine r_move rfl rfl rfl (r_nil (qq rfl))
                        refine q_step (v := .bool (v8 == 0)) rfl rfl rfl rfl (fun _ hC => ?_) ?_
                        · obtain ⟨_, hleq, hq⟩ := hC
                          refine r_bin rfl rfl rfl rfl rfl (r_nil (qq rfl))
                        refine q_step (v := .agg #[.int .i64 ax1.Sign, .slice as1 ns1 cs1]) rfl rfl rfl rfl (fun _ hC => ?_) ?_
                        · obtain ⟨_, hleq, hq⟩ := hC
                          refine r_loadBA (cs' := [.int .i64 ax1.Sign, .slice as1 ns1 cs1]) ag24 sz24 rfl rfl hq rfl (i := 7) rfl rfl rfl (r_nil (qq rfl))
                        refine q_step (v := .agg #[.int .i64 b1.Sign, .slice as2 ns2 cs2]) rfl rfl rfl rfl (fun _ hC => ?_) ?_
                        · obtain ⟨_, hleq, hq⟩ := hC
                          refine r_loadBA (cs' := [.int .i64 b1.Sign, .slice as2 ns2 cs2]) ag24 sz24 rfl rfl hq rfl (i := 6) rfl rfl rfl (r_nil (qq rfl))
                        obtain ⟨v18, hv9, hm⟩ := bind_some hm
                        refine q_callG0 ent14 rfl rfl rfl rfl (fun _ _ hleq hq => big_Same_ok _ _ _ _ hv9 hq.sat ((((((((((((((hs1.mono hF1).mono hF2).mono hF3).mono hF4).mono hF5).mono hF6).mono hF7).mono hF8).mono hF9).mono hF10).mono hF11).mono hF12).mono hF13).mono hleq) ((((((((((((((hs2.mono hF1).mono hF2).mono hF3).mono hF4).mono hF5).mono hF6).mono hF7).mono hF8).mono hF9).mono hF10).mono hF11).mono hF12).mono hF13).mono hleq)) ?_
                        refine q_step (v := .bool (!((v8 == 0) == v18))) rfl rfl rfl rfl (fun _ hC => ?_) ?_
                        · obtain ⟨_, hleq, hq⟩ := hC
                          refine r_bne u4 rfl rfl rfl rfl (r_nil (qq rfl))
                        refine q_step (v := .bool (!((v8 == 0) == v18))) rfl rfl rfl rfl (fun _ hC => ?_) ?_
                        · obtain ⟨_, hleq, hq⟩ := hC
                          refine r_move rfl rfl rfl (r_nil (qq rfl))
                        obtain ⟨v19, hb12, hm⟩ := bind_some hm
                        refine q_mid 7 (fun a => Has 154 a [(3, .pointer (some ⟨b2, 0, none⟩)), (4, .pointer (some ⟨b3, 0, none⟩)), (5, .pointer (some ⟨b4, 0, none⟩)), (7, .bool v1), (8, .int .i64 v8), (9, .pointer (some ⟨b5, 0, none⟩)), (11, .pointer (some ⟨b6, 0, none⟩)), (13, .pointer (some ⟨b7, 0, none⟩)), (15, .pointer (some ⟨b8, 0, none⟩)), (17, .pointer (some ⟨b9, 0, none⟩)), (113, .bool v19)]) ?_ ?_
                        · intro a hax10
                          refine qr_apply hax10 ?_
                          refine q_step (v := .bool v19) rfl rfl rfl rfl (fun _ hC => ?_) ?_
                          · obtain ⟨_, hleq, hq⟩ := hC
                            refine r_move rfl rfl rfl (r_nil (qq rfl))
                          obtain ⟨v20, hb13, hm⟩ := bind_some hm
                          refine q_mid 5 (fun a => Has 154 a [(3, .pointer (some ⟨b2, 0, none⟩)), (4, .pointer (some ⟨b3, 0, none⟩)), (5, .pointer (some ⟨b4, 0, none⟩)), (7, .bool v1), (8, .int .i64 v8), (11, .pointer (some ⟨b6, 0, none⟩)), (13, .pointer (some ⟨b7, 0, none⟩)), (15, .pointer (some ⟨b8, 0, none⟩)), (17, .pointer (some ⟨b9, 0, none⟩)), (119, .bool v20)]) ?_ ?_
                          · intro a hax11
                            refine qr_apply hax11 ?_
                            refine q_step (v := .bool v20) rfl rfl rfl rfl (fun _ hC => ?_) ?_
                            · obtain ⟨_, hleq, hq⟩ := hC
                              refine r_move rfl rfl rfl (r_nil (qq rfl))
                            obtain ⟨v21, hb14, hm⟩ := bind_some hm
                            refine q_mid 6 (fun a => Has 154 a [(3, .pointer (some ⟨b2, 0, none⟩)), (4, .pointer (some ⟨b3, 0, none⟩)), (5, .pointer (some ⟨b4, 0, none⟩)), (7, .bool v1), (8, .int .i64 v8), (15, .pointer (some ⟨b8, 0, none⟩)), (17, .pointer (some ⟨b9, 0, none⟩)), (126, .bool v21)]) ?_ ?_
                            · intro a hax12
                              refine qr_apply hax12 ?_
                              refine q_step (v := .bool v21) rfl rfl rfl rfl (fun _ hC => ?_) ?_
                              · obtain ⟨_, hleq, hq⟩ := hC
                                refine r_move rfl rfl rfl (r_nil (qq rfl))
                              obtain ⟨v22, hb15, hm⟩ := bind_some hm
                              refine q_mid 9 (fun a => Has 154 a [(3, .pointer (some ⟨b2, 0, none⟩)), (4, .pointer (some ⟨b3, 0, none⟩)), (5, .pointer (some ⟨b4, 0, none⟩)), (7, .bool v1), (8, .int .i64 v8), (136, .bool v22)]) ?_ ?_
                              · intro a hax13
                                refine qr_apply hax13 ?_
                                refine q_end ?_
                                rintro wx35 ⟨Fx14, hF14, hx27⟩
                                refine q_then ?_
                                rcases cond_some hm with ⟨hb16, hm⟩ | ⟨hb16, hm⟩
                                · refine c_lit 136 rfl hb16 ?_
                                  refine c_true rfl ?_
                                  refine c_seq ?_
                                  refine c_region ?_
                                  refine r_assign rfl rfl rfl ?_
                                  refine r_nil ?_
                                  refine q_then ?_
                                  refine c_ret ?_
                                  refine q_then_ret ?_
                                  refine b_ret1 rfl rfl ?_
                                  obtain rfl := Option.some.inj hm
                                  exact ⟨_, _, _, rfl, hx27.pick [] (by decide) rfl, rfl, rfl⟩
                                · refine c_lit 136 rfl hb16 ?_
                                  refine c_false rfl ?_
                                  refine c_skip ?_
                                  refine q_then ?_
                                  refine c_seq ?_
                                  refine c_region ?_
                                  refine r_move rfl rfl rfl ?_
                                  refine r_move rfl rfl rfl ?_
                                  obtain ⟨v23, hb17, hm⟩ := bind_some hm
                                  refine r_mid 15 (fun a w' => ∃ (Fx15 : Frz), Frz.le Fx14 Fx15 ∧ HS F w [] Fx15 [.box b9 24 [.int .i64 v13.1.Sign, .slice as8 ns8 cs8], .box b8 24 [.int .i64 v12.1.Sign, .slice as7 ns7 cs7], .box b7 24 [.int .i64 v11.1.Sign, .slice as6 ns6 cs6], .box b6 24 [.int .i64 v10.1.Sign, .slice as5 ns5 cs5], .box b5 24 [.int .i64 v9.1.Sign, .slice as4 ns4 cs4], .box b4 24 [.int .i64 c1.Sign, .slice as3 ns3 cs3], .box b3 24 [.int .i64 b1.Sign, .slice as2 ns2 cs2], .box b2 24 [.int .i64 ax1.Sign, .slice as1 ns1 cs1]] w' ∧ Has 154 a [(153, .bool v23)]) ?_ ?_
                                  · rintro a wx36 ⟨Fx15, hF15, hx28, hax14⟩
                                    refine rw_apply hax14 ?_
                                    refine r_assign rfl rfl rfl ?_
                                    refine r_nil ?_
                                    refine q_then ?_
                                    refine c_ret ?_
                                    refine b_ret1 rfl rfl ?_
                                    obtain rfl := Option.some.inj hm
                                    exact ⟨_, _, _, rfl, hx28.pick [] (by decide) rfl, rfl, rfl⟩
                                  · clear hm
                                    rcases cond_some hb17 with ⟨hb18, hb17⟩ | ⟨hb18, hb17⟩
                                    · refine r_lit 138 rfl hb18 ?_
                                      refine r_move rfl rfl rfl ?_
                                      refine r_bin rfl rfl rfl rfl rfl ?_
                                      refine r_move rfl rfl rfl ?_
                                      obtain ⟨v24, hb19, hb17⟩ := bind_some hb17
                                      refine r_mid 5 (fun a w' => ∃ (Fx16 : Frz), Frz.le Fx14 Fx16 ∧ HS F w [] Fx16 [.box b9 24 [.int .i64 v13.1.Sign, .slice as8 ns8 cs8], .box b8 24 [.int .i64 v12.1.Sign, .slice as7 ns7 cs7], .box b7 24 [.int .i64 v11.1.Sign, .slice as6 ns6 cs6], .box b6 24 [.int .i64 v10.1.Sign, .slice as5 ns5 cs5], .box b5 24 [.int .i64 v9.1.Sign, .slice as4 ns4 cs4], .box b4 24 [.int .i64 c1.Sign, .slice as3 ns3 cs3], .box b3 24 [.int .i64 b1.Sign, .slice as2 ns2 cs2], .box b2 24 [.int .i64 ax1.Sign, .slice as1 ns1 cs1]] w' ∧ Has 154 a [(3, .pointer (some ⟨b2, 0, none⟩)), (5, .pointer (some ⟨b4, 0, none⟩)), (138, .bool true), (146, .bool v24)]) ?_ ?_
                                      · rintro a wx37 ⟨Fx16, hF16, hx29, hax15⟩
                                        refine rw_apply hax15 ?_
                                        refine r_move rfl rfl rfl ?_
                                        obtain ⟨v25, hb20, hb17⟩ := bind_some hb17
                                        refine r_mid 5 (fun a w' => ∃ (Fx17 : Frz), Frz.le Fx16 Fx17 ∧ HS F w [] Fx17 [.box b9 24 [.int .i64 v13.1.Sign, .slice as8 ns8 cs8], .box b8 24 [.int .i64 v12.1.Sign, .slice as7 ns7 cs7], .box b7 24 [.int .i64 v11.1.Sign, .slice as6 ns6 cs6], .box b6 24 [.int .i64 v10.1.Sign, .slice as5 ns5 cs5], .box b5 24 [.int .i64 v9.1.Sign, .slice as4 ns4 cs4], .box b4 24 [.int .i64 c1.Sign, .slice as3 ns3 cs3], .box b3 24 [.int .i64 b1.Sign, .slice as2 ns2 cs2], .box b2 24 [.int .i64 ax1.Sign, .slice as1 ns1 cs1]] w' ∧ Has 154 a [(138, .bool true), (152, .bool v25)]) ?_ ?_
                                        · rintro a wx38 ⟨Fx17, hF17, hx30, hax16⟩
                                          refine rw_apply hax16 ?_
                                          refine r_pick_true rfl rfl rfl rfl ?_
                                          refine r_nil ?_
                                          refine q_next (fun a ha => ?_)
                                          cases hb17
                                          exact ⟨_, (hF16.trans hF17), hx30.pick [0, 1, 2, 3, 4, 5, 6, 7] (by decide) rfl, ha.cut (l := [153]) rfl⟩
                                        · clear hb17
                                          rcases cond_some hb20 with ⟨hb21, hb20⟩ | ⟨hb21, hb20⟩
                                          · refine r_lit 147 rfl hb21 ?_
                                            refine r_off rfl (by decide) rfl ?_
                                            refine r_off rfl (by decide) rfl ?_
                                            refine r_off rfl (by decide) rfl ?_
                                            refine r_off rfl (by decide) rfl ?_
                                            refine r_pick_true rfl rfl rfl rfl ?_
                                            refine r_nil ?_
                                            refine q_next (fun a ha => ?_)
                                            cases hb20
                                            exact ⟨_, Frz.refl _, hx29.pick [0, 1, 2, 3, 4, 5, 6, 7] (by decide) rfl, ha.cut (l := [138, 152]) rfl⟩
                                          · refine r_lit 147 rfl hb21 ?_
                                            refine r_loadBA (cs' := [.int .i64 ax1.Sign, .slice as1 ns1 cs1]) ag24 sz24 rfl rfl hx29 rfl (i := 7) rfl rfl rfl ?_
                                            refine r_loadBA (cs' := [.int .i64 c1.Sign, .slice as3 ns3 cs3]) ag24 sz24 rfl rfl hx29 rfl (i := 5) rfl rfl rfl ?_
                                            obtain ⟨v26, hv10, hb20⟩ := bind_some hb20
                                            refine r_callG0 ent23 rfl rfl rfl rfl hx29 (big_Compare_ok _ _ _ _ hv10 hx29.sat (((((((((((((((hs1.mono hF1).mono hF2).mono hF3).mono hF4).mono hF5).mono hF6).mono hF7).mono hF8).mono hF9).mono hF10).mono hF11).mono hF12).mono hF13).mono hF14).mono hF16) (((((((((((((((hs3.mono hF1).mono hF2).mono hF3).mono hF4).mono hF5).mono hF6).mono hF7).mono hF8).mono hF9).mono hF10).mono hF11).mono hF12).mono hF13).mono hF14).mono hF16)) ?_
                                            rintro _ Fx18 _ wx39 hF18 hx31 ⟨rfl, rfl⟩
                                            refine r_bin rfl rfl rfl rfl rfl ?_
                                            refine r_pick_false rfl rfl rfl rfl ?_
                                            refine r_nil ?_
                                            refine q_next (fun a ha => ?_)
                                            cases hb20
                                            exact ⟨_, hF18, hx31.pick [0, 1, 2, 3, 4, 5, 6, 7] (by decide) rfl, ha.cut (l := [138, 152]) rfl⟩
                                      · clear hb17
                                        rcases cond_some hb19 with ⟨hb22, hb19⟩ | ⟨hb22, hb19⟩
                                        · refine r_lit 141 rfl hb22 ?_
                                          refine r_off rfl (by decide) rfl ?_
                                          refine r_off rfl (by decide) rfl ?_
                                          refine r_off rfl (by decide) rfl ?_
                                          refine r_off rfl (by decide) rfl ?_
                                          refine r_pick_true rfl rfl rfl rfl ?_
                                          refine r_nil ?_
                                          refine q_next (fun a ha => ?_)
                                          cases hb19
                                          exact ⟨_, Frz.refl _, hx27.pick [0, 1, 2, 3, 4, 5, 6, 7] (by decide) rfl, ha.cut (l := [3, 5, 138, 146]) rfl⟩
                                        · refine r_lit 141 rfl hb22 ?_
                                          refine r_loadBA (cs' := [.int .i64 b1.Sign, .slice as2 ns2 cs2]) ag24 sz24 rfl rfl hx27 rfl (i := 6) rfl rfl rfl ?_
                                          refine r_loadBA (cs' := [.int .i64 c1.Sign, .slice as3 ns3 cs3]) ag24 sz24 rfl rfl hx27 rfl (i := 5) rfl rfl rfl ?_
                                          obtain ⟨v27, hv11, hb19⟩ := bind_some hb19
                                          refine r_callG0 ent23 rfl rfl rfl rfl hx27 (big_Compare_ok _ _ _ _ hv11 hx27.sat ((((((((((((((hs2.mono hF1).mono hF2).mono hF3).mono hF4).mono hF5).mono hF6).mono hF7).mono hF8).mono hF9).mono hF10).mono hF11).mono hF12).mono hF13).mono hF14) ((((((((((((((hs3.mono hF1).mono hF2).mono hF3).mono hF4).mono hF5).mono hF6).mono hF7).mono hF8).mono hF9).mono hF10).mono hF11).mono hF12).mono hF13).mono hF14)) ?_
                                          rintro _ Fx19 _ wx40 hF19 hx32 ⟨rfl, rfl⟩
                                          refine r_bin rfl rfl rfl rfl rfl ?_
                                          refine r_pick_false rfl rfl rfl rfl ?_
                                          refine r_nil ?_
                                          refine q_next (fun a ha => ?_)
                                          cases hb19
                                          exact ⟨_, hF19, hx32.pick [0, 1, 2, 3, 4, 5, 6, 7] (by decide) rfl, ha.cut (l := [3, 5, 138, 146]) rfl⟩
                                    · refine r_lit 138 rfl hb18 ?_
                                      refine r_off rfl (by decide) rfl ?_
                                      refine r_off rfl (by decide) rfl ?_
                                      refine r_off rfl (by decide) rfl ?_
                                      refine r_off rfl (by decide) rfl ?_
                                      refine r_off rfl (by decide) rfl ?_
                                      refine r_off rfl (by decide) rfl ?_
                                      refine r_off rfl (by decide) rfl ?_
                                      refine r_off rfl (by decide) rfl ?_
                                      refine r_off rfl (by decide) rfl ?_
                                      refine r_off rfl (by decide) rfl ?_
                                      refine r_off rfl (by decide) rfl ?_
                                      refine r_off rfl (by decide) rfl ?_
                                      refine r_off rfl (by decide) rfl ?_
                                      refine r_off rfl (by decide) rfl ?_
                                      refine r_pick_false rfl rfl rfl rfl ?_
                                      refine r_nil ?_
                                      refine q_next (fun a ha => ?_)
                                      cases hb17
                                      exact ⟨_, Frz.refl _, hx27.pick [0, 1, 2, 3, 4, 5, 6, 7] (by decide) rfl, ha.cut (l := [153]) rfl⟩
                              · clear hm
                                rcases cond_some hb15 with ⟨hb23, hb15⟩ | ⟨hb23, hb15⟩
                                · refine q_lit 127 rfl hb23 ?_
                                  refine q_off rfl rfl rfl ?_
                                  refine q_off rfl rfl rfl ?_
                                  refine q_off rfl rfl rfl ?_
                                  refine q_off rfl rfl rfl ?_
                                  refine q_off rfl rfl rfl ?_
                                  refine q_off rfl rfl rfl ?_
                                  refine q_off rfl rfl rfl ?_
                                  refine q_off rfl rfl rfl ?_
                                  refine q_step (v := .bool true) rfl rfl rfl rfl (fun _ hC => ?_) ?_
                                  · obtain ⟨_, hleq, hq⟩ := hC
                                    refine r_pick_true rfl rfl rfl rfl (r_nil (qq rfl))
                                  refine q_nil (fun a ha => ?_)
                                  cases hb15
                                  exact ha.cut (l := [3, 4, 5, 7, 8, 136]) rfl
                                · refine q_lit 127 rfl hb23 ?_
                                  refine q_step (v := .agg #[.int .i64 v12.1.Sign, .slice as7 ns7 cs7]) rfl rfl rfl rfl (fun _ hC => ?_) ?_
                                  · obtain ⟨_, hleq, hq⟩ := hC
                                    refine r_loadBA (cs' := [.int .i64 v12.1.Sign, .slice as7 ns7 cs7]) ag24 sz24 rfl rfl hq rfl (i := 1) rfl rfl rfl (r_nil (qq rfl))
                                  refine q_step (v := .agg #[.int .i64 v13.1.Sign, .slice as8 ns8 cs8]) rfl rfl rfl rfl (fun _ hC => ?_) ?_
                                  · obtain ⟨_, hleq, hq⟩ := hC
                                    refine r_loadBA (cs' := [.int .i64 v13.1.Sign, .slice as8 ns8 cs8]) ag24 sz24 rfl rfl hq rfl (i := 0) rfl rfl rfl (r_nil (qq rfl))
                                  obtain ⟨v28, hv12, hb15⟩ := bind_some hb15
                                  refine q_callG0 ent23 rfl rfl rfl rfl (fun _ _ hleq hq => big_Compare_ok _ _ _ _ hv12 hq.sat ((hs7.mono hF13).mono hleq) (hs8.mono hleq)) ?_
                                  refine q_step (v := .int .i64 v8) rfl rfl rfl rfl (fun _ hC => ?_) ?_
                                  · obtain ⟨_, hleq, hq⟩ := hC
                                    refine r_move rfl rfl rfl (r_nil (qq rfl))
                                  refine q_step (v := .pointer (some ⟨b4, 0, none⟩)) rfl rfl rfl rfl (fun _ hC => ?_) ?_
                                  · obtain ⟨_, hleq, hq⟩ := hC
                                    refine r_fieldAddr fa24_0 rfl rfl rfl (r_nil (qq rfl))
                                  refine q_step (v := .int .i64 c1.Sign) rfl rfl rfl rfl (fun _ hC => ?_) ?_
                                  · obtain ⟨_, hleq, hq⟩ := hC
                                    refine r_loadB1 ag3 rfl rfl hq rfl (i := 5) rfl rfl (r_nil (qq rfl))
                                  refine q_step (v := .int .i64 (imul .i64 v8 c1.Sign)) rfl rfl rfl rfl (fun _ hC => ?_) ?_
                                  · obtain ⟨_, hleq, hq⟩ := hC
                                    refine r_bin rfl rfl rfl rfl rfl (r_nil (qq rfl))
                                  refine q_step (v := .bool (v28 != (imul .i64 v8 c1.Sign))) rfl rfl rfl rfl (fun _ hC => ?_) ?_
                                  · obtain ⟨_, hleq, hq⟩ := hC
                                    refine r_bin rfl rfl rfl rfl rfl (r_nil (qq rfl))
                                  refine q_step (v := .bool (v28 != (imul .i64 v8 c1.Sign))) rfl rfl rfl rfl (fun _ hC => ?_) ?_
                                  · obtain ⟨_, hleq, hq⟩ := hC
                                    refine r_pick_false rfl rfl rfl rfl (r_nil (qq rfl))
                                  refine q_nil (fun a ha => ?_)
                                  cases hb15
                                  exact ha.cut (l := [3, 4, 5, 7, 8, 136]) rfl
                            · clear hm
                              rcases cond_some hb14 with ⟨hb24, hb14⟩ | ⟨hb24, hb14⟩
                              · refine q_lit 120 rfl hb24 ?_
                                refine q_off rfl rfl rfl ?_
                                refine q_off rfl rfl rfl ?_
                                refine q_off rfl rfl rfl ?_
                                refine q_off rfl rfl rfl ?_
                                refine q_off rfl rfl rfl ?_
                                refine q_step (v := .bool true) rfl rfl rfl rfl (fun _ hC => ?_) ?_
                                · obtain ⟨_, hleq, hq⟩ := hC
                                  refine r_pick_true rfl rfl rfl rfl (r_nil (qq rfl))
                                refine q_nil (fun a ha => ?_)
                                cases hb14
                                exact ha.cut (l := [3, 4, 5, 7, 8, 15, 17, 126]) rfl
                              · refine q_lit 120 rfl hb24 ?_
                                refine q_step (v := .agg #[.int .i64 v10.1.Sign, .slice as5 ns5 cs5]) rfl rfl rfl rfl (fun _ hC => ?_) ?_
                                · obtain ⟨_, hleq, hq⟩ := hC
                                  refine r_loadBA (cs' := [.int .i64 v10.1.Sign, .slice as5 ns5 cs5]) ag24 sz24 rfl rfl hq rfl (i := 3) rfl rfl rfl (r_nil (qq rfl))
                                refine q_step (v := .agg #[.int .i64 v11.1.Sign, .slice as6 ns6 cs6]) rfl rfl rfl rfl (fun _ hC => ?_) ?_
                                · obtain ⟨_, hleq, hq⟩ := hC
                                  refine r_loadBA (cs' := [.int .i64 v11.1.Sign, .slice as6 ns6 cs6]) ag24 sz24 rfl rfl hq rfl (i := 2) rfl rfl rfl (r_nil (qq rfl))
                                obtain ⟨v29, hv13, hb14⟩ := bind_some hb14
                                refine q_callG0 ent23 rfl rfl rfl rfl (fun _ _ hleq hq => big_Compare_ok _ _ _ _ hv13 hq.sat ((((hs5.mono hF11).mono hF12).mono hF13).mono hleq) (((hs6.mono hF12).mono hF13).mono hleq)) ?_
                                refine q_step (v := .int .i64 v8) rfl rfl rfl rfl (fun _ hC => ?_) ?_
                                · obtain ⟨_, hleq, hq⟩ := hC
                                  refine r_move rfl rfl rfl (r_nil (qq rfl))
                                refine q_step (v := .bool (v29 != v8)) rfl rfl rfl rfl (fun _ hC => ?_) ?_
                                · obtain ⟨_, hleq, hq⟩ := hC
                                  refine r_bin rfl rfl rfl rfl rfl (r_nil (qq rfl))
                                refine q_step (v := .bool (v29 != v8)) rfl rfl rfl rfl (fun _ hC => ?_) ?_
                                · obtain ⟨_, hleq, hq⟩ := hC
                                  refine r_pick_false rfl rfl rfl rfl (r_nil (qq rfl))
                                refine q_nil (fun a ha => ?_)
                                cases hb14
                                exact ha.cut (l := [3, 4, 5, 7, 8, 15, 17, 126]) rfl
                          · clear hm
                            rcases cond_some hb13 with ⟨hb25, hb13⟩ | ⟨hb25, hb13⟩
                            · refine q_lit 114 rfl hb25 ?_
                              refine q_off rfl rfl rfl ?_
                              refine q_off rfl rfl rfl ?_
                              refine q_off rfl rfl rfl ?_
                              refine q_off rfl rfl rfl ?_
                              refine q_step (v := .bool true) rfl rfl rfl rfl (fun _ hC => ?_) ?_
                              · obtain ⟨_, hleq, hq⟩ := hC
                                refine r_pick_true rfl rfl rfl rfl (r_nil (qq rfl))
                              refine q_nil (fun a ha => ?_)
                              cases hb13
                              exact ha.cut (l := [3, 4, 5, 7, 8, 11, 13, 15, 17, 119]) rfl
                            · refine q_lit 114 rfl hb25 ?_
                              refine q_step (v := .pointer (some ⟨b5, 0, none⟩)) rfl rfl rfl rfl (fun _ hC => ?_) ?_
                              · obtain ⟨_, hleq, hq⟩ := hC
                                refine r_fieldAddr fa24_0 rfl rfl rfl (r_nil (qq rfl))
                              refine q_step (v := .int .i64 v9.1.Sign) rfl rfl rfl rfl (fun _ hC => ?_) ?_
                              · obtain ⟨_, hleq, hq⟩ := hC
                                refine r_loadB1 ag3 rfl rfl hq rfl (i := 4) rfl rfl (r_nil (qq rfl))
                              refine q_step (v := .int .i64 v8) rfl rfl rfl rfl (fun _ hC => ?_) ?_
                              · obtain ⟨_, hleq, hq⟩ := hC
                                refine r_move rfl rfl rfl (r_nil (qq rfl))
                              refine q_step (v := .bool (v9.1.Sign != v8)) rfl rfl rfl rfl (fun _ hC => ?_) ?_
                              · obtain ⟨_, hleq, hq⟩ := hC
                                refine r_bin rfl rfl rfl rfl rfl (r_nil (qq rfl))
                              refine q_step (v := .bool (v9.1.Sign != v8)) rfl rfl rfl rfl (fun _ hC => ?_) ?_
                              · obtain ⟨_, hleq, hq⟩ := hC
                                refine r_pick_false rfl rfl rfl rfl (r_nil (qq rfl))
                              refine q_nil (fun a ha => ?_)
                              cases hb13
                              exact ha.cut (l := [3, 4, 5, 7, 8, 11, 13, 15, 17, 119]) rfl
                        · clear hm
                          rcases cond_some hb12 with ⟨hb26, hb12⟩ | ⟨hb26, hb12⟩
                          · refine q_lit 106 rfl hb26 ?_
                            refine q_off rfl rfl rfl ?_
                            refine q_off rfl rfl rfl ?_
                            refine q_off rfl rfl rfl ?_
                            refine q_off rfl rfl rfl ?_
                            refine q_off rfl rfl rfl ?_
                            refine q_off rfl rfl rfl ?_
                            refine q_step (v := .bool true) rfl rfl rfl rfl (fun _ hC => ?_) ?_
                            · obtain ⟨_, hleq, hq⟩ := hC
                              refine r_pick_true rfl rfl rfl rfl (r_nil (qq rfl))
                            refine q_nil (fun a ha => ?_)
                            cases hb12
                            exact ha.cut (l := [3, 4, 5, 7, 8, 9, 11, 13, 15, 17, 113]) rfl
                          · refine q_lit 106 rfl hb26 ?_
                            refine q_step (v := .agg #[.int .i64 b1.Sign, .slice as2 ns2 cs2]) rfl rfl rfl rfl (fun _ hC => ?_) ?_
                            · obtain ⟨_, hleq, hq⟩ := hC
                              refine r_loadBA (cs' := [.int .i64 b1.Sign, .slice as2 ns2 cs2]) ag24 sz24 rfl rfl hq rfl (i := 6) rfl rfl rfl (r_nil (qq rfl))
                            refine q_step (v := .agg #[.int .i64 ax1.Sign, .slice as1 ns1 cs1]) rfl rfl rfl rfl (fun _ hC => ?_) ?_
                            · obtain ⟨_, hleq, hq⟩ := hC
                              refine r_loadBA (cs' := [.int .i64 ax1.Sign, .slice as1 ns1 cs1]) ag24 sz24 rfl rfl hq rfl (i := 7) rfl rfl rfl (r_nil (qq rfl))
                            obtain ⟨v30, hv14, hb12⟩ := bind_some hb12
                            refine q_callG0 ent23 rfl rfl rfl rfl (fun _ _ hleq hq => big_Compare_ok _ _ _ _ hv14 hq.sat ((((((((((((((hs2.mono hF1).mono hF2).mono hF3).mono hF4).mono hF5).mono hF6).mono hF7).mono hF8).mono hF9).mono hF10).mono hF11).mono hF12).mono hF13).mono hleq) ((((((((((((((hs1.mono hF1).mono hF2).mono hF3).mono hF4).mono hF5).mono hF6).mono hF7).mono hF8).mono hF9).mono hF10).mono hF11).mono hF12).mono hF13).mono hleq)) ?_
                            refine q_step (v := .int .i64 v8) rfl rfl rfl rfl (fun _ hC => ?_) ?_
                            · obtain ⟨_, hleq, hq⟩ := hC
                              refine r_move rfl rfl rfl (r_nil (qq rfl))
                            refine q_step (v := .int .i64 (IntKind.i64.wrap (0 - v8))) rfl rfl rfl rfl (fun _ hC => ?_) ?_
                            · obtain ⟨_, hleq, hq⟩ := hC
                              refine r_neg rfl rfl rfl (r_nil (qq rfl))
                            refine q_step (v := .bool (v30 != (IntKind.i64.wrap (0 - v8)))) rfl rfl rfl rfl (fun _ hC => ?_) ?_
                            · obtain ⟨_, hleq, hq⟩ := hC
                              refine r_bin rfl rfl rfl rfl rfl (r_nil (qq rfl))
                            refine q_step (v := .bool (v30 != (IntKind.i64.wrap (0 - v8)))) rfl rfl rfl rfl (fun _ hC => ?_) ?_
                            · obtain ⟨_, hleq, hq⟩ := hC
                              refine r_pick_false rfl rfl rfl rfl (r_nil (qq rfl))
                            refine q_nil (fun a ha => ?_)
                            cases hb12
                            exact ha.cut (l := [3, 4, 5, 7, 8, 9, 11, 13, 15, 17, 113]) rfl
                    · clear hm
                      rcases cond_some hb10 with ⟨hb27, hb10⟩ | ⟨hb27, hb10⟩
                      · refine r_lit 96 rfl hb27 ?_
                        refine r_off rfl (by decide) rfl ?_
                        refine r_off rfl (by decide) rfl ?_
                        refine r_pick_true rfl rfl rfl rfl ?_
                        refine r_nil ?_
                        refine q_next (fun a ha => ?_)
                        cases hb10
                        exact ⟨rfl, ha.cut (l := [3, 4, 5, 7, 8, 9, 11, 13, 15, 17, 99]) rfl⟩
                      · refine r_lit 96 rfl hb27 ?_
                        refine r_move rfl rfl rfl ?_
                        refine r_bin rfl rfl rfl rfl rfl ?_
                        refine r_pick_false rfl rfl rfl rfl ?_
                        refine r_nil ?_
                        refine q_next (fun a ha => ?_)
                        cases hb10
                        exact ⟨rfl, ha.cut (l := [3, 4, 5, 7, 8, 9, 11, 13, 15, 17, 99]) rfl⟩
                  · clear hm
                    rcases cond_some hb9 with ⟨hb28, hb9⟩ | ⟨hb28, hb9⟩
                    · refine r_lit 92 rfl hb28 ?_
                      refine r_off rfl (by decide) rfl ?_
                      refine r_off rfl (by decide) rfl ?_
                      refine r_pick_true rfl rfl rfl rfl ?_
                      refine r_nil ?_
                      refine q_next (fun a ha => ?_)
                      cases hb9
                      exact ⟨rfl, ha.cut (l := [3, 4, 5, 7, 8, 9, 11, 13, 15, 17, 18, 95]) rfl⟩
                    · refine r_lit 92 rfl hb28 ?_
                      refine r_move rfl rfl rfl ?_
                      refine r_bin rfl rfl rfl rfl rfl ?_
                      refine r_pick_false rfl rfl rfl rfl ?_
                      refine r_nil ?_
                      refine q_next (fun a ha => ?_)
                      cases hb9
                      exact ⟨rfl, ha.cut (l := [3, 4, 5, 7, 8, 9, 11, 13, 15, 17, 18, 95]) rfl⟩
                · clear hm
                  rcases cond_some hb8 with ⟨hb29, hb8⟩ | ⟨hb29, hb8⟩
                  · refine r_lit 88 rfl hb29 ?_
                    refine r_off rfl (by decide) rfl ?_
                    refine r_off rfl (by decide) rfl ?_
                    refine r_pick_true rfl rfl rfl rfl ?_
                    refine r_nil ?_
                    refine q_next (fun a ha => ?_)
                    cases hb8
                    exact ⟨rfl, ha.cut (l := [3, 4, 5, 7, 8, 9, 11, 13, 15, 16, 17, 18, 91]) rfl⟩
                  · refine r_lit 88 rfl hb29 ?_
                    refine r_move rfl rfl rfl ?_
                    refine r_bin rfl rfl rfl rfl rfl ?_
                    refine r_pick_false rfl rfl rfl rfl ?_
                    refine r_nil ?_
                    refine q_next (fun a ha => ?_)
                    cases hb8
                    exact ⟨rfl, ha.cut (l := [3, 4, 5, 7, 8, 9, 11, 13, 15, 16, 17, 18, 91]) rfl⟩
              · clear hm
                rcases cond_some hb7 with ⟨hb30, hb7⟩ | ⟨hb30, hb7⟩
                · refine r_lit 84 rfl hb30 ?_
                  refine r_off rfl (by decide) rfl ?_
                  refine r_off rfl (by decide) rfl ?_
                  refine r_pick_true rfl rfl rfl rfl ?_
                  refine r_nil ?_
                  refine q_next (fun a ha => ?_)
                  cases hb7
                  exact ⟨rfl, ha.cut (l := [3, 4, 5, 7, 8, 9, 11, 13, 14, 15, 16, 17, 18, 87]) rfl⟩
                · refine r_lit 84 rfl hb30 ?_
                  refine r_move rfl rfl rfl ?_
                  refine r_bin rfl rfl rfl rfl rfl ?_
                  refine r_pick_false rfl rfl rfl rfl ?_
                  refine r_nil ?_
                  refine q_next (fun a ha => ?_)
                  cases hb7
                  exact ⟨rfl, ha.cut (l := [3, 4, 5, 7, 8, 9, 11, 13, 14, 15, 16, 17, 18, 87]) rfl⟩
          · clear hm
            rcases cond_some hb5 with ⟨hb31, hb5⟩ | ⟨hb31, hb5⟩
            · refine r_lit 43 rfl hb31 ?_
              refine r_off rfl (by decide) rfl ?_
              refine r_off rfl (by decide) rfl ?_
              refine r_off rfl (by decide) rfl ?_
              refine r_pick_true rfl rfl rfl rfl ?_
              refine r_nil ?_
              refine q_next (fun a ha => ?_)
              cases hb5
              exact ⟨_, Frz.refl _, hx9.pick [0, 1, 2] (by decide) rfl, ha.cut (l := [3, 4, 5, 7, 47]) rfl⟩
            · refine r_lit 43 rfl hb31 ?_
              refine r_loadBA (cs' := [.int .i64 c1.Sign, .slice as3 ns3 cs3]) ag24 sz24 rfl rfl hx9 rfl (i := 0) rfl rfl rfl ?_
              obtain ⟨v31, hv15, hb5⟩ := bind_some hb5
              refine r_callG0 ent11 rfl rfl rfl rfl hx9 (big_Right_ok _ _ _ hv15 hx9.sat ((((((hs3.mono hF1).mono hF2).mono hF3).mono hF4).mono hF5).mono hF6)) ?_
              rintro _ Fx20 _ wx41 hF20 hx33 ⟨rfl, rfl⟩
              refine r_not rfl rfl rfl ?_
              refine r_pick_false rfl rfl rfl rfl ?_
              refine r_nil ?_
              refine q_next (fun a ha => ?_)
              cases hb5
              exact ⟨_, hF20, hx33.pick [0, 1, 2] (by decide) rfl, ha.cut (l := [3, 4, 5, 7, 47]) rfl⟩
        · clear hm
          rcases cond_some hb4 with ⟨hb32, hb4⟩ | ⟨hb32, hb4⟩
          · refine r_lit 38 rfl hb32 ?_
            refine r_off rfl (by decide) rfl ?_
            refine r_off rfl (by decide) rfl ?_
            refine r_off rfl (by decide) rfl ?_
            refine r_pick_true rfl rfl rfl rfl ?_
            refine r_nil ?_
            refine q_next (fun a ha => ?_)
            cases hb4
            exact ⟨_, Frz.refl _, hx8.pick [0, 1, 2] (by decide) rfl, ha.cut (l := [3, 4, 5, 7, 42]) rfl⟩
          · refine r_lit 38 rfl hb32 ?_
            refine r_loadBA (cs' := [.int .i64 b1.Sign, .slice as2 ns2 cs2]) ag24 sz24 rfl rfl hx8 rfl (i := 1) rfl rfl rfl ?_
            obtain ⟨v32, hv16, hb4⟩ := bind_some hb4
            refine r_callG0 ent11 rfl rfl rfl rfl hx8 (big_Right_ok _ _ _ hv16 hx8.sat (((((hs2.mono hF1).mono hF2).mono hF3).mono hF4).mono hF5)) ?_
            rintro _ Fx21 _ wx42 hF21 hx34 ⟨rfl, rfl⟩
            refine r_not rfl rfl rfl ?_
            refine r_pick_false rfl rfl rfl rfl ?_
            refine r_nil ?_
            refine q_next (fun a ha => ?_)
            cases hb4
            exact ⟨_, hF21, hx34.pick [0, 1, 2] (by decide) rfl, ha.cut (l := [3, 4, 5, 7, 42]) rfl⟩
      · clear hm
        rcases cond_some hb3 with ⟨hb33, hb3⟩ | ⟨hb33, hb3⟩
        · refine r_lit 33 rfl hb33 ?_
          refine r_off rfl (by decide) rfl ?_
          refine r_off rfl (by decide) rfl ?_
          refine r_off rfl (by decide) rfl ?_
          refine r_pick_true rfl rfl rfl rfl ?_
          refine r_nil ?_
          refine q_next (fun a ha => ?_)
          cases hb3
          exact ⟨_, Frz.refl _, hx7.pick [0, 1, 2] (by decide) rfl, ha.cut (l := [3, 4, 5, 7, 37]) rfl⟩
        · refine r_lit 33 rfl hb33 ?_
          refine r_loadBA (cs' := [.int .i64 ax1.Sign, .slice as1 ns1 cs1]) ag24 sz24 rfl rfl hx7 rfl (i := 2) rfl rfl rfl ?_
          obtain ⟨v33, hv17, hb3⟩ := bind_some hb3
          refine r_callG0 ent11 rfl rfl rfl rfl hx7 (big_Right_ok _ _ _ hv17 hx7.sat ((((hs1.mono hF1).mono hF2).mono hF3).mono hF4)) ?_
          rintro _ Fx22 _ wx43 hF22 hx35 ⟨rfl, rfl⟩
          refine r_not rfl rfl rfl ?_
          refine r_pick_false rfl rfl rfl rfl ?_
          refine r_nil ?_
          refine q_next (fun a ha => ?_)
          cases hb3
          exact ⟨_, hF22, hx35.pick [0, 1, 2] (by decide) rfl, ha.cut (l := [3, 4, 5, 7, 37]) rfl⟩
    · clear hm
      rcases cond_some hb2 with ⟨hb34, hb2⟩ | ⟨hb34, hb2⟩
      · refine r_lit 28 rfl hb34 ?_
        refine r_off rfl (by decide) rfl ?_
        refine r_off rfl (by decide) rfl ?_
        refine r_off rfl (by decide) rfl ?_
        refine r_pick_true rfl rfl rfl rfl ?_
        refine r_nil ?_
        refine q_next (fun a ha => ?_)
        cases hb2
        exact ⟨_, Frz.refl _, hx6.pick [0, 1, 2] (by decide) rfl, ha.cut (l := [3, 4, 5, 7, 32]) rfl⟩
      · refine r_lit 28 rfl hb34 ?_
        refine r_loadBA (cs' := [.int .i64 c1.Sign, .slice as3 ns3 cs3]) ag24 sz24 rfl rfl hx6 rfl (i := 0) rfl rfl rfl ?_
        obtain ⟨v34, hv18, hb2⟩ := bind_some hb2
        refine r_callG0 ent10 rfl rfl rfl rfl hx6 (law04_few_ok _ _ _ _ hv18 hx6.sat (((hs3.mono hF1).mono hF2).mono hF3)) ?_
        rintro _ Fx23 _ wx44 hF23 hx36 ⟨rfl, rfl⟩
        refine r_not rfl rfl rfl ?_
        refine r_pick_false rfl rfl rfl rfl ?_
        refine r_nil ?_
        refine q_next (fun a ha => ?_)
        cases hb2
        exact ⟨_, hF23, hx36.pick [0, 1, 2] (by decide) rfl, ha.cut (l := [3, 4, 5, 7, 32]) rfl⟩
  · clear hm
    rcases cond_some hb1 with ⟨hb35, hb1⟩ | ⟨hb35, hb1⟩
    · refine r_lit 23 rfl hb35 ?_
      refine r_off rfl (by decide) rfl ?_
      refine r_off rfl (by decide) rfl ?_
      refine r_off rfl (by decide) rfl ?_
      refine r_pick_true rfl rfl rfl rfl ?_
      refine r_nil ?_
      refine q_next (fun a ha => ?_)
      cases hb1
      exact ⟨_, Frz.refl _, hx5.pick [0, 1, 2] (by decide) rfl, ha.cut (l := [3, 4, 5, 7, 27]) rfl⟩
    · refine r_lit 23 rfl hb35 ?_
      refine r_loadBA (cs' := [.int .i64 b1.Sign, .slice as2 ns2 cs2]) ag24 sz24 rfl rfl hx5 rfl (i := 1) rfl rfl rfl ?_
      obtain ⟨v35, hv19, hb1⟩ := bind_some hb1
      refine r_callG0 ent10 rfl rfl rfl rfl hx5 (law04_few_ok _ _ _ _ hv19 hx5.sat ((hs2.mono hF1).mono hF2)) ?_
      rintro _ Fx24 _ wx45 hF24 hx37 ⟨rfl, rfl⟩
      refine r_not rfl rfl rfl ?_
      refine r_pick_false rfl rfl rfl rfl ?_
      refine r_nil ?_
      refine q_next (fun a ha => ?_)
      cases hb1
      exact ⟨_, hF24, hx37.pick [0, 1, 2] (by decide) rfl, ha.cut (l := [3, 4, 5, 7, 27]) rfl⟩


end Go.Proofs.YtaiiclbemlmmaaaDoor.M
