/-
  THE MIRRORS of the big integers' functions, of their reference and of the laws, and that each call returns what its mirror says. Printed by gen.py.
-/
import Derived.Test.YtaiiclbemlmmaaaDoorRows
import Derived.Test.YtaiiclbemlmmaaaDoorTrim
import Derived.Test.YtaiiclbemlmmaaaDoorMirD
namespace Go.Proofs.YtaiiclbemlmmaaaDoor.M
open Go Go.RowKit Rt

theorem ent9 : Ent Tryd.prog 9 := fun _ _ => by kernel_rfl

theorem ent10 : Ent Tryd.prog 10 := fun _ _ => by kernel_rfl

theorem ent23 : Ent Tryd.prog 23 := fun _ _ => by kernel_rfl

def law04_BigDivides (n : Nat) (ax1 : Big) (b1 : Big) : Option Bool :=
  (law04_small n).bind fun v1 =>
  (law04_few n (⟨ax1.Sign, ax1.Digits⟩ : Big) 40).bind fun v2 =>
  (bif !v2 then
    some true
  else
    (law04_few n (⟨b1.Sign, b1.Digits⟩ : Big) 40).bind fun v29 =>
    some (!v29)).bind fun v3 =>
  (bif v3 then
    some true
  else
    (big_Right n (⟨ax1.Sign, ax1.Digits⟩ : Big)).bind fun v28 =>
    some (!v28)).bind fun v4 =>
  (bif v4 then
    some true
  else
    (big_Right n (⟨b1.Sign, b1.Digits⟩ : Big)).bind fun v27 =>
    some (!v27)).bind fun v5 =>
  bif v5 then
    some v1
  else
    (big_Div n (⟨ax1.Sign, ax1.Digits⟩ : Big) (⟨b1.Sign, b1.Digits⟩ : Big)).bind fun v6 =>
    bif b1.Sign == 0 then
      (bif v1 then
        some (v6.2.2 == 14)
      else
        some false).bind fun v7 =>
      (bif v7 then
        (big_Same n (⟨v6.1.Sign, v6.1.Digits⟩ : Big) (⟨0, []⟩ : Big)).bind fun v11 =>
        some v11
      else
        some false).bind fun v8 =>
      (bif v8 then
        (big_Same n (⟨v6.2.1.Sign, v6.2.1.Digits⟩ : Big) (⟨0, []⟩ : Big)).bind fun v10 =>
        some v10
      else
        some false).bind fun v9 =>
      some v9
    else
      (big_Mul n (⟨v6.1.Sign, v6.1.Digits⟩ : Big) (⟨b1.Sign, b1.Digits⟩ : Big)).bind fun v12 =>
      (big_Add n (⟨v12.1.Sign, v12.1.Digits⟩ : Big) (⟨v6.2.1.Sign, v6.2.1.Digits⟩ : Big)).bind fun v13 =>
      (bif v6.2.2 != 0 then
        some true
      else
        some (v12.2 != 0)).bind fun v14 =>
      (bif v14 then
        some true
      else
        some (v13.2 != 0)).bind fun v15 =>
      (bif v15 then
        some true
      else
        (big_Right n (⟨v6.1.Sign, v6.1.Digits⟩ : Big)).bind fun v26 =>
        some (!v26)).bind fun v16 =>
      (bif v16 then
        some true
      else
        (big_Right n (⟨v6.2.1.Sign, v6.2.1.Digits⟩ : Big)).bind fun v25 =>
        some (!v25)).bind fun v17 =>
      (bif v17 then
        some true
      else
        (big_Same n (⟨v13.1.Sign, v13.1.Digits⟩ : Big) (⟨ax1.Sign, ax1.Digits⟩ : Big)).bind fun v24 =>
        some (!v24)).bind fun v18 =>
      bif v18 then
        some false
      else
        (big_Compare n (⟨v6.2.1.Sign, v6.2.1.Digits⟩ : Big) (⟨b1.Sign, b1.Digits⟩ : Big)).bind fun v19 =>
        (bif decide (b1.Sign < 0) then
          (big_Compare n (⟨v6.2.1.Sign, v6.2.1.Digits⟩ : Big) (⟨b1.Sign, b1.Digits⟩ : Big)).bind fun v23 =>
          some (v23 == 1)
        else
          some (v19 == (-1))).bind fun less1 =>
        (bif v1 then
          (bif v6.2.1.Sign == 0 then
            some true
          else
            some (v6.2.1.Sign == b1.Sign)).bind fun v22 =>
          some v22
        else
          some false).bind fun v20 =>
        (bif v20 then
          some less1
        else
          some false).bind fun v21 =>
        some v21

set_option maxHeartbeats 1000000 in
set_option maxRecDepth 1000000 in
theorem law04_BigDivides_ok (n : Nat) (ax1 : Big) (b1 : Big) (r : Bool) (hm : law04_BigDivides n ax1 b1 = some r) {w : World} {F : Frz} (hs : Sat F w) {as1 : Option Addr} {ns1 : Nat} {cs1 : Nat} {as2 : Option Addr} {ns2 : Nat} {cs2 : Nat} (hs1 : SlR (Rp.int .i64) F as1 ns1 cs1 ax1.Digits) (hs2 : SlR (Rp.int .i64) F as2 ns2 cs2 b1.Digits) (hg2 : FX F 2 (Lib.pow10Tab.map (Value.int .u64))) :
    Calls Tryd.prog 6 #[.agg #[.int .i64 ax1.Sign, .slice as1 ns1 cs1], .agg #[.int .i64 b1.Sign, .slice as2 ns2 cs2]] w fun e w' => ∃ v F' O', e = .returned v ∧ HS F w [] F' O' w' ∧ (v = .bool r ∧ O' = []) := by
  unfold law04_BigDivides at hm
  have h := HS.init hs
  refine calls_of (args := [.agg #[.int .i64 ax1.Sign, .slice as1 ns1 cs1], .agg #[.int .i64 b1.Sign, .slice as2 ns2 cs2]]) 124 Tryd.func6 rfl rfl rfl ?_
  refine c_seq ?_
  refine c_region ?_
  refine r_box rfl rfl rfl rfl h ?_
  intro b2 wx1 hx1
  refine r_box rfl rfl rfl rfl hx1 ?_
  intro b3 wx2 hx2
  refine r_assign rfl rfl rfl ?_
  refine r_nil ?_
  refine q_then ?_
  refine c_seq ?_
  refine c_region ?_
  obtain ⟨v1, hv1, hm⟩ := bind_some hm
  refine r_callG0 ent9 rfl rfl rfl rfl hx2 (law04_small_ok _ _ hv1 hx2.sat hg2) ?_
  rintro _ Fx1 _ wx3 hF1 hx3 ⟨rfl, rfl⟩
  refine r_assign rfl rfl rfl ?_
  refine r_nil ?_
  refine q_then ?_
  refine c_seq ?_
  refine c_seq ?_
  refine c_region ?_
  refine r_loadBA (cs' := [.int .i64 ax1.Sign, .slice as1 ns1 cs1]) ag24 sz24 rfl rfl hx3 rfl (i := 1) rfl rfl rfl ?_
  obtain ⟨v2, hv2, hm⟩ := bind_some hm
  refine r_callG0 ent10 rfl rfl rfl rfl hx3 (law04_few_ok _ _ _ _ hv2 hx3.sat (hs1.mono hF1)) ?_
  rintro _ Fx2 _ wx4 hF2 hx4 ⟨rfl, rfl⟩
  refine r_not rfl rfl rfl ?_
  refine r_move rfl rfl rfl ?_
  obtain ⟨v3, hb1, hm⟩ := bind_some hm
  refine r_mid 4 (fun a w' => ∃ (Fx3 : Frz), Frz.le Fx2 Fx3 ∧ HS F w [] Fx3 [.box b3 24 [.int .i64 b1.Sign, .slice as2 ns2 cs2], .box b2 24 [.int .i64 ax1.Sign, .slice as1 ns1 cs1]] w' ∧ Has 124 a [(2, .pointer (some ⟨b2, 0, none⟩)), (3, .pointer (some ⟨b3, 0, none⟩)), (5, .bool v1), (22, .bool v3)]) ?_ ?_
  · rintro a wx5 ⟨Fx3, hF3, hx5, hax1⟩
    refine rw_apply hax1 ?_
    refine r_move rfl rfl rfl ?_
    obtain ⟨v4, hb2, hm⟩ := bind_some hm
    refine r_mid 4 (fun a w' => ∃ (Fx4 : Frz), Frz.le Fx3 Fx4 ∧ HS F w [] Fx4 [.box b3 24 [.int .i64 b1.Sign, .slice as2 ns2 cs2], .box b2 24 [.int .i64 ax1.Sign, .slice as1 ns1 cs1]] w' ∧ Has 124 a [(2, .pointer (some ⟨b2, 0, none⟩)), (3, .pointer (some ⟨b3, 0, none⟩)), (5, .bool v1), (27, .bool v4)]) ?_ ?_
    · rintro a wx6 ⟨Fx4, hF4, hx6, hax2⟩
      refine rw_apply hax2 ?_
      refine r_move rfl rfl rfl ?_
      obtain ⟨v5, hb3, hm⟩ := bind_some hm
      refine r_mid 4 (fun a w' => ∃ (Fx5 : Frz), Frz.le Fx4 Fx5 ∧ HS F w [] Fx5 [.box b3 24 [.int .i64 b1.Sign, .slice as2 ns2 cs2], .box b2 24 [.int .i64 ax1.Sign, .slice as1 ns1 cs1]] w' ∧ Has 124 a [(2, .pointer (some ⟨b2, 0, none⟩)), (3, .pointer (some ⟨b3, 0, none⟩)), (5, .bool v1), (32, .bool v5)]) ?_ ?_
      · rintro a wx7 ⟨Fx5, hF5, hx7, hax3⟩
        refine rw_apply hax3 ?_
        refine r_nil ?_
        refine q_then ?_
        rcases cond_some hm with ⟨hb4, hm⟩ | ⟨hb4, hm⟩
        · refine c_lit 32 rfl hb4 ?_
          refine c_true rfl ?_
          refine c_seq ?_
          refine c_region ?_
          refine r_move rfl rfl rfl ?_
          refine r_assign rfl rfl rfl ?_
          refine r_nil ?_
          refine q_then ?_
          refine c_ret ?_
          refine q_then_ret ?_
          refine b_ret1 rfl rfl ?_
          obtain rfl := Option.some.inj hm
          exact ⟨_, _, _, rfl, hx7.pick [] (by decide) rfl, rfl, rfl⟩
        · refine c_lit 32 rfl hb4 ?_
          refine c_false rfl ?_
          refine c_skip ?_
          refine q_then ?_
          refine c_seq ?_
          refine c_region ?_
          refine r_loadBA (cs' := [.int .i64 ax1.Sign, .slice as1 ns1 cs1]) ag24 sz24 rfl rfl hx7 rfl (i := 1) rfl rfl rfl ?_
          refine r_loadBA (cs' := [.int .i64 b1.Sign, .slice as2 ns2 cs2]) ag24 sz24 rfl rfl hx7 rfl (i := 0) rfl rfl rfl ?_
          obtain ⟨v6, hv3, hm⟩ := bind_some hm
          refine r_callG0 ent15 rfl rfl rfl rfl hx7 (big_Div_ok _ _ _ _ hv3 hx7.sat (((((hs1.mono hF1).mono hF2).mono hF3).mono hF4).mono hF5) (((((hs2.mono hF1).mono hF2).mono hF3).mono hF4).mono hF5)) ?_
          rintro _ Fx6 _ wx8 hF6 hx8 ⟨as3, ns3, cs3, as4, ns4, cs4, rfl, rfl, hs3, hs4⟩
          refine r_move rfl rfl rfl ?_
          refine r_extract rfl rfl rfl rfl ?_
          refine r_extract rfl rfl rfl rfl ?_
          refine r_extract rfl rfl rfl rfl ?_
          refine r_alloc ze24 rfl rfl rfl hx8 ?_
          intro b4 wx9 hx9
          refine r_alloc ze24 rfl rfl rfl hx9 ?_
          intro b5 wx10 hx10
          refine r_store sz24 rfl hx10 rfl rfl rfl rfl (i := 1) rfl rfl rfl rfl ?_
          intro wx11 hx11
          refine r_store sz24 rfl hx11 rfl rfl rfl rfl (i := 0) rfl rfl rfl rfl ?_
          intro wx12 hx12
          refine r_assign rfl rfl rfl ?_
          refine r_nil ?_
          refine q_then ?_
          refine c_seq ?_
          refine c_seq ?_
          refine c_region ?_
          refine r_fieldAddr fa24_0 rfl rfl rfl ?_
          refine r_loadB1 ag3 rfl rfl hx12 rfl (i := 2) rfl rfl ?_
          refine r_bin rfl rfl rfl rfl rfl ?_
          refine r_nil ?_
          refine q_then ?_
          rcases cond_some hm with ⟨hb5, hm⟩ | ⟨hb5, hm⟩
          · refine c_lit 43 rfl hb5 ?_
            refine c_true rfl ?_
            refine c_seq ?_
            refine c_region ?_
            refine r_move rfl rfl rfl ?_
            refine r_move rfl rfl rfl ?_
            obtain ⟨v7, hb6, hm⟩ := bind_some hm
            refine r_mid 3 (fun a w' => wx12 = w' ∧ Has 124 a [(6, .pointer (some ⟨b4, 0, none⟩)), (7, .pointer (some ⟨b5, 0, none⟩)), (48, .bool v7)]) ?_ ?_
            · rintro a wx13 ⟨rfl, hax4⟩
              refine rw_apply hax4 ?_
              refine r_move rfl rfl rfl ?_
              obtain ⟨v8, hb7, hm⟩ := bind_some hm
              refine r_mid 4 (fun a w' => ∃ (Fx7 : Frz), Frz.le Fx6 Fx7 ∧ HS F w [] Fx7 [.box b5 24 [.int .i64 v6.2.1.Sign, .slice as4 ns4 cs4], .box b4 24 [.int .i64 v6.1.Sign, .slice as3 ns3 cs3], .box b3 24 [.int .i64 b1.Sign, .slice as2 ns2 cs2], .box b2 24 [.int .i64 ax1.Sign, .slice as1 ns1 cs1]] w' ∧ Has 124 a [(7, .pointer (some ⟨b5, 0, none⟩)), (53, .bool v8)]) ?_ ?_
              · rintro a wx14 ⟨Fx7, hF7, hx13, hax5⟩
                refine rw_apply hax5 ?_
                refine r_move rfl rfl rfl ?_
                obtain ⟨v9, hb8, hm⟩ := bind_some hm
                refine r_mid 4 (fun a w' => ∃ (Fx8 : Frz), Frz.le Fx7 Fx8 ∧ HS F w [] Fx8 [.box b5 24 [.int .i64 v6.2.1.Sign, .slice as4 ns4 cs4], .box b4 24 [.int .i64 v6.1.Sign, .slice as3 ns3 cs3], .box b3 24 [.int .i64 b1.Sign, .slice as2 ns2 cs2], .box b2 24 [.int .i64 ax1.Sign, .slice as1 ns1 cs1]] w' ∧ Has 124 a [(58, .bool v9)]) ?_ ?_
                · rintro a wx15 ⟨Fx8, hF8, hx14, hax6⟩
                  refine rw_apply hax6 ?_
                  refine r_assign rfl rfl rfl ?_
                  refine r_nil ?_
                  refine q_then ?_
                  refine c_ret ?_
                  refine q_then_ret ?_
                  refine b_ret1 rfl rfl ?_
                  obtain rfl := Option.some.inj hm
                  exact ⟨_, _, _, rfl, hx14.pick [] (by decide) rfl, rfl, rfl⟩
                · clear hm
                  rcases cond_some hb8 with ⟨hb9, hb8⟩ | ⟨hb9, hb8⟩
                  · refine r_lit 54 rfl hb9 ?_
                    refine r_loadBA (cs' := [.int .i64 v6.2.1.Sign, .slice as4 ns4 cs4]) ag24 sz24 rfl rfl hx13 rfl (i := 0) rfl rfl rfl ?_
                    refine r_build (v := .agg #[.int .i64 0, .slice none 0 0]) rfl rfl rfl (fun _ => by kernel_rfl) ?_
                    obtain ⟨v10, hv4, hb8⟩ := bind_some hb8
                    refine r_callG0 ent14 rfl rfl rfl rfl hx13 (big_Same_ok _ _ _ _ hv4 hx13.sat (hs4.mono hF7) (SlR.nil _ _)) ?_
                    rintro _ Fx9 _ wx16 hF9 hx15 ⟨rfl, rfl⟩
                    refine r_pick_true rfl rfl rfl rfl ?_
                    refine r_nil ?_
                    refine q_next (fun a ha => ?_)
                    cases hb8
                    exact ⟨_, hF9, hx15.pick [0, 1, 2, 3] (by decide) rfl, ha.cut (l := [58]) rfl⟩
                  · refine r_lit 54 rfl hb9 ?_
                    refine r_off rfl (by decide) rfl ?_
                    refine r_off rfl (by decide) rfl ?_
                    refine r_off rfl (by decide) rfl ?_
                    refine r_pick_false rfl rfl rfl rfl ?_
                    refine r_nil ?_
                    refine q_next (fun a ha => ?_)
                    cases hb8
                    exact ⟨_, Frz.refl _, hx13.pick [0, 1, 2, 3] (by decide) rfl, ha.cut (l := [58]) rfl⟩
              · clear hm
                rcases cond_some hb7 with ⟨hb10, hb7⟩ | ⟨hb10, hb7⟩
                · refine r_lit 49 rfl hb10 ?_
                  refine r_loadBA (cs' := [.int .i64 v6.1.Sign, .slice as3 ns3 cs3]) ag24 sz24 rfl rfl hx12 rfl (i := 1) rfl rfl rfl ?_
                  refine r_build (v := .agg #[.int .i64 0, .slice none 0 0]) rfl rfl rfl (fun _ => by kernel_rfl) ?_
                  obtain ⟨v11, hv5, hb7⟩ := bind_some hb7
                  refine r_callG0 ent14 rfl rfl rfl rfl hx12 (big_Same_ok _ _ _ _ hv5 hx12.sat hs3 (SlR.nil _ _)) ?_
                  rintro _ Fx10 _ wx17 hF10 hx16 ⟨rfl, rfl⟩
                  refine r_pick_true rfl rfl rfl rfl ?_
                  refine r_nil ?_
                  refine q_next (fun a ha => ?_)
                  cases hb7
                  exact ⟨_, hF10, hx16.pick [0, 1, 2, 3] (by decide) rfl, ha.cut (l := [7, 53]) rfl⟩
                · refine r_lit 49 rfl hb10 ?_
                  refine r_off rfl (by decide) rfl ?_
                  refine r_off rfl (by decide) rfl ?_
                  refine r_off rfl (by decide) rfl ?_
                  refine r_pick_false rfl rfl rfl rfl ?_
                  refine r_nil ?_
                  refine q_next (fun a ha => ?_)
                  cases hb7
                  exact ⟨_, Frz.refl _, hx12.pick [0, 1, 2, 3] (by decide) rfl, ha.cut (l := [7, 53]) rfl⟩
            · clear hm
              rcases cond_some hb6 with ⟨hb11, hb6⟩ | ⟨hb11, hb6⟩
              · refine r_lit 45 rfl hb11 ?_
                refine r_move rfl rfl rfl ?_
                refine r_bin rfl rfl rfl rfl rfl ?_
                refine r_pick_true rfl rfl rfl rfl ?_
                refine r_nil ?_
                refine q_next (fun a ha => ?_)
                cases hb6
                exact ⟨rfl, ha.cut (l := [6, 7, 48]) rfl⟩
              · refine r_lit 45 rfl hb11 ?_
                refine r_off rfl (by decide) rfl ?_
                refine r_off rfl (by decide) rfl ?_
                refine r_pick_false rfl rfl rfl rfl ?_
                refine r_nil ?_
                refine q_next (fun a ha => ?_)
                cases hb6
                exact ⟨rfl, ha.cut (l := [6, 7, 48]) rfl⟩
          · refine c_lit 43 rfl hb5 ?_
            refine c_false rfl ?_
            refine c_skip ?_
            refine q_then ?_
            refine c_seq ?_
            refine c_region ?_
            refine r_loadBA (cs' := [.int .i64 v6.1.Sign, .slice as3 ns3 cs3]) ag24 sz24 rfl rfl hx12 rfl (i := 1) rfl rfl rfl ?_
            refine r_loadBA (cs' := [.int .i64 b1.Sign, .slice as2 ns2 cs2]) ag24 sz24 rfl rfl hx12 rfl (i := 2) rfl rfl rfl ?_
            obtain ⟨v12, hv6, hm⟩ := bind_some hm
            refine r_callG0 ent16 rfl rfl rfl rfl hx12 (big_Mul_ok _ _ _ _ hv6 hx12.sat hs3 ((((((hs2.mono hF1).mono hF2).mono hF3).mono hF4).mono hF5).mono hF6)) ?_
            rintro _ Fx11 _ wx18 hF11 hx17 ⟨as5, ns5, cs5, rfl, rfl, hs5⟩
            refine r_move rfl rfl rfl ?_
            refine r_extract rfl rfl rfl rfl ?_
            refine r_extract rfl rfl rfl rfl ?_
            refine r_alloc ze24 rfl rfl rfl hx17 ?_
            intro b6 wx19 hx18
            refine r_store sz24 rfl hx18 rfl rfl rfl rfl (i := 0) rfl rfl rfl rfl ?_
            intro wx20 hx19
            refine r_assign rfl rfl rfl ?_
            refine r_nil ?_
            refine q_then ?_
            refine c_seq ?_
            refine c_region ?_
            refine r_loadBA (cs' := [.int .i64 v12.1.Sign, .slice as5 ns5 cs5]) ag24 sz24 rfl rfl hx19 rfl (i := 0) rfl rfl rfl ?_
            refine r_loadBA (cs' := [.int .i64 v6.2.1.Sign, .slice as4 ns4 cs4]) ag24 sz24 rfl rfl hx19 rfl (i := 1) rfl rfl rfl ?_
            obtain ⟨v13, hv7, hm⟩ := bind_some hm
            refine r_callG0 ent20 rfl rfl rfl rfl hx19 (big_Add_ok _ _ _ _ hv7 hx19.sat hs5 (hs4.mono hF11)) ?_
            rintro _ Fx12 _ wx21 hF12 hx20 ⟨as6, ns6, cs6, rfl, rfl, hs6⟩
            refine r_move rfl rfl rfl ?_
            refine r_extract rfl rfl rfl rfl ?_
            refine r_extract rfl rfl rfl rfl ?_
            refine r_alloc ze24 rfl rfl rfl hx20 ?_
            intro b7 wx22 hx21
            refine r_store sz24 rfl hx21 rfl rfl rfl rfl (i := 0) rfl rfl rfl rfl ?_
            intro wx23 hx22
            refine r_assign rfl rfl rfl ?_
            refine r_nil ?_
            refine q_then ?_
            refine c_seq ?_
            refine c_seq ?_
            refine c_region ?_
            refine r_move rfl rfl rfl ?_
            refine r_bin rfl rfl rfl rfl rfl ?_
            refine r_move rfl rfl rfl ?_
            obtain ⟨v14, hb12, hm⟩ := bind_some hm
            refine r_mid 3 (fun a w' => wx23 = w' ∧ Has 124 a [(2, .pointer (some ⟨b2, 0, none⟩)), (3, .pointer (some ⟨b3, 0, none⟩)), (5, .bool v1), (6, .pointer (some ⟨b4, 0, none⟩)), (7, .pointer (some ⟨b5, 0, none⟩)), (11, .pointer (some ⟨b7, 0, none⟩)), (12, .int .i64 v13.2), (76, .bool v14)]) ?_ ?_
            · rintro a wx24 ⟨rfl, hax7⟩
              refine rw_apply hax7 ?_
              refine r_move rfl rfl rfl ?_
              obtain ⟨v15, hb13, hm⟩ := bind_some hm
              refine r_mid 3 (fun a w' => wx23 = w' ∧ Has 124 a [(2, .pointer (some ⟨b2, 0, none⟩)), (3, .pointer (some ⟨b3, 0, none⟩)), (5, .bool v1), (6, .pointer (some ⟨b4, 0, none⟩)), (7, .pointer (some ⟨b5, 0, none⟩)), (11, .pointer (some ⟨b7, 0, none⟩)), (80, .bool v15)]) ?_ ?_
              · rintro a wx25 ⟨rfl, hax8⟩
                refine rw_apply hax8 ?_
                refine r_move rfl rfl rfl ?_
                obtain ⟨v16, hb14, hm⟩ := bind_some hm
                refine r_mid 4 (fun a w' => ∃ (Fx13 : Frz), Frz.le Fx12 Fx13 ∧ HS F w [] Fx13 [.box b7 24 [.int .i64 v13.1.Sign, .slice as6 ns6 cs6], .box b6 24 [.int .i64 v12.1.Sign, .slice as5 ns5 cs5], .box b5 24 [.int .i64 v6.2.1.Sign, .slice as4 ns4 cs4], .box b4 24 [.int .i64 v6.1.Sign, .slice as3 ns3 cs3], .box b3 24 [.int .i64 b1.Sign, .slice as2 ns2 cs2], .box b2 24 [.int .i64 ax1.Sign, .slice as1 ns1 cs1]] w' ∧ Has 124 a [(2, .pointer (some ⟨b2, 0, none⟩)), (3, .pointer (some ⟨b3, 0, none⟩)), (5, .bool v1), (7, .pointer (some ⟨b5, 0, none⟩)), (11, .pointer (some ⟨b7, 0, none⟩)), (85, .bool v16)]) ?_ ?_
                · rintro a wx26 ⟨Fx13, hF13, hx23, hax9⟩
                  refine rw_apply hax9 ?_
                  refine r_move rfl rfl rfl ?_
                  obtain ⟨v17, hb15, hm⟩ := bind_some hm
                  refine r_mid 4 (fun a w' => ∃ (Fx14 : Frz), Frz.le Fx13 Fx14 ∧ HS F w [] Fx14 [.box b7 24 [.int .i64 v13.1.Sign, .slice as6 ns6 cs6], .box b6 24 [.int .i64 v12.1.Sign, .slice as5 ns5 cs5], .box b5 24 [.int .i64 v6.2.1.Sign, .slice as4 ns4 cs4], .box b4 24 [.int .i64 v6.1.Sign, .slice as3 ns3 cs3], .box b3 24 [.int .i64 b1.Sign, .slice as2 ns2 cs2], .box b2 24 [.int .i64 ax1.Sign, .slice as1 ns1 cs1]] w' ∧ Has 124 a [(2, .pointer (some ⟨b2, 0, none⟩)), (3, .pointer (some ⟨b3, 0, none⟩)), (5, .bool v1), (7, .pointer (some ⟨b5, 0, none⟩)), (11, .pointer (some ⟨b7, 0, none⟩)), (90, .bool v17)]) ?_ ?_
                  · rintro a wx27 ⟨Fx14, hF14, hx24, hax10⟩
                    refine rw_apply hax10 ?_
                    refine r_move rfl rfl rfl ?_
                    obtain ⟨v18, hb16, hm⟩ := bind_some hm
                    refine r_mid 5 (fun a w' => ∃ (Fx15 : Frz), Frz.le Fx14 Fx15 ∧ HS F w [] Fx15 [.box b7 24 [.int .i64 v13.1.Sign, .slice as6 ns6 cs6], .box b6 24 [.int .i64 v12.1.Sign, .slice as5 ns5 cs5], .box b5 24 [.int .i64 v6.2.1.Sign, .slice as4 ns4 cs4], .box b4 24 [.int .i64 v6.1.Sign, .slice as3 ns3 cs3], .box b3 24 [.int .i64 b1.Sign, .slice as2 ns2 cs2], .box b2 24 [.int .i64 ax1.Sign, .slice as1 ns1 cs1]] w' ∧ Has 124 a [(3, .pointer (some ⟨b3, 0, none⟩)), (5, .bool v1), (7, .pointer (some ⟨b5, 0, none⟩)), (96, .bool v18)]) ?_ ?_
                    · rintro a wx28 ⟨Fx15, hF15, hx25, hax11⟩
                      refine rw_apply hax11 ?_
                      refine r_nil ?_
                      refine q_then ?_
                      rcases cond_some hm with ⟨hb17, hm⟩ | ⟨hb17, hm⟩
                      · refine c_lit 96 rfl hb17 ?_
                        refine c_true rfl ?_
                        refine c_seq ?_
                        refine c_region ?_
                        refine r_assign rfl rfl rfl ?_
                        refine r_nil ?_
                        refine q_then ?_
                        refine c_ret ?_
                        refine q_then_ret ?_
                        refine b_ret1 rfl rfl ?_
                        obtain rfl := Option.some.inj hm
                        exact ⟨_, _, _, rfl, hx25.pick [] (by decide) rfl, rfl, rfl⟩
                      · refine c_lit 96 rfl hb17 ?_
                        refine c_false rfl ?_
                        refine c_skip ?_
                        refine q_then ?_
                        refine c_seq ?_
                        refine c_region ?_
                        refine r_loadBA (cs' := [.int .i64 v6.2.1.Sign, .slice as4 ns4 cs4]) ag24 sz24 rfl rfl hx25 rfl (i := 2) rfl rfl rfl ?_
                        refine r_loadBA (cs' := [.int .i64 b1.Sign, .slice as2 ns2 cs2]) ag24 sz24 rfl rfl hx25 rfl (i := 4) rfl rfl rfl ?_
                        obtain ⟨v19, hv8, hm⟩ := bind_some hm
                        refine r_callG0 ent23 rfl rfl rfl rfl hx25 (big_Compare_ok _ _ _ _ hv8 hx25.sat (((((hs4.mono hF11).mono hF12).mono hF13).mono hF14).mono hF15) (((((((((((hs2.mono hF1).mono hF2).mono hF3).mono hF4).mono hF5).mono hF6).mono hF11).mono hF12).mono hF13).mono hF14).mono hF15)) ?_
                        rintro _ Fx16 _ wx29 hF16 hx26 ⟨rfl, rfl⟩
                        refine r_bin rfl rfl rfl rfl rfl ?_
                        refine r_assign rfl rfl rfl ?_
                        refine r_nil ?_
                        refine q_then ?_
                        refine c_seq ?_
                        refine c_seq ?_
                        refine c_region ?_
                        refine r_fieldAddr fa24_0 rfl rfl rfl ?_
                        refine r_loadB1 ag3 rfl rfl hx26 rfl (i := 4) rfl rfl ?_
                        refine r_bin rfl rfl rfl rfl rfl ?_
                        refine r_nil ?_
                        refine q_then ?_
                        obtain ⟨less1, hb18, hm⟩ := bind_some hm
                        refine c_midT (fun a w' => ∃ (Fx17 : Frz), Frz.le Fx16 Fx17 ∧ HS F w [] Fx17 [.box b7 24 [.int .i64 v13.1.Sign, .slice as6 ns6 cs6], .box b6 24 [.int .i64 v12.1.Sign, .slice as5 ns5 cs5], .box b5 24 [.int .i64 v6.2.1.Sign, .slice as4 ns4 cs4], .box b4 24 [.int .i64 v6.1.Sign, .slice as3 ns3 cs3], .box b3 24 [.int .i64 b1.Sign, .slice as2 ns2 cs2], .box b2 24 [.int .i64 ax1.Sign, .slice as1 ns1 cs1]] w' ∧ Has 124 a [(3, .pointer (some ⟨b3, 0, none⟩)), (5, .bool v1), (7, .pointer (some ⟨b5, 0, none⟩)), (13, .bool less1)]) ?_ ?_
                        · rintro a wx30 ⟨Fx17, hF17, hx27, hax12⟩
                          refine cw_apply hax12 ?_
                          refine c_seq ?_
                          refine c_region ?_
                          refine r_move rfl rfl rfl ?_
                          refine r_move rfl rfl rfl ?_
                          obtain ⟨v20, hb19, hm⟩ := bind_some hm
                          refine r_mid 11 (fun a w' => wx30 = w' ∧ Has 124 a [(13, .bool less1), (120, .bool v20)]) ?_ ?_
                          · rintro a wx31 ⟨rfl, hax13⟩
                            refine rw_apply hax13 ?_
                            refine r_move rfl rfl rfl ?_
                            obtain ⟨v21, hb20, hm⟩ := bind_some hm
                            refine r_mid 2 (fun a w' => wx30 = w' ∧ Has 124 a [(123, .bool v21)]) ?_ ?_
                            · rintro a wx32 ⟨rfl, hax14⟩
                              refine rw_apply hax14 ?_
                              refine r_assign rfl rfl rfl ?_
                              refine r_nil ?_
                              refine q_then ?_
                              refine c_ret ?_
                              refine b_ret1 rfl rfl ?_
                              obtain rfl := Option.some.inj hm
                              exact ⟨_, _, _, rfl, hx27.pick [] (by decide) rfl, rfl, rfl⟩
                            · clear hm
                              rcases cond_some hb20 with ⟨hb21, hb20⟩ | ⟨hb21, hb20⟩
                              · refine r_lit 121 rfl hb21 ?_
                                refine r_move rfl rfl rfl ?_
                                refine r_pick_true rfl rfl rfl rfl ?_
                                refine r_nil ?_
                                refine q_next (fun a ha => ?_)
                                cases hb20
                                exact ⟨rfl, ha.cut (l := [123]) rfl⟩
                              · refine r_lit 121 rfl hb21 ?_
                                refine r_off rfl (by decide) rfl ?_
                                refine r_pick_false rfl rfl rfl rfl ?_
                                refine r_nil ?_
                                refine q_next (fun a ha => ?_)
                                cases hb20
                                exact ⟨rfl, ha.cut (l := [123]) rfl⟩
                          · clear hm
                            rcases cond_some hb19 with ⟨hb22, hb19⟩ | ⟨hb22, hb19⟩
                            · refine r_lit 109 rfl hb22 ?_
                              refine r_fieldAddr fa24_0 rfl rfl rfl ?_
                              refine r_loadB1 ag3 rfl rfl hx27 rfl (i := 2) rfl rfl ?_
                              refine r_bin rfl rfl rfl rfl rfl ?_
                              refine r_move rfl rfl rfl ?_
                              obtain ⟨v22, hb23, hb19⟩ := bind_some hb19
                              refine r_mid 6 (fun a w' => wx30 = w' ∧ Has 124 a [(13, .bool less1), (109, .bool true), (119, .bool v22)]) ?_ ?_
                              · rintro a wx33 ⟨rfl, hax15⟩
                                refine rw_apply hax15 ?_
                                refine r_pick_true rfl rfl rfl rfl ?_
                                refine r_nil ?_
                                refine q_next (fun a ha => ?_)
                                cases hb19
                                exact ⟨rfl, ha.cut (l := [13, 120]) rfl⟩
                              · clear hb19
                                rcases cond_some hb23 with ⟨hb24, hb23⟩ | ⟨hb24, hb23⟩
                                · refine r_lit 113 rfl hb24 ?_
                                  refine r_off rfl (by decide) rfl ?_
                                  refine r_off rfl (by decide) rfl ?_
                                  refine r_off rfl (by decide) rfl ?_
                                  refine r_off rfl (by decide) rfl ?_
                                  refine r_off rfl (by decide) rfl ?_
                                  refine r_pick_true rfl rfl rfl rfl ?_
                                  refine r_nil ?_
                                  refine q_next (fun a ha => ?_)
                                  cases hb23
                                  exact ⟨rfl, ha.cut (l := [13, 109, 119]) rfl⟩
                                · refine r_lit 113 rfl hb24 ?_
                                  refine r_fieldAddr fa24_0 rfl rfl rfl ?_
                                  refine r_loadB1 ag3 rfl rfl hx27 rfl (i := 2) rfl rfl ?_
                                  refine r_fieldAddr fa24_0 rfl rfl rfl ?_
                                  refine r_loadB1 ag3 rfl rfl hx27 rfl (i := 4) rfl rfl ?_
                                  refine r_bin rfl rfl rfl rfl rfl ?_
                                  refine r_pick_false rfl rfl rfl rfl ?_
                                  refine r_nil ?_
                                  refine q_next (fun a ha => ?_)
                                  cases hb23
                                  exact ⟨rfl, ha.cut (l := [13, 109, 119]) rfl⟩
                            · refine r_lit 109 rfl hb22 ?_
                              refine r_off rfl (by decide) rfl ?_
                              refine r_off rfl (by decide) rfl ?_
                              refine r_off rfl (by decide) rfl ?_
                              refine r_off rfl (by decide) rfl ?_
                              refine r_off rfl (by decide) rfl ?_
                              refine r_off rfl (by decide) rfl ?_
                              refine r_off rfl (by decide) rfl ?_
                              refine r_off rfl (by decide) rfl ?_
                              refine r_off rfl (by decide) rfl ?_
                              refine r_off rfl (by decide) rfl ?_
                              refine r_pick_false rfl rfl rfl rfl ?_
                              refine r_nil ?_
                              refine q_next (fun a ha => ?_)
                              cases hb19
                              exact ⟨rfl, ha.cut (l := [13, 120]) rfl⟩
                        · clear hm
                          rcases cond_some hb18 with ⟨hb25, hb18⟩ | ⟨hb25, hb18⟩
                          · refine c_lit 103 rfl hb25 ?_
                            refine c_true rfl ?_
                            refine c_region ?_
                            refine r_loadBA (cs' := [.int .i64 v6.2.1.Sign, .slice as4 ns4 cs4]) ag24 sz24 rfl rfl hx26 rfl (i := 2) rfl rfl rfl ?_
                            refine r_loadBA (cs' := [.int .i64 b1.Sign, .slice as2 ns2 cs2]) ag24 sz24 rfl rfl hx26 rfl (i := 4) rfl rfl rfl ?_
                            obtain ⟨v23, hv9, hb18⟩ := bind_some hb18
                            refine r_callG0 ent23 rfl rfl rfl rfl hx26 (big_Compare_ok _ _ _ _ hv9 hx26.sat ((((((hs4.mono hF11).mono hF12).mono hF13).mono hF14).mono hF15).mono hF16) ((((((((((((hs2.mono hF1).mono hF2).mono hF3).mono hF4).mono hF5).mono hF6).mono hF11).mono hF12).mono hF13).mono hF14).mono hF15).mono hF16)) ?_
                            rintro _ Fx18 _ wx34 hF18 hx28 ⟨rfl, rfl⟩
                            refine r_bin rfl rfl rfl rfl rfl ?_
                            refine r_assign rfl rfl rfl ?_
                            refine r_nil ?_
                            refine q_next (fun a ha => ?_)
                            cases hb18
                            exact ⟨_, hF18, hx28.pick [0, 1, 2, 3, 4, 5] (by decide) rfl, ha.cut (l := [3, 5, 7, 13]) rfl⟩
                          · refine c_lit 103 rfl hb25 ?_
                            refine c_false rfl ?_
                            refine c_skip ?_
                            refine q_next (fun a ha => ?_)
                            cases hb18
                            exact ⟨_, Frz.refl _, hx26.pick [0, 1, 2, 3, 4, 5] (by decide) rfl, ha.cut (l := [3, 5, 7, 13]) rfl⟩
                    · clear hm
                      rcases cond_some hb16 with ⟨hb26, hb16⟩ | ⟨hb26, hb16⟩
                      · refine r_lit 91 rfl hb26 ?_
                        refine r_off rfl (by decide) rfl ?_
                        refine r_off rfl (by decide) rfl ?_
                        refine r_off rfl (by decide) rfl ?_
                        refine r_off rfl (by decide) rfl ?_
                        refine r_pick_true rfl rfl rfl rfl ?_
                        refine r_nil ?_
                        refine q_next (fun a ha => ?_)
                        cases hb16
                        exact ⟨_, Frz.refl _, hx24.pick [0, 1, 2, 3, 4, 5] (by decide) rfl, ha.cut (l := [3, 5, 7, 96]) rfl⟩
                      · refine r_lit 91 rfl hb26 ?_
                        refine r_loadBA (cs' := [.int .i64 v13.1.Sign, .slice as6 ns6 cs6]) ag24 sz24 rfl rfl hx24 rfl (i := 0) rfl rfl rfl ?_
                        refine r_loadBA (cs' := [.int .i64 ax1.Sign, .slice as1 ns1 cs1]) ag24 sz24 rfl rfl hx24 rfl (i := 5) rfl rfl rfl ?_
                        obtain ⟨v24, hv10, hb16⟩ := bind_some hb16
                        refine r_callG0 ent14 rfl rfl rfl rfl hx24 (big_Same_ok _ _ _ _ hv10 hx24.sat ((hs6.mono hF13).mono hF14) ((((((((((hs1.mono hF1).mono hF2).mono hF3).mono hF4).mono hF5).mono hF6).mono hF11).mono hF12).mono hF13).mono hF14)) ?_
                        rintro _ Fx19 _ wx35 hF19 hx29 ⟨rfl, rfl⟩
                        refine r_not rfl rfl rfl ?_
                        refine r_pick_false rfl rfl rfl rfl ?_
                        refine r_nil ?_
                        refine q_next (fun a ha => ?_)
                        cases hb16
                        exact ⟨_, hF19, hx29.pick [0, 1, 2, 3, 4, 5] (by decide) rfl, ha.cut (l := [3, 5, 7, 96]) rfl⟩
                  · clear hm
                    rcases cond_some hb15 with ⟨hb27, hb15⟩ | ⟨hb27, hb15⟩
                    · refine r_lit 86 rfl hb27 ?_
                      refine r_off rfl (by decide) rfl ?_
                      refine r_off rfl (by decide) rfl ?_
                      refine r_off rfl (by decide) rfl ?_
                      refine r_pick_true rfl rfl rfl rfl ?_
                      refine r_nil ?_
                      refine q_next (fun a ha => ?_)
                      cases hb15
                      exact ⟨_, Frz.refl _, hx23.pick [0, 1, 2, 3, 4, 5] (by decide) rfl, ha.cut (l := [2, 3, 5, 7, 11, 90]) rfl⟩
                    · refine r_lit 86 rfl hb27 ?_
                      refine r_loadBA (cs' := [.int .i64 v6.2.1.Sign, .slice as4 ns4 cs4]) ag24 sz24 rfl rfl hx23 rfl (i := 2) rfl rfl rfl ?_
                      obtain ⟨v25, hv11, hb15⟩ := bind_some hb15
                      refine r_callG0 ent11 rfl rfl rfl rfl hx23 (big_Right_ok _ _ _ hv11 hx23.sat (((hs4.mono hF11).mono hF12).mono hF13)) ?_
                      rintro _ Fx20 _ wx36 hF20 hx30 ⟨rfl, rfl⟩
                      refine r_not rfl rfl rfl ?_
                      refine r_pick_false rfl rfl rfl rfl ?_
                      refine r_nil ?_
                      refine q_next (fun a ha => ?_)
                      cases hb15
                      exact ⟨_, hF20, hx30.pick [0, 1, 2, 3, 4, 5] (by decide) rfl, ha.cut (l := [2, 3, 5, 7, 11, 90]) rfl⟩
                · clear hm
                  rcases cond_some hb14 with ⟨hb28, hb14⟩ | ⟨hb28, hb14⟩
                  · refine r_lit 81 rfl hb28 ?_
                    refine r_off rfl (by decide) rfl ?_
                    refine r_off rfl (by decide) rfl ?_
                    refine r_off rfl (by decide) rfl ?_
                    refine r_pick_true rfl rfl rfl rfl ?_
                    refine r_nil ?_
                    refine q_next (fun a ha => ?_)
                    cases hb14
                    exact ⟨_, Frz.refl _, hx22.pick [0, 1, 2, 3, 4, 5] (by decide) rfl, ha.cut (l := [2, 3, 5, 7, 11, 85]) rfl⟩
                  · refine r_lit 81 rfl hb28 ?_
                    refine r_loadBA (cs' := [.int .i64 v6.1.Sign, .slice as3 ns3 cs3]) ag24 sz24 rfl rfl hx22 rfl (i := 3) rfl rfl rfl ?_
                    obtain ⟨v26, hv12, hb14⟩ := bind_some hb14
                    refine r_callG0 ent11 rfl rfl rfl rfl hx22 (big_Right_ok _ _ _ hv12 hx22.sat ((hs3.mono hF11).mono hF12)) ?_
                    rintro _ Fx21 _ wx37 hF21 hx31 ⟨rfl, rfl⟩
                    refine r_not rfl rfl rfl ?_
                    refine r_pick_false rfl rfl rfl rfl ?_
                    refine r_nil ?_
                    refine q_next (fun a ha => ?_)
                    cases hb14
                    exact ⟨_, hF21, hx31.pick [0, 1, 2, 3, 4, 5] (by decide) rfl, ha.cut (l := [2, 3, 5, 7, 11, 85]) rfl⟩
              · clear hm
                rcases cond_some hb13 with ⟨hb29, hb13⟩ | ⟨hb29, hb13⟩
                · refine r_lit 77 rfl hb29 ?_
                  refine r_off rfl (by decide) rfl ?_
                  refine r_off rfl (by decide) rfl ?_
                  refine r_pick_true rfl rfl rfl rfl ?_
                  refine r_nil ?_
                  refine q_next (fun a ha => ?_)
                  cases hb13
                  exact ⟨rfl, ha.cut (l := [2, 3, 5, 6, 7, 11, 80]) rfl⟩
                · refine r_lit 77 rfl hb29 ?_
                  refine r_move rfl rfl rfl ?_
                  refine r_bin rfl rfl rfl rfl rfl ?_
                  refine r_pick_false rfl rfl rfl rfl ?_
                  refine r_nil ?_
                  refine q_next (fun a ha => ?_)
                  cases hb13
                  exact ⟨rfl, ha.cut (l := [2, 3, 5, 6, 7, 11, 80]) rfl⟩
            · clear hm
              rcases cond_some hb12 with ⟨hb30, hb12⟩ | ⟨hb30, hb12⟩
              · refine r_lit 73 rfl hb30 ?_
                refine r_off rfl (by decide) rfl ?_
                refine r_off rfl (by decide) rfl ?_
                refine r_pick_true rfl rfl rfl rfl ?_
                refine r_nil ?_
                refine q_next (fun a ha => ?_)
                cases hb12
                exact ⟨rfl, ha.cut (l := [2, 3, 5, 6, 7, 11, 12, 76]) rfl⟩
              · refine r_lit 73 rfl hb30 ?_
                refine r_move rfl rfl rfl ?_
                refine r_bin rfl rfl rfl rfl rfl ?_
                refine r_pick_false rfl rfl rfl rfl ?_
                refine r_nil ?_
                refine q_next (fun a ha => ?_)
                cases hb12
                exact ⟨rfl, ha.cut (l := [2, 3, 5, 6, 7, 11, 12, 76]) rfl⟩
      · clear hm
        rcases cond_some hb3 with ⟨hb31, hb3⟩ | ⟨hb31, hb3⟩
        · refine r_lit 28 rfl hb31 ?_
          refine r_off rfl (by decide) rfl ?_
          refine r_off rfl (by decide) rfl ?_
          refine r_off rfl (by decide) rfl ?_
          refine r_pick_true rfl rfl rfl rfl ?_
          refine r_nil ?_
          refine q_next (fun a ha => ?_)
          cases hb3
          exact ⟨_, Frz.refl _, hx6.pick [0, 1] (by decide) rfl, ha.cut (l := [2, 3, 5, 32]) rfl⟩
        · refine r_lit 28 rfl hb31 ?_
          refine r_loadBA (cs' := [.int .i64 b1.Sign, .slice as2 ns2 cs2]) ag24 sz24 rfl rfl hx6 rfl (i := 0) rfl rfl rfl ?_
          obtain ⟨v27, hv13, hb3⟩ := bind_some hb3
          refine r_callG0 ent11 rfl rfl rfl rfl hx6 (big_Right_ok _ _ _ hv13 hx6.sat ((((hs2.mono hF1).mono hF2).mono hF3).mono hF4)) ?_
          rintro _ Fx22 _ wx38 hF22 hx32 ⟨rfl, rfl⟩
          refine r_not rfl rfl rfl ?_
          refine r_pick_false rfl rfl rfl rfl ?_
          refine r_nil ?_
          refine q_next (fun a ha => ?_)
          cases hb3
          exact ⟨_, hF22, hx32.pick [0, 1] (by decide) rfl, ha.cut (l := [2, 3, 5, 32]) rfl⟩
    · clear hm
      rcases cond_some hb2 with ⟨hb32, hb2⟩ | ⟨hb32, hb2⟩
      · refine r_lit 23 rfl hb32 ?_
        refine r_off rfl (by decide) rfl ?_
        refine r_off rfl (by decide) rfl ?_
        refine r_off rfl (by decide) rfl ?_
        refine r_pick_true rfl rfl rfl rfl ?_
        refine r_nil ?_
        refine q_next (fun a ha => ?_)
        cases hb2
        exact ⟨_, Frz.refl _, hx5.pick [0, 1] (by decide) rfl, ha.cut (l := [2, 3, 5, 27]) rfl⟩
      · refine r_lit 23 rfl hb32 ?_
        refine r_loadBA (cs' := [.int .i64 ax1.Sign, .slice as1 ns1 cs1]) ag24 sz24 rfl rfl hx5 rfl (i := 1) rfl rfl rfl ?_
        obtain ⟨v28, hv14, hb2⟩ := bind_some hb2
        refine r_callG0 ent11 rfl rfl rfl rfl hx5 (big_Right_ok _ _ _ hv14 hx5.sat (((hs1.mono hF1).mono hF2).mono hF3)) ?_
        rintro _ Fx23 _ wx39 hF23 hx33 ⟨rfl, rfl⟩
        refine r_not rfl rfl rfl ?_
        refine r_pick_false rfl rfl rfl rfl ?_
        refine r_nil ?_
        refine q_next (fun a ha => ?_)
        cases hb2
        exact ⟨_, hF23, hx33.pick [0, 1] (by decide) rfl, ha.cut (l := [2, 3, 5, 27]) rfl⟩
  · clear hm
    rcases cond_some hb1 with ⟨hb33, hb1⟩ | ⟨hb33, hb1⟩
    · refine r_lit 18 rfl hb33 ?_
      refine r_off rfl (by decide) rfl ?_
      refine r_off rfl (by decide) rfl ?_
      refine r_off rfl (by decide) rfl ?_
      refine r_pick_true rfl rfl rfl rfl ?_
      refine r_nil ?_
      refine q_next (fun a ha => ?_)
      cases hb1
      exact ⟨_, Frz.refl _, hx4.pick [0, 1] (by decide) rfl, ha.cut (l := [2, 3, 5, 22]) rfl⟩
    · refine r_lit 18 rfl hb33 ?_
      refine r_loadBA (cs' := [.int .i64 b1.Sign, .slice as2 ns2 cs2]) ag24 sz24 rfl rfl hx4 rfl (i := 0) rfl rfl rfl ?_
      obtain ⟨v29, hv15, hb1⟩ := bind_some hb1
      refine r_callG0 ent10 rfl rfl rfl rfl hx4 (law04_few_ok _ _ _ _ hv15 hx4.sat ((hs2.mono hF1).mono hF2)) ?_
      rintro _ Fx24 _ wx40 hF24 hx34 ⟨rfl, rfl⟩
      refine r_not rfl rfl rfl ?_
      refine r_pick_false rfl rfl rfl rfl ?_
      refine r_nil ?_
      refine q_next (fun a ha => ?_)
      cases hb1
      exact ⟨_, hF24, hx34.pick [0, 1] (by decide) rfl, ha.cut (l := [2, 3, 5, 22]) rfl⟩


end Go.Proofs.YtaiiclbemlmmaaaDoor.M
