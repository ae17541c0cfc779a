/-
  THE MIRRORS of the big integers' functions, of their reference and of the laws, and that each call returns what its mirror says. Printed by gen.py.
-/
import Derived.Test.YtaiiclbemlmmaaaDoorRows
import Derived.Test.YtaiiclbemlmmaaaDoorTrim
import Derived.Test.YtaiiclbemlmmaaaDoorMirD
namespace Go.Proofs.YtaiiclbemlmmaaaDoor.M
open Go Go.RowKit Rt

theorem ent9 : Ent Tryd.prog 9 := fun _ _ => by kernel_rfl

theorem ent10 : Ent Tryd.prog 10 := fun _ _ => by kernel_rfl

def law04_BigBack (n : Nat) (ax1 : Big) (s2 : Bs) : Option Bool :=
  (law04_small n).bind fun v1 =>
  (bif decide (400 < (s2.length : Int)) then
    some true
  else
    (law04_few n (⟨ax1.Sign, ax1.Digits⟩ : Big) 60).bind fun v30 =>
    some (!v30)).bind fun v2 =>
  bif v2 then
    some v1
  else
    (big_Read n s2).bind fun v3 =>
    (bif v3.2 == 0 then
      (big_Right n (⟨v3.1.Sign, v3.1.Digits⟩ : Big)).bind fun v27 =>
      (bif !v27 then
        some true
      else
        (big_Text n (⟨v3.1.Sign, v3.1.Digits⟩ : Big)).bind fun v29 =>
        some (!(v29 == s2))).bind fun v28 =>
      some v28
    else
      some false).bind fun v4 =>
    (bif v4 then
      some true
    else
      (bif v3.2 != 0 then
        (bif v3.2 != 2 then
          some true
        else
          (big_Same n (⟨v3.1.Sign, v3.1.Digits⟩ : Big) (⟨0, []⟩ : Big)).bind fun v26 =>
          some (!v26)).bind fun v25 =>
        some v25
      else
        some false).bind fun v24 =>
      some v24).bind fun v5 =>
    bif v5 then
      some false
    else
      (big_Right n (⟨ax1.Sign, ax1.Digits⟩ : Big)).bind fun v6 =>
      bif !v6 then
        (bif v1 then
          (big_Text n (⟨ax1.Sign, ax1.Digits⟩ : Big)).bind fun v8 =>
          some (v8 == [])
        else
          some false).bind fun v7 =>
        some v7
      else
        (big_Text n (⟨ax1.Sign, ax1.Digits⟩ : Big)).bind fun v9 =>
        (big_Read n v9).bind fun v10 =>
        (bif v10.2 != 0 then
          some true
        else
          (big_Same n (⟨v10.1.Sign, v10.1.Digits⟩ : Big) (⟨ax1.Sign, ax1.Digits⟩ : Big)).bind fun v23 =>
          some (!v23)).bind fun v11 =>
        bif v11 then
          some false
        else
          bif ax1.Sign == 0 then
            (bif v1 then
              some (v9 == [48])
            else
              some false).bind fun v12 =>
            some v12
          else
            ((big_Of n 10).bind fun v21 =>
            (big_Mul n (⟨ax1.Sign, ax1.Digits⟩ : Big) v21).bind fun v22 =>
            some (v22.1.Sign, v22.1.Digits, v22.2)).bind fun (f1, f2, g1) =>
            ((big_Of n (imul .i64 7 ax1.Sign)).bind fun v19 =>
            (big_Add n (⟨f1, f2⟩ : Big) v19).bind fun v20 =>
            some (v20.1.Sign, v20.1.Digits, v20.2)).bind fun (f3, f4, hx18) =>
            (scat v9 [55]).bind fun t1 =>
            (big_Read n t1).bind fun v13 =>
            (bif v1 then
              some (g1 == 0)
            else
              some false).bind fun v14 =>
            (bif v14 then
              some (hx18 == 0)
            else
              some false).bind fun v15 =>
            (bif v15 then
              some (v13.2 == 0)
            else
              some false).bind fun v16 =>
            (bif v16 then
              (big_Same n (⟨v13.1.Sign, v13.1.Digits⟩ : Big) (⟨f3, f4⟩ : Big)).bind fun v18 =>
              some v18
            else
              some false).bind fun v17 =>
            some v17

set_option maxHeartbeats 1000000 in
set_option maxRecDepth 1000000 in
theorem law04_BigBack_ok (n : Nat) (ax1 : Big) (s2 : Bs) (r : Bool) (hm : law04_BigBack n ax1 s2 = some r) {w : World} {F : Frz} (hs : Sat F w) {as1 : Option Addr} {ns1 : Nat} {cs1 : Nat} (hs1 : SlR (Rp.int .i64) F as1 ns1 cs1 ax1.Digits) (hg2 : FX F 2 (Lib.pow10Tab.map (Value.int .u64))) :
    Calls Tryd.prog 4 #[.agg #[.int .i64 ax1.Sign, .slice as1 ns1 cs1], vs s2] w fun e w' => ∃ v F' O', e = .returned v ∧ HS F w [] F' O' w' ∧ (v = .bool r ∧ O' = []) := by
  unfold law04_BigBack at hm
  have h := HS.init hs
  refine calls_of (args := [.agg #[.int .i64 ax1.Sign, .slice as1 ns1 cs1], vs s2]) 130 Tryd.func4 rfl rfl rfl ?_
  refine c_seq ?_
  refine c_region ?_
  refine r_box rfl rfl rfl rfl h ?_
  intro b1 wx1 hx1
  refine r_assign rfl rfl rfl ?_
  refine r_nil ?_
  refine q_then ?_
  refine c_seq ?_
  refine c_region ?_
  obtain ⟨v1, hv1, hm⟩ := bind_some hm
  refine r_callG0 ent9 rfl rfl rfl rfl hx1 (law04_small_ok _ _ hv1 hx1.sat hg2) ?_
  rintro _ Fx1 _ wx2 hF1 hx2 ⟨rfl, rfl⟩
  refine r_assign rfl rfl rfl ?_
  refine r_nil ?_
  refine q_then ?_
  refine c_seq ?_
  refine c_seq ?_
  refine c_region ?_
  refine r_move rfl rfl rfl ?_
  refine r_slen u9 rfl rfl rfl ?_
  refine r_bin rfl rfl rfl rfl rfl ?_
  refine r_move rfl rfl rfl ?_
  obtain ⟨v2, hb1, hm⟩ := bind_some hm
  refine r_mid 4 (fun a w' => ∃ (Fx2 : Frz), Frz.le Fx1 Fx2 ∧ HS F w [] Fx2 [.box b1 24 [.int .i64 ax1.Sign, .slice as1 ns1 cs1]] w' ∧ Has 130 a [(1, vs s2), (2, .pointer (some ⟨b1, 0, none⟩)), (5, .bool v1), (25, .bool v2)]) ?_ ?_
  · rintro a wx3 ⟨Fx2, hF2, hx3, hax1⟩
    refine rw_apply hax1 ?_
    refine r_nil ?_
    refine q_then ?_
    rcases cond_some hm with ⟨hb2, hm⟩ | ⟨hb2, hm⟩
    · refine c_lit 25 rfl hb2 ?_
      refine c_true rfl ?_
      refine c_seq ?_
      refine c_region ?_
      refine r_move rfl rfl rfl ?_
      refine r_assign rfl rfl rfl ?_
      refine r_nil ?_
      refine q_then ?_
      refine c_ret ?_
      refine q_then_ret ?_
      refine b_ret1 rfl rfl ?_
      obtain rfl := Option.some.inj hm
      exact ⟨_, _, _, rfl, hx3.pick [] (by decide) rfl, rfl, rfl⟩
    · refine c_lit 25 rfl hb2 ?_
      refine c_false rfl ?_
      refine c_skip ?_
      refine q_then ?_
      refine c_seq ?_
      refine c_region ?_
      refine r_move rfl rfl rfl ?_
      obtain ⟨v3, hv2, hm⟩ := bind_some hm
      refine r_callG0 ent17 rfl rfl rfl rfl hx3 (big_Read_ok _ _ _ hv2 hx3.sat) ?_
      rintro _ Fx3 _ wx4 hF3 hx4 ⟨as3, ns3, cs3, rfl, rfl, hs3⟩
      refine r_move rfl rfl rfl ?_
      refine r_extract rfl rfl rfl rfl ?_
      refine r_extract rfl rfl rfl rfl ?_
      refine r_alloc ze24 rfl rfl rfl hx4 ?_
      intro b2 wx5 hx5
      refine r_store sz24 rfl hx5 rfl rfl rfl rfl (i := 0) rfl rfl rfl rfl ?_
      intro wx6 hx6
      refine r_assign rfl rfl rfl ?_
      refine r_nil ?_
      refine q_then ?_
      refine c_seq ?_
      refine c_seq ?_
      refine c_region ?_
      refine r_move rfl rfl rfl ?_
      refine r_bin rfl rfl rfl rfl rfl ?_
      refine r_move rfl rfl rfl ?_
      obtain ⟨v4, hb3, hm⟩ := bind_some hm
      refine r_mid 10 (fun a w' => ∃ (Fx4 : Frz), Frz.le Fx3 Fx4 ∧ HS F w [] Fx4 [.box b2 24 [.int .i64 v3.1.Sign, .slice as3 ns3 cs3], .box b1 24 [.int .i64 ax1.Sign, .slice as1 ns1 cs1]] w' ∧ Has 130 a [(2, .pointer (some ⟨b1, 0, none⟩)), (5, .bool v1), (6, .pointer (some ⟨b2, 0, none⟩)), (7, .int .i64 v3.2), (44, .bool v4)]) ?_ ?_
      · rintro a wx7 ⟨Fx4, hF4, hx7, hax2⟩
        refine rw_apply hax2 ?_
        refine r_move rfl rfl rfl ?_
        obtain ⟨v5, hb4, hm⟩ := bind_some hm
        refine r_mid 13 (fun a w' => ∃ (Fx5 : Frz), Frz.le Fx4 Fx5 ∧ HS F w [] Fx5 [.box b2 24 [.int .i64 v3.1.Sign, .slice as3 ns3 cs3], .box b1 24 [.int .i64 ax1.Sign, .slice as1 ns1 cs1]] w' ∧ Has 130 a [(2, .pointer (some ⟨b1, 0, none⟩)), (5, .bool v1), (58, .bool v5)]) ?_ ?_
        · rintro a wx8 ⟨Fx5, hF5, hx8, hax3⟩
          refine rw_apply hax3 ?_
          refine r_nil ?_
          refine q_then ?_
          rcases cond_some hm with ⟨hb5, hm⟩ | ⟨hb5, hm⟩
          · refine c_lit 58 rfl hb5 ?_
            refine c_true rfl ?_
            refine c_seq ?_
            refine c_region ?_
            refine r_assign rfl rfl rfl ?_
            refine r_nil ?_
            refine q_then ?_
            refine c_ret ?_
            refine q_then_ret ?_
            refine b_ret1 rfl rfl ?_
            obtain rfl := Option.some.inj hm
            exact ⟨_, _, _, rfl, hx8.pick [] (by decide) rfl, rfl, rfl⟩
          · refine c_lit 58 rfl hb5 ?_
            refine c_false rfl ?_
            refine c_skip ?_
            refine q_then ?_
            refine c_seq ?_
            refine c_seq ?_
            refine c_region ?_
            refine r_loadBA (cs' := [.int .i64 ax1.Sign, .slice as1 ns1 cs1]) ag24 sz24 rfl rfl hx8 rfl (i := 1) rfl rfl rfl ?_
            obtain ⟨v6, hv3, hm⟩ := bind_some hm
            refine r_callG0 ent11 rfl rfl rfl rfl hx8 (big_Right_ok _ _ _ hv3 hx8.sat (((((hs1.mono hF1).mono hF2).mono hF3).mono hF4).mono hF5)) ?_
            rintro _ Fx6 _ wx9 hF6 hx9 ⟨rfl, rfl⟩
            refine r_not rfl rfl rfl ?_
            refine r_nil ?_
            refine q_then ?_
            rcases cond_some hm with ⟨hb6, hm⟩ | ⟨hb6, hm⟩
            · refine c_lit 61 rfl hb6 ?_
              refine c_true rfl ?_
              refine c_seq ?_
              refine c_region ?_
              refine r_move rfl rfl rfl ?_
              refine r_move rfl rfl rfl ?_
              obtain ⟨v7, hb7, hm⟩ := bind_some hm
              refine r_mid 4 (fun a w' => ∃ (Fx7 : Frz), Frz.le Fx6 Fx7 ∧ HS F w [] Fx7 [.box b2 24 [.int .i64 v3.1.Sign, .slice as3 ns3 cs3], .box b1 24 [.int .i64 ax1.Sign, .slice as1 ns1 cs1]] w' ∧ Has 130 a [(67, .bool v7)]) ?_ ?_
              · rintro a wx10 ⟨Fx7, hF7, hx10, hax4⟩
                refine rw_apply hax4 ?_
                refine r_assign rfl rfl rfl ?_
                refine r_nil ?_
                refine q_then ?_
                refine c_ret ?_
                refine q_then_ret ?_
                refine b_ret1 rfl rfl ?_
                obtain rfl := Option.some.inj hm
                exact ⟨_, _, _, rfl, hx10.pick [] (by decide) rfl, rfl, rfl⟩
              · clear hm
                rcases cond_some hb7 with ⟨hb8, hb7⟩ | ⟨hb8, hb7⟩
                · refine r_lit 63 rfl hb8 ?_
                  refine r_loadBA (cs' := [.int .i64 ax1.Sign, .slice as1 ns1 cs1]) ag24 sz24 rfl rfl hx9 rfl (i := 1) rfl rfl rfl ?_
                  obtain ⟨v8, hv4, hb7⟩ := bind_some hb7
                  refine r_callG0 ent18 rfl rfl rfl rfl hx9 (big_Text_ok _ _ _ hv4 hx9.sat ((((((hs1.mono hF1).mono hF2).mono hF3).mono hF4).mono hF5).mono hF6) ((((((hg2.mono hF1).mono hF2).mono hF3).mono hF4).mono hF5).mono hF6)) ?_
                  rintro _ Fx8 _ wx11 hF8 hx11 ⟨rfl, rfl⟩
                  refine r_str rfl rfl rfl rfl rfl ?_
                  refine r_pick_true rfl rfl rfl rfl ?_
                  refine r_nil ?_
                  refine q_next (fun a ha => ?_)
                  cases hb7
                  exact ⟨_, hF8, hx11.pick [0, 1] (by decide) rfl, ha.cut (l := [67]) rfl⟩
                · refine r_lit 63 rfl hb8 ?_
                  refine r_off rfl (by decide) rfl ?_
                  refine r_off rfl (by decide) rfl ?_
                  refine r_off rfl (by decide) rfl ?_
                  refine r_pick_false rfl rfl rfl rfl ?_
                  refine r_nil ?_
                  refine q_next (fun a ha => ?_)
                  cases hb7
                  exact ⟨_, Frz.refl _, hx9.pick [0, 1] (by decide) rfl, ha.cut (l := [67]) rfl⟩
            · refine c_lit 61 rfl hb6 ?_
              refine c_false rfl ?_
              refine c_skip ?_
              refine q_then ?_
              refine c_seq ?_
              refine c_region ?_
              refine r_loadBA (cs' := [.int .i64 ax1.Sign, .slice as1 ns1 cs1]) ag24 sz24 rfl rfl hx9 rfl (i := 1) rfl rfl rfl ?_
              obtain ⟨v9, hv5, hm⟩ := bind_some hm
              refine r_callG0 ent18 rfl rfl rfl rfl hx9 (big_Text_ok _ _ _ hv5 hx9.sat ((((((hs1.mono hF1).mono hF2).mono hF3).mono hF4).mono hF5).mono hF6) ((((((hg2.mono hF1).mono hF2).mono hF3).mono hF4).mono hF5).mono hF6)) ?_
              rintro _ Fx9 _ wx12 hF9 hx12 ⟨rfl, rfl⟩
              refine r_assign rfl rfl rfl ?_
              refine r_nil ?_
              refine q_then ?_
              refine c_seq ?_
              refine c_region ?_
              refine r_move rfl rfl rfl ?_
              obtain ⟨v10, hv6, hm⟩ := bind_some hm
              refine r_callG0 ent17 rfl rfl rfl rfl hx12 (big_Read_ok _ _ _ hv6 hx12.sat) ?_
              rintro _ Fx10 _ wx13 hF10 hx13 ⟨as4, ns4, cs4, rfl, rfl, hs4⟩
              refine r_move rfl rfl rfl ?_
              refine r_extract rfl rfl rfl rfl ?_
              refine r_extract rfl rfl rfl rfl ?_
              refine r_alloc ze24 rfl rfl rfl hx13 ?_
              intro b3 wx14 hx14
              refine r_store sz24 rfl hx14 rfl rfl rfl rfl (i := 0) rfl rfl rfl rfl ?_
              intro wx15 hx15
              refine r_assign rfl rfl rfl ?_
              refine r_nil ?_
              refine q_then ?_
              refine c_seq ?_
              refine c_seq ?_
              refine c_region ?_
              refine r_move rfl rfl rfl ?_
              refine r_bin rfl rfl rfl rfl rfl ?_
              refine r_move rfl rfl rfl ?_
              obtain ⟨v11, hb9, hm⟩ := bind_some hm
              refine r_mid 5 (fun a w' => ∃ (Fx11 : Frz), Frz.le Fx10 Fx11 ∧ HS F w [] Fx11 [.box b3 24 [.int .i64 v10.1.Sign, .slice as4 ns4 cs4], .box b2 24 [.int .i64 v3.1.Sign, .slice as3 ns3 cs3], .box b1 24 [.int .i64 ax1.Sign, .slice as1 ns1 cs1]] w' ∧ Has 130 a [(2, .pointer (some ⟨b1, 0, none⟩)), (5, .bool v1), (8, vs v9), (82, .bool v11)]) ?_ ?_
              · rintro a wx16 ⟨Fx11, hF11, hx16, hax5⟩
                refine rw_apply hax5 ?_
                refine r_nil ?_
                refine q_then ?_
                rcases cond_some hm with ⟨hb10, hm⟩ | ⟨hb10, hm⟩
                · refine c_lit 82 rfl hb10 ?_
                  refine c_true rfl ?_
                  refine c_seq ?_
                  refine c_region ?_
                  refine r_assign rfl rfl rfl ?_
                  refine r_nil ?_
                  refine q_then ?_
                  refine c_ret ?_
                  refine q_then_ret ?_
                  refine b_ret1 rfl rfl ?_
                  obtain rfl := Option.some.inj hm
                  exact ⟨_, _, _, rfl, hx16.pick [] (by decide) rfl, rfl, rfl⟩
                · refine c_lit 82 rfl hb10 ?_
                  refine c_false rfl ?_
                  refine c_skip ?_
                  refine q_then ?_
                  refine c_seq ?_
                  refine c_seq ?_
                  refine c_region ?_
                  refine r_fieldAddr fa24_0 rfl rfl rfl ?_
                  refine r_loadB1 ag3 rfl rfl hx16 rfl (i := 2) rfl rfl ?_
                  refine r_bin rfl rfl rfl rfl rfl ?_
                  refine r_nil ?_
                  refine q_then ?_
                  rcases cond_some hm with ⟨hb11, hm⟩ | ⟨hb11, hm⟩
                  · refine c_lit 85 rfl hb11 ?_
                    refine c_true rfl ?_
                    refine c_seq ?_
                    refine c_region ?_
                    refine r_move rfl rfl rfl ?_
                    refine r_move rfl rfl rfl ?_
                    obtain ⟨v12, hb12, hm⟩ := bind_some hm
                    refine r_mid 3 (fun a w' => wx16 = w' ∧ Has 130 a [(90, .bool v12)]) ?_ ?_
                    · rintro a wx17 ⟨rfl, hax6⟩
                      refine rw_apply hax6 ?_
                      refine r_assign rfl rfl rfl ?_
                      refine r_nil ?_
                      refine q_then ?_
                      refine c_ret ?_
                      refine q_then_ret ?_
                      refine b_ret1 rfl rfl ?_
                      obtain rfl := Option.some.inj hm
                      exact ⟨_, _, _, rfl, hx16.pick [] (by decide) rfl, rfl, rfl⟩
                    · clear hm
                      rcases cond_some hb12 with ⟨hb13, hb12⟩ | ⟨hb13, hb12⟩
                      · refine r_lit 87 rfl hb13 ?_
                        refine r_move rfl rfl rfl ?_
                        refine r_str rfl rfl rfl rfl rfl ?_
                        refine r_pick_true rfl rfl rfl rfl ?_
                        refine r_nil ?_
                        refine q_next (fun a ha => ?_)
                        cases hb12
                        exact ⟨rfl, ha.cut (l := [90]) rfl⟩
                      · refine r_lit 87 rfl hb13 ?_
                        refine r_off rfl (by decide) rfl ?_
                        refine r_off rfl (by decide) rfl ?_
                        refine r_pick_false rfl rfl rfl rfl ?_
                        refine r_nil ?_
                        refine q_next (fun a ha => ?_)
                        cases hb12
                        exact ⟨rfl, ha.cut (l := [90]) rfl⟩
                  · refine c_lit 85 rfl hb11 ?_
                    refine c_false rfl ?_
                    refine c_skip ?_
                    refine q_then ?_
                    obtain ⟨⟨f1, f2, g1⟩, hb14, hm⟩ := bind_some hm
                    refine c_mid (fun a w' => ∃ (Fx12 : Frz) (b4 : Nat) (as5 : Option Addr) (ns5 : Nat) (cs5 : Nat), Frz.le Fx11 Fx12 ∧ HS F w [] Fx12 [.box b4 24 [.int .i64 f1, .slice as5 ns5 cs5], .box b3 24 [.int .i64 v10.1.Sign, .slice as4 ns4 cs4], .box b2 24 [.int .i64 v3.1.Sign, .slice as3 ns3 cs3], .box b1 24 [.int .i64 ax1.Sign, .slice as1 ns1 cs1]] w' ∧ (SlR (Rp.int .i64) Fx12 as5 ns5 cs5 f2) ∧ Has 130 a [(2, .pointer (some ⟨b1, 0, none⟩)), (5, .bool v1), (8, vs v9), (11, .pointer (some ⟨b4, 0, none⟩)), (12, .int .i64 g1)]) ?_ ?_
                    · rintro a wx18 ⟨Fx12, b4, as5, ns5, cs5, hF12, hx17, hs5, hax7⟩
                      refine cw_apply hax7 ?_
                      obtain ⟨⟨f3, f4, hx18⟩, hb15, hm⟩ := bind_some hm
                      refine c_mid (fun a w' => ∃ (Fx13 : Frz) (b5 : Nat) (as6 : Option Addr) (ns6 : Nat) (cs6 : Nat), Frz.le Fx12 Fx13 ∧ HS F w [] Fx13 [.box b5 24 [.int .i64 f3, .slice as6 ns6 cs6], .box b4 24 [.int .i64 f1, .slice as5 ns5 cs5], .box b3 24 [.int .i64 v10.1.Sign, .slice as4 ns4 cs4], .box b2 24 [.int .i64 v3.1.Sign, .slice as3 ns3 cs3], .box b1 24 [.int .i64 ax1.Sign, .slice as1 ns1 cs1]] w' ∧ (SlR (Rp.int .i64) Fx13 as6 ns6 cs6 f4) ∧ Has 130 a [(5, .bool v1), (8, vs v9), (12, .int .i64 g1), (13, .pointer (some ⟨b5, 0, none⟩)), (14, .int .i64 hx18)]) ?_ ?_
                      · rintro a wx19 ⟨Fx13, b5, as6, ns6, cs6, hF13, hx19, hs6, hax8⟩
                        refine cw_apply hax8 ?_
                        refine c_seq ?_
                        refine c_region ?_
                        refine r_move rfl rfl rfl ?_
                        obtain ⟨t1, hq1, hm⟩ := bind_some hm
                        refine r_cat rfl rfl rfl rfl hq1 ?_
                        obtain ⟨v13, hv7, hm⟩ := bind_some hm
                        refine r_callG0 ent17 rfl rfl rfl rfl hx19 (big_Read_ok _ _ _ hv7 hx19.sat) ?_
                        rintro _ Fx14 _ wx20 hF14 hx20 ⟨as7, ns7, cs7, rfl, rfl, hs7⟩
                        refine r_move rfl rfl rfl ?_
                        refine r_extract rfl rfl rfl rfl ?_
                        refine r_extract rfl rfl rfl rfl ?_
                        refine r_alloc ze24 rfl rfl rfl hx20 ?_
                        intro b6 wx21 hx21
                        refine r_store sz24 rfl hx21 rfl rfl rfl rfl (i := 0) rfl rfl rfl rfl ?_
                        intro wx22 hx22
                        refine r_assign rfl rfl rfl ?_
                        refine r_nil ?_
                        refine q_then ?_
                        refine c_seq ?_
                        refine c_region ?_
                        refine r_move rfl rfl rfl ?_
                        refine r_move rfl rfl rfl ?_
                        obtain ⟨v14, hb16, hm⟩ := bind_some hm
                        refine r_mid 3 (fun a w' => wx22 = w' ∧ Has 130 a [(13, .pointer (some ⟨b5, 0, none⟩)), (14, .int .i64 hx18), (15, .pointer (some ⟨b6, 0, none⟩)), (16, .int .i64 v13.2), (116, .bool v14)]) ?_ ?_
                        · rintro a wx23 ⟨rfl, hax9⟩
                          refine rw_apply hax9 ?_
                          refine r_move rfl rfl rfl ?_
                          obtain ⟨v15, hb17, hm⟩ := bind_some hm
                          refine r_mid 3 (fun a w' => wx22 = w' ∧ Has 130 a [(13, .pointer (some ⟨b5, 0, none⟩)), (15, .pointer (some ⟨b6, 0, none⟩)), (16, .int .i64 v13.2), (120, .bool v15)]) ?_ ?_
                          · rintro a wx24 ⟨rfl, hax10⟩
                            refine rw_apply hax10 ?_
                            refine r_move rfl rfl rfl ?_
                            obtain ⟨v16, hb18, hm⟩ := bind_some hm
                            refine r_mid 3 (fun a w' => wx22 = w' ∧ Has 130 a [(13, .pointer (some ⟨b5, 0, none⟩)), (15, .pointer (some ⟨b6, 0, none⟩)), (124, .bool v16)]) ?_ ?_
                            · rintro a wx25 ⟨rfl, hax11⟩
                              refine rw_apply hax11 ?_
                              refine r_move rfl rfl rfl ?_
                              obtain ⟨v17, hb19, hm⟩ := bind_some hm
                              refine r_mid 4 (fun a w' => ∃ (Fx15 : Frz), Frz.le Fx14 Fx15 ∧ HS F w [] Fx15 [.box b6 24 [.int .i64 v13.1.Sign, .slice as7 ns7 cs7], .box b5 24 [.int .i64 f3, .slice as6 ns6 cs6], .box b4 24 [.int .i64 f1, .slice as5 ns5 cs5], .box b3 24 [.int .i64 v10.1.Sign, .slice as4 ns4 cs4], .box b2 24 [.int .i64 v3.1.Sign, .slice as3 ns3 cs3], .box b1 24 [.int .i64 ax1.Sign, .slice as1 ns1 cs1]] w' ∧ Has 130 a [(129, .bool v17)]) ?_ ?_
                              · rintro a wx26 ⟨Fx15, hF15, hx23, hax12⟩
                                refine rw_apply hax12 ?_
                                refine r_assign rfl rfl rfl ?_
                                refine r_nil ?_
                                refine q_then ?_
                                refine c_ret ?_
                                refine b_ret1 rfl rfl ?_
                                obtain rfl := Option.some.inj hm
                                exact ⟨_, _, _, rfl, hx23.pick [] (by decide) rfl, rfl, rfl⟩
                              · clear hm
                                rcases cond_some hb19 with ⟨hb20, hb19⟩ | ⟨hb20, hb19⟩
                                · refine r_lit 125 rfl hb20 ?_
                                  refine r_loadBA (cs' := [.int .i64 v13.1.Sign, .slice as7 ns7 cs7]) ag24 sz24 rfl rfl hx22 rfl (i := 0) rfl rfl rfl ?_
                                  refine r_loadBA (cs' := [.int .i64 f3, .slice as6 ns6 cs6]) ag24 sz24 rfl rfl hx22 rfl (i := 1) rfl rfl rfl ?_
                                  obtain ⟨v18, hv8, hb19⟩ := bind_some hb19
                                  refine r_callG0 ent14 rfl rfl rfl rfl hx22 (big_Same_ok _ _ _ _ hv8 hx22.sat hs7 (hs6.mono hF14)) ?_
                                  rintro _ Fx16 _ wx27 hF16 hx24 ⟨rfl, rfl⟩
                                  refine r_pick_true rfl rfl rfl rfl ?_
                                  refine r_nil ?_
                                  refine q_next (fun a ha => ?_)
                                  cases hb19
                                  exact ⟨_, hF16, hx24.pick [0, 1, 2, 3, 4, 5] (by decide) rfl, ha.cut (l := [129]) rfl⟩
                                · refine r_lit 125 rfl hb20 ?_
                                  refine r_off rfl (by decide) rfl ?_
                                  refine r_off rfl (by decide) rfl ?_
                                  refine r_off rfl (by decide) rfl ?_
                                  refine r_pick_false rfl rfl rfl rfl ?_
                                  refine r_nil ?_
                                  refine q_next (fun a ha => ?_)
                                  cases hb19
                                  exact ⟨_, Frz.refl _, hx22.pick [0, 1, 2, 3, 4, 5] (by decide) rfl, ha.cut (l := [129]) rfl⟩
                            · clear hm
                              rcases cond_some hb18 with ⟨hb21, hb18⟩ | ⟨hb21, hb18⟩
                              · refine r_lit 121 rfl hb21 ?_
                                refine r_move rfl rfl rfl ?_
                                refine r_bin rfl rfl rfl rfl rfl ?_
                                refine r_pick_true rfl rfl rfl rfl ?_
                                refine r_nil ?_
                                refine q_next (fun a ha => ?_)
                                cases hb18
                                exact ⟨rfl, ha.cut (l := [13, 15, 124]) rfl⟩
                              · refine r_lit 121 rfl hb21 ?_
                                refine r_off rfl (by decide) rfl ?_
                                refine r_off rfl (by decide) rfl ?_
                                refine r_pick_false rfl rfl rfl rfl ?_
                                refine r_nil ?_
                                refine q_next (fun a ha => ?_)
                                cases hb18
                                exact ⟨rfl, ha.cut (l := [13, 15, 124]) rfl⟩
                          · clear hm
                            rcases cond_some hb17 with ⟨hb22, hb17⟩ | ⟨hb22, hb17⟩
                            · refine r_lit 117 rfl hb22 ?_
                              refine r_move rfl rfl rfl ?_
                              refine r_bin rfl rfl rfl rfl rfl ?_
                              refine r_pick_true rfl rfl rfl rfl ?_
                              refine r_nil ?_
                              refine q_next (fun a ha => ?_)
                              cases hb17
                              exact ⟨rfl, ha.cut (l := [13, 15, 16, 120]) rfl⟩
                            · refine r_lit 117 rfl hb22 ?_
                              refine r_off rfl (by decide) rfl ?_
                              refine r_off rfl (by decide) rfl ?_
                              refine r_pick_false rfl rfl rfl rfl ?_
                              refine r_nil ?_
                              refine q_next (fun a ha => ?_)
                              cases hb17
                              exact ⟨rfl, ha.cut (l := [13, 15, 16, 120]) rfl⟩
                        · clear hm
                          rcases cond_some hb16 with ⟨hb23, hb16⟩ | ⟨hb23, hb16⟩
                          · refine r_lit 113 rfl hb23 ?_
                            refine r_move rfl rfl rfl ?_
                            refine r_bin rfl rfl rfl rfl rfl ?_
                            refine r_pick_true rfl rfl rfl rfl ?_
                            refine r_nil ?_
                            refine q_next (fun a ha => ?_)
                            cases hb16
                            exact ⟨rfl, ha.cut (l := [13, 14, 15, 16, 116]) rfl⟩
                          · refine r_lit 113 rfl hb23 ?_
                            refine r_off rfl (by decide) rfl ?_
                            refine r_off rfl (by decide) rfl ?_
                            refine r_pick_false rfl rfl rfl rfl ?_
                            refine r_nil ?_
                            refine q_next (fun a ha => ?_)
                            cases hb16
                            exact ⟨rfl, ha.cut (l := [13, 14, 15, 16, 116]) rfl⟩
                      · clear hm
                        refine c_regionH (SH Fx12 [.box b4 24 [.int .i64 f1, .slice as5 ns5 cs5], .box b3 24 [.int .i64 v10.1.Sign, .slice as4 ns4 cs4], .box b2 24 [.int .i64 v3.1.Sign, .slice as3 ns3 cs3], .box b1 24 [.int .i64 ax1.Sign, .slice as1 ns1 cs1]]) 12 rfl (by kernel_rfl) hx17 ?_
                        intro wx28 hx25
                        refine d_take 0 (v := .agg #[.int .i64 f1, .slice as5 ns5 cs5]) rfl (by kernel_rfl) (by kernel_rfl) (by kernel_rfl) rfl rfl rfl rfl (hx25.sh (Frz.refl _) [0, 1, 2, 3] (by decide) rfl) (fun _ hC => ?_) ?_
                        · obtain ⟨_, _, hleq, hq⟩ := hC
                          refine r_loadBA (cs' := [.int .i64 f1, .slice as5 ns5 cs5]) ag24 sz24 rfl rfl hq rfl (i := 0) rfl rfl rfl (r_nil (qq rfl))
                        refine d_take 1 (v := .pointer (some ⟨b1, 0, none⟩)) rfl (by kernel_rfl) (by kernel_rfl) (by kernel_rfl) rfl rfl rfl rfl (hx25.sh (Frz.refl _) [0, 1, 2, 3] (by decide) rfl) (fun _ hC => ?_) ?_
                        · obtain ⟨_, _, hleq, hq⟩ := hC
                          refine r_fieldAddr fa24_0 rfl rfl rfl (r_nil (qq rfl))
                        refine d_take 2 (v := .int .i64 ax1.Sign) rfl (by kernel_rfl) (by kernel_rfl) (by kernel_rfl) rfl rfl rfl rfl (hx25.sh (Frz.refl _) [0, 1, 2, 3] (by decide) rfl) (fun _ hC => ?_) ?_
                        · obtain ⟨_, _, hleq, hq⟩ := hC
                          refine r_loadB1 ag3 rfl rfl hq rfl (i := 3) rfl rfl (r_nil (qq rfl))
                        refine d_take 3 (v := .int .i64 (imul .i64 7 ax1.Sign)) rfl (by kernel_rfl) (by kernel_rfl) (by kernel_rfl) rfl rfl rfl rfl (hx25.sh (Frz.refl _) [0, 1, 2, 3] (by decide) rfl) (fun _ hC => ?_) ?_
                        · obtain ⟨_, _, hleq, hq⟩ := hC
                          refine r_bin rfl rfl rfl rfl rfl (r_nil (qq rfl))
                        refine d_two 4 9 rfl rfl (by kernel_rfl) ?_ ?_
                        · obtain ⟨v19, hv9, hb15⟩ := bind_some hb15
                          refine r_callG0 ent19 rfl rfl rfl rfl hx25 (big_Of_ok _ _ _ hv9 hx25.sat) ?_
                          rintro _ Fx17 _ wx29 hF17 hx26 ⟨as8, ns8, cs8, rfl, rfl, hs8⟩
                          refine d_next (hx26.sh hF17 [0, 1, 2, 3] (by decide) rfl) ?_
                          refine d_two 5 9 rfl rfl (by kernel_rfl) ?_ ?_
                          · obtain ⟨v20, hv10, hb15⟩ := bind_some hb15
                            refine r_callG0 ent20 rfl rfl rfl rfl hx26 (big_Add_ok _ _ _ _ hv10 hx26.sat (hs5.mono hF17) hs8) ?_
                            rintro _ Fx18 _ wx30 hF18 hx27 ⟨as9, ns9, cs9, rfl, rfl, hs9⟩
                            refine d_next (hx27.sh (hF17.trans hF18) [0, 1, 2, 3] (by decide) rfl) ?_
                            refine d_take 6 (v := .tuple #[.agg #[.int .i64 v20.1.Sign, .slice as9 ns9 cs9], .int .i64 v20.2]) rfl (by kernel_rfl) (by kernel_rfl) (by kernel_rfl) rfl rfl rfl rfl (hx27.sh (hF17.trans hF18) [0, 1, 2, 3] (by decide) rfl) (fun _ hC => ?_) ?_
                            · obtain ⟨_, _, hleq, hq⟩ := hC
                              refine r_move rfl rfl rfl (r_nil (qq rfl))
                            refine d_take 7 (v := .agg #[.int .i64 v20.1.Sign, .slice as9 ns9 cs9]) rfl (by kernel_rfl) (by kernel_rfl) (by kernel_rfl) rfl rfl rfl rfl (hx27.sh (hF17.trans hF18) [0, 1, 2, 3] (by decide) rfl) (fun _ hC => ?_) ?_
                            · obtain ⟨_, _, hleq, hq⟩ := hC
                              refine r_extract rfl rfl rfl rfl (r_nil (qq rfl))
                            refine d_take 8 (v := .int .i64 v20.2) rfl (by kernel_rfl) (by kernel_rfl) (by kernel_rfl) rfl rfl rfl rfl (hx27.sh (hF17.trans hF18) [0, 1, 2, 3] (by decide) rfl) (fun _ hC => ?_) ?_
                            · obtain ⟨_, _, hleq, hq⟩ := hC
                              refine r_extract rfl rfl rfl rfl (r_nil (qq rfl))
                            refine d_step 9 rfl (by kernel_rfl) ?_
                            refine r_alloc ze24 rfl rfl rfl hx27 ?_
                            intro b7 wx31 hx28
                            refine d_next (hx28.sh (hF17.trans hF18) [1, 2, 3, 4] (by decide) rfl) ?_
                            refine d_step 10 rfl (by kernel_rfl) ?_
                            refine r_store sz24 rfl hx28 rfl rfl rfl rfl (i := 0) rfl rfl rfl rfl ?_
                            intro wx32 hx29
                            refine d_next (hx29.sh (hF17.trans hF18) [1, 2, 3, 4] (by decide) rfl) ?_
                            refine d_take 11 (v := .int .i64 v20.2) rfl (by kernel_rfl) (by kernel_rfl) (by kernel_rfl) rfl rfl rfl rfl (hx29.sh (hF17.trans hF18) [1, 2, 3, 4] (by decide) rfl) (fun _ hC => ?_) ?_
                            · obtain ⟨_, _, hleq, hq⟩ := hC
                              refine r_assign rfl rfl rfl (r_nil (qq rfl))
                            refine d_done (by kernel_rfl) ?_
                            refine q_next (fun a ha => ?_)
                            cases hb15
                            exact ⟨_, b7, as9, ns9, cs9, (hF17.trans hF18), hx29.pick [0, 1, 2, 3, 4] (by decide) rfl, hs9, ha.cut (l := [5, 8, 12, 13, 14]) rfl⟩
                          · refine r_alloc ze24 rfl rfl rfl hx26 ?_
                            intro b7 wx30 hx27
                            refine d_next (hx27.sh hF17 [1, 2, 3, 4] (by decide) rfl) ?_
                            refine d_step 5 rfl (by kernel_rfl) ?_
                            obtain ⟨v20, hv10, hb15⟩ := bind_some hb15
                            refine r_callG0 ent20 rfl rfl rfl rfl hx27 (big_Add_ok _ _ _ _ hv10 hx27.sat (hs5.mono hF17) hs8) ?_
                            rintro _ Fx18 _ wx31 hF18 hx28 ⟨as9, ns9, cs9, rfl, rfl, hs9⟩
                            refine d_next (hx28.sh (hF17.trans hF18) [1, 2, 3, 4] (by decide) rfl) ?_
                            refine d_take 6 (v := .tuple #[.agg #[.int .i64 v20.1.Sign, .slice as9 ns9 cs9], .int .i64 v20.2]) rfl (by kernel_rfl) (by kernel_rfl) (by kernel_rfl) rfl rfl rfl rfl (hx28.sh (hF17.trans hF18) [1, 2, 3, 4] (by decide) rfl) (fun _ hC => ?_) ?_
                            · obtain ⟨_, _, hleq, hq⟩ := hC
                              refine r_move rfl rfl rfl (r_nil (qq rfl))
                            refine d_take 7 (v := .agg #[.int .i64 v20.1.Sign, .slice as9 ns9 cs9]) rfl (by kernel_rfl) (by kernel_rfl) (by kernel_rfl) rfl rfl rfl rfl (hx28.sh (hF17.trans hF18) [1, 2, 3, 4] (by decide) rfl) (fun _ hC => ?_) ?_
                            · obtain ⟨_, _, hleq, hq⟩ := hC
                              refine r_extract rfl rfl rfl rfl (r_nil (qq rfl))
                            refine d_take 8 (v := .int .i64 v20.2) rfl (by kernel_rfl) (by kernel_rfl) (by kernel_rfl) rfl rfl rfl rfl (hx28.sh (hF17.trans hF18) [1, 2, 3, 4] (by decide) rfl) (fun _ hC => ?_) ?_
                            · obtain ⟨_, _, hleq, hq⟩ := hC
                              refine r_extract rfl rfl rfl rfl (r_nil (qq rfl))
                            refine d_step 10 rfl (by kernel_rfl) ?_
                            refine r_store sz24 rfl hx28 rfl rfl rfl rfl (i := 0) rfl rfl rfl rfl ?_
                            intro wx32 hx29
                            refine d_next (hx29.sh (hF17.trans hF18) [1, 2, 3, 4] (by decide) rfl) ?_
                            refine d_take 11 (v := .int .i64 v20.2) rfl (by kernel_rfl) (by kernel_rfl) (by kernel_rfl) rfl rfl rfl rfl (hx29.sh (hF17.trans hF18) [1, 2, 3, 4] (by decide) rfl) (fun _ hC => ?_) ?_
                            · obtain ⟨_, _, hleq, hq⟩ := hC
                              refine r_assign rfl rfl rfl (r_nil (qq rfl))
                            refine d_done (by kernel_rfl) ?_
                            refine q_next (fun a ha => ?_)
                            cases hb15
                            exact ⟨_, b7, as9, ns9, cs9, (hF17.trans hF18), hx29.pick [0, 1, 2, 3, 4] (by decide) rfl, hs9, ha.cut (l := [5, 8, 12, 13, 14]) rfl⟩
                        · refine r_alloc ze24 rfl rfl rfl hx25 ?_
                          intro b7 wx29 hx26
                          refine d_next (hx26.sh (Frz.refl _) [1, 2, 3, 4] (by decide) rfl) ?_
                          refine d_step 4 rfl (by kernel_rfl) ?_
                          obtain ⟨v19, hv9, hb15⟩ := bind_some hb15
                          refine r_callG0 ent19 rfl rfl rfl rfl hx26 (big_Of_ok _ _ _ hv9 hx26.sat) ?_
                          rintro _ Fx17 _ wx30 hF17 hx27 ⟨as8, ns8, cs8, rfl, rfl, hs8⟩
                          refine d_next (hx27.sh hF17 [1, 2, 3, 4] (by decide) rfl) ?_
                          refine d_step 5 rfl (by kernel_rfl) ?_
                          obtain ⟨v20, hv10, hb15⟩ := bind_some hb15
                          refine r_callG0 ent20 rfl rfl rfl rfl hx27 (big_Add_ok _ _ _ _ hv10 hx27.sat (hs5.mono hF17) hs8) ?_
                          rintro _ Fx18 _ wx31 hF18 hx28 ⟨as9, ns9, cs9, rfl, rfl, hs9⟩
                          refine d_next (hx28.sh (hF17.trans hF18) [1, 2, 3, 4] (by decide) rfl) ?_
                          refine d_take 6 (v := .tuple #[.agg #[.int .i64 v20.1.Sign, .slice as9 ns9 cs9], .int .i64 v20.2]) rfl (by kernel_rfl) (by kernel_rfl) (by kernel_rfl) rfl rfl rfl rfl (hx28.sh (hF17.trans hF18) [1, 2, 3, 4] (by decide) rfl) (fun _ hC => ?_) ?_
                          · obtain ⟨_, _, hleq, hq⟩ := hC
                            refine r_move rfl rfl rfl (r_nil (qq rfl))
                          refine d_take 7 (v := .agg #[.int .i64 v20.1.Sign, .slice as9 ns9 cs9]) rfl (by kernel_rfl) (by kernel_rfl) (by kernel_rfl) rfl rfl rfl rfl (hx28.sh (hF17.trans hF18) [1, 2, 3, 4] (by decide) rfl) (fun _ hC => ?_) ?_
                          · obtain ⟨_, _, hleq, hq⟩ := hC
                            refine r_extract rfl rfl rfl rfl (r_nil (qq rfl))
                          refine d_take 8 (v := .int .i64 v20.2) rfl (by kernel_rfl) (by kernel_rfl) (by kernel_rfl) rfl rfl rfl rfl (hx28.sh (hF17.trans hF18) [1, 2, 3, 4] (by decide) rfl) (fun _ hC => ?_) ?_
                          · obtain ⟨_, _, hleq, hq⟩ := hC
                            refine r_extract rfl rfl rfl rfl (r_nil (qq rfl))
                          refine d_step 10 rfl (by kernel_rfl) ?_
                          refine r_store sz24 rfl hx28 rfl rfl rfl rfl (i := 0) rfl rfl rfl rfl ?_
                          intro wx32 hx29
                          refine d_next (hx29.sh (hF17.trans hF18) [1, 2, 3, 4] (by decide) rfl) ?_
                          refine d_take 11 (v := .int .i64 v20.2) rfl (by kernel_rfl) (by kernel_rfl) (by kernel_rfl) rfl rfl rfl rfl (hx29.sh (hF17.trans hF18) [1, 2, 3, 4] (by decide) rfl) (fun _ hC => ?_) ?_
                          · obtain ⟨_, _, hleq, hq⟩ := hC
                            refine r_assign rfl rfl rfl (r_nil (qq rfl))
                          refine d_done (by kernel_rfl) ?_
                          refine q_next (fun a ha => ?_)
                          cases hb15
                          exact ⟨_, b7, as9, ns9, cs9, (hF17.trans hF18), hx29.pick [0, 1, 2, 3, 4] (by decide) rfl, hs9, ha.cut (l := [5, 8, 12, 13, 14]) rfl⟩
                    · clear hm
                      refine c_regionH (SH Fx11 [.box b3 24 [.int .i64 v10.1.Sign, .slice as4 ns4 cs4], .box b2 24 [.int .i64 v3.1.Sign, .slice as3 ns3 cs3], .box b1 24 [.int .i64 ax1.Sign, .slice as1 ns1 cs1]]) 9 rfl (by kernel_rfl) hx16 ?_
                      intro wx33 hx30
                      refine d_take 0 (v := .agg #[.int .i64 ax1.Sign, .slice as1 ns1 cs1]) rfl (by kernel_rfl) (by kernel_rfl) (by kernel_rfl) rfl rfl rfl rfl (hx30.sh (Frz.refl _) [0, 1, 2] (by decide) rfl) (fun _ hC => ?_) ?_
                      · obtain ⟨_, _, hleq, hq⟩ := hC
                        refine r_loadBA (cs' := [.int .i64 ax1.Sign, .slice as1 ns1 cs1]) ag24 sz24 rfl rfl hq rfl (i := 2) rfl rfl rfl (r_nil (qq rfl))
                      refine d_two 1 6 rfl rfl (by kernel_rfl) ?_ ?_
                      · obtain ⟨v21, hv11, hb14⟩ := bind_some hb14
                        refine r_callG0 ent19 rfl rfl rfl rfl hx30 (big_Of_ok _ _ _ hv11 hx30.sat) ?_
                        rintro _ Fx19 _ wx34 hF19 hx31 ⟨as10, ns10, cs10, rfl, rfl, hs10⟩
                        refine d_next (hx31.sh hF19 [0, 1, 2] (by decide) rfl) ?_
                        refine d_two 2 6 rfl rfl (by kernel_rfl) ?_ ?_
                        · obtain ⟨v22, hv12, hb14⟩ := bind_some hb14
                          refine r_callG0 ent16 rfl rfl rfl rfl hx31 (big_Mul_ok _ _ _ _ hv12 hx31.sat ((((((((((hs1.mono hF1).mono hF2).mono hF3).mono hF4).mono hF5).mono hF6).mono hF9).mono hF10).mono hF11).mono hF19) hs10) ?_
                          rintro _ Fx20 _ wx35 hF20 hx32 ⟨as11, ns11, cs11, rfl, rfl, hs11⟩
                          refine d_next (hx32.sh (hF19.trans hF20) [0, 1, 2] (by decide) rfl) ?_
                          refine d_take 3 (v := .tuple #[.agg #[.int .i64 v22.1.Sign, .slice as11 ns11 cs11], .int .i64 v22.2]) rfl (by kernel_rfl) (by kernel_rfl) (by kernel_rfl) rfl rfl rfl rfl (hx32.sh (hF19.trans hF20) [0, 1, 2] (by decide) rfl) (fun _ hC => ?_) ?_
                          · obtain ⟨_, _, hleq, hq⟩ := hC
                            refine r_move rfl rfl rfl (r_nil (qq rfl))
                          refine d_take 4 (v := .agg #[.int .i64 v22.1.Sign, .slice as11 ns11 cs11]) rfl (by kernel_rfl) (by kernel_rfl) (by kernel_rfl) rfl rfl rfl rfl (hx32.sh (hF19.trans hF20) [0, 1, 2] (by decide) rfl) (fun _ hC => ?_) ?_
                          · obtain ⟨_, _, hleq, hq⟩ := hC
                            refine r_extract rfl rfl rfl rfl (r_nil (qq rfl))
                          refine d_take 5 (v := .int .i64 v22.2) rfl (by kernel_rfl) (by kernel_rfl) (by kernel_rfl) rfl rfl rfl rfl (hx32.sh (hF19.trans hF20) [0, 1, 2] (by decide) rfl) (fun _ hC => ?_) ?_
                          · obtain ⟨_, _, hleq, hq⟩ := hC
                            refine r_extract rfl rfl rfl rfl (r_nil (qq rfl))
                          refine d_step 6 rfl (by kernel_rfl) ?_
                          refine r_alloc ze24 rfl rfl rfl hx32 ?_
                          intro b8 wx36 hx33
                          refine d_next (hx33.sh (hF19.trans hF20) [1, 2, 3] (by decide) rfl) ?_
                          refine d_step 7 rfl (by kernel_rfl) ?_
                          refine r_store sz24 rfl hx33 rfl rfl rfl rfl (i := 0) rfl rfl rfl rfl ?_
                          intro wx37 hx34
                          refine d_next (hx34.sh (hF19.trans hF20) [1, 2, 3] (by decide) rfl) ?_
                          refine d_take 8 (v := .int .i64 v22.2) rfl (by kernel_rfl) (by kernel_rfl) (by kernel_rfl) rfl rfl rfl rfl (hx34.sh (hF19.trans hF20) [1, 2, 3] (by decide) rfl) (fun _ hC => ?_) ?_
                          · obtain ⟨_, _, hleq, hq⟩ := hC
                            refine r_assign rfl rfl rfl (r_nil (qq rfl))
                          refine d_done (by kernel_rfl) ?_
                          refine q_next (fun a ha => ?_)
                          cases hb14
                          exact ⟨_, b8, as11, ns11, cs11, (hF19.trans hF20), hx34.pick [0, 1, 2, 3] (by decide) rfl, hs11, ha.cut (l := [2, 5, 8, 11, 12]) rfl⟩
                        · refine r_alloc ze24 rfl rfl rfl hx31 ?_
                          intro b8 wx35 hx32
                          refine d_next (hx32.sh hF19 [1, 2, 3] (by decide) rfl) ?_
                          refine d_step 2 rfl (by kernel_rfl) ?_
                          obtain ⟨v22, hv12, hb14⟩ := bind_some hb14
                          refine r_callG0 ent16 rfl rfl rfl rfl hx32 (big_Mul_ok _ _ _ _ hv12 hx32.sat ((((((((((hs1.mono hF1).mono hF2).mono hF3).mono hF4).mono hF5).mono hF6).mono hF9).mono hF10).mono hF11).mono hF19) hs10) ?_
                          rintro _ Fx20 _ wx36 hF20 hx33 ⟨as11, ns11, cs11, rfl, rfl, hs11⟩
                          refine d_next (hx33.sh (hF19.trans hF20) [1, 2, 3] (by decide) rfl) ?_
                          refine d_take 3 (v := .tuple #[.agg #[.int .i64 v22.1.Sign, .slice as11 ns11 cs11], .int .i64 v22.2]) rfl (by kernel_rfl) (by kernel_rfl) (by kernel_rfl) rfl rfl rfl rfl (hx33.sh (hF19.trans hF20) [1, 2, 3] (by decide) rfl) (fun _ hC => ?_) ?_
                          · obtain ⟨_, _, hleq, hq⟩ := hC
                            refine r_move rfl rfl rfl (r_nil (qq rfl))
                          refine d_take 4 (v := .agg #[.int .i64 v22.1.Sign, .slice as11 ns11 cs11]) rfl (by kernel_rfl) (by kernel_rfl) (by kernel_rfl) rfl rfl rfl rfl (hx33.sh (hF19.trans hF20) [1, 2, 3] (by decide) rfl) (fun _ hC => ?_) ?_
                          · obtain ⟨_, _, hleq, hq⟩ := hC
                            refine r_extract rfl rfl rfl rfl (r_nil (qq rfl))
                          refine d_take 5 (v := .int .i64 v22.2) rfl (by kernel_rfl) (by kernel_rfl) (by kernel_rfl) rfl rfl rfl rfl (hx33.sh (hF19.trans hF20) [1, 2, 3] (by decide) rfl) (fun _ hC => ?_) ?_
                          · obtain ⟨_, _, hleq, hq⟩ := hC
                            refine r_extract rfl rfl rfl rfl (r_nil (qq rfl))
                          refine d_step 7 rfl (by kernel_rfl) ?_
                          refine r_store sz24 rfl hx33 rfl rfl rfl rfl (i := 0) rfl rfl rfl rfl ?_
                          intro wx37 hx34
                          refine d_next (hx34.sh (hF19.trans hF20) [1, 2, 3] (by decide) rfl) ?_
                          refine d_take 8 (v := .int .i64 v22.2) rfl (by kernel_rfl) (by kernel_rfl) (by kernel_rfl) rfl rfl rfl rfl (hx34.sh (hF19.trans hF20) [1, 2, 3] (by decide) rfl) (fun _ hC => ?_) ?_
                          · obtain ⟨_, _, hleq, hq⟩ := hC
                            refine r_assign rfl rfl rfl (r_nil (qq rfl))
                          refine d_done (by kernel_rfl) ?_
                          refine q_next (fun a ha => ?_)
                          cases hb14
                          exact ⟨_, b8, as11, ns11, cs11, (hF19.trans hF20), hx34.pick [0, 1, 2, 3] (by decide) rfl, hs11, ha.cut (l := [2, 5, 8, 11, 12]) rfl⟩
                      · refine r_alloc ze24 rfl rfl rfl hx30 ?_
                        intro b8 wx34 hx31
                        refine d_next (hx31.sh (Frz.refl _) [1, 2, 3] (by decide) rfl) ?_
                        refine d_step 1 rfl (by kernel_rfl) ?_
                        obtain ⟨v21, hv11, hb14⟩ := bind_some hb14
                        refine r_callG0 ent19 rfl rfl rfl rfl hx31 (big_Of_ok _ _ _ hv11 hx31.sat) ?_
                        rintro _ Fx19 _ wx35 hF19 hx32 ⟨as10, ns10, cs10, rfl, rfl, hs10⟩
                        refine d_next (hx32.sh hF19 [1, 2, 3] (by decide) rfl) ?_
                        refine d_step 2 rfl (by kernel_rfl) ?_
                        obtain ⟨v22, hv12, hb14⟩ := bind_some hb14
                        refine r_callG0 ent16 rfl rfl rfl rfl hx32 (big_Mul_ok _ _ _ _ hv12 hx32.sat ((((((((((hs1.mono hF1).mono hF2).mono hF3).mono hF4).mono hF5).mono hF6).mono hF9).mono hF10).mono hF11).mono hF19) hs10) ?_
                        rintro _ Fx20 _ wx36 hF20 hx33 ⟨as11, ns11, cs11, rfl, rfl, hs11⟩
                        refine d_next (hx33.sh (hF19.trans hF20) [1, 2, 3] (by decide) rfl) ?_
                        refine d_take 3 (v := .tuple #[.agg #[.int .i64 v22.1.Sign, .slice as11 ns11 cs11], .int .i64 v22.2]) rfl (by kernel_rfl) (by kernel_rfl) (by kernel_rfl) rfl rfl rfl rfl (hx33.sh (hF19.trans hF20) [1, 2, 3] (by decide) rfl) (fun _ hC => ?_) ?_
                        · obtain ⟨_, _, hleq, hq⟩ := hC
                          refine r_move rfl rfl rfl (r_nil (qq rfl))
                        refine d_take 4 (v := .agg #[.int .i64 v22.1.Sign, .slice as11 ns11 cs11]) rfl (by kernel_rfl) (by kernel_rfl) (by kernel_rfl) rfl rfl rfl rfl (hx33.sh (hF19.trans hF20) [1, 2, 3] (by decide) rfl) (fun _ hC => ?_) ?_
                        · obtain ⟨_, _, hleq, hq⟩ := hC
                          refine r_extract rfl rfl rfl rfl (r_nil (qq rfl))
                        refine d_take 5 (v := .int .i64 v22.2) rfl (by kernel_rfl) (by kernel_rfl) (by kernel_rfl) rfl rfl rfl rfl (hx33.sh (hF19.trans hF20) [1, 2, 3] (by decide) rfl) (fun _ hC => ?_) ?_
                        · obtain ⟨_, _, hleq, hq⟩ := hC
                          refine r_extract rfl rfl rfl rfl (r_nil (qq rfl))
                        refine d_step 7 rfl (by kernel_rfl) ?_
                        refine r_store sz24 rfl hx33 rfl rfl rfl rfl (i := 0) rfl rfl rfl rfl ?_
                        intro wx37 hx34
                        refine d_next (hx34.sh (hF19.trans hF20) [1, 2, 3] (by decide) rfl) ?_
                        refine d_take 8 (v := .int .i64 v22.2) rfl (by kernel_rfl) (by kernel_rfl) (by kernel_rfl) rfl rfl rfl rfl (hx34.sh (hF19.trans hF20) [1, 2, 3] (by decide) rfl) (fun _ hC => ?_) ?_
                        · obtain ⟨_, _, hleq, hq⟩ := hC
                          refine r_assign rfl rfl rfl (r_nil (qq rfl))
                        refine d_done (by kernel_rfl) ?_
                        refine q_next (fun a ha => ?_)
                        cases hb14
                        exact ⟨_, b8, as11, ns11, cs11, (hF19.trans hF20), hx34.pick [0, 1, 2, 3] (by decide) rfl, hs11, ha.cut (l := [2, 5, 8, 11, 12]) rfl⟩
              · clear hm
                rcases cond_some hb9 with ⟨hb24, hb9⟩ | ⟨hb24, hb9⟩
                · refine r_lit 77 rfl hb24 ?_
                  refine r_off rfl (by decide) rfl ?_
                  refine r_off rfl (by decide) rfl ?_
                  refine r_off rfl (by decide) rfl ?_
                  refine r_off rfl (by decide) rfl ?_
                  refine r_pick_true rfl rfl rfl rfl ?_
                  refine r_nil ?_
                  refine q_next (fun a ha => ?_)
                  cases hb9
                  exact ⟨_, Frz.refl _, hx15.pick [0, 1, 2] (by decide) rfl, ha.cut (l := [2, 5, 8, 82]) rfl⟩
                · refine r_lit 77 rfl hb24 ?_
                  refine r_loadBA (cs' := [.int .i64 v10.1.Sign, .slice as4 ns4 cs4]) ag24 sz24 rfl rfl hx15 rfl (i := 0) rfl rfl rfl ?_
                  refine r_loadBA (cs' := [.int .i64 ax1.Sign, .slice as1 ns1 cs1]) ag24 sz24 rfl rfl hx15 rfl (i := 2) rfl rfl rfl ?_
                  obtain ⟨v23, hv13, hb9⟩ := bind_some hb9
                  refine r_callG0 ent14 rfl rfl rfl rfl hx15 (big_Same_ok _ _ _ _ hv13 hx15.sat hs4 ((((((((hs1.mono hF1).mono hF2).mono hF3).mono hF4).mono hF5).mono hF6).mono hF9).mono hF10)) ?_
                  rintro _ Fx21 _ wx38 hF21 hx35 ⟨rfl, rfl⟩
                  refine r_not rfl rfl rfl ?_
                  refine r_pick_false rfl rfl rfl rfl ?_
                  refine r_nil ?_
                  refine q_next (fun a ha => ?_)
                  cases hb9
                  exact ⟨_, hF21, hx35.pick [0, 1, 2] (by decide) rfl, ha.cut (l := [2, 5, 8, 82]) rfl⟩
        · clear hm
          rcases cond_some hb4 with ⟨hb25, hb4⟩ | ⟨hb25, hb4⟩
          · refine r_lit 45 rfl hb25 ?_
            refine r_off rfl (by decide) rfl ?_
            refine r_off rfl (by decide) rfl ?_
            refine r_off rfl (by decide) rfl ?_
            refine r_off rfl (by decide) rfl ?_
            refine r_off rfl (by decide) rfl ?_
            refine r_off rfl (by decide) rfl ?_
            refine r_off rfl (by decide) rfl ?_
            refine r_off rfl (by decide) rfl ?_
            refine r_off rfl (by decide) rfl ?_
            refine r_off rfl (by decide) rfl ?_
            refine r_off rfl (by decide) rfl ?_
            refine r_off rfl (by decide) rfl ?_
            refine r_pick_true rfl rfl rfl rfl ?_
            refine r_nil ?_
            refine q_next (fun a ha => ?_)
            cases hb4
            exact ⟨_, Frz.refl _, hx7.pick [0, 1] (by decide) rfl, ha.cut (l := [2, 5, 58]) rfl⟩
          · refine r_lit 45 rfl hb25 ?_
            refine r_move rfl rfl rfl ?_
            refine r_bin rfl rfl rfl rfl rfl ?_
            refine r_move rfl rfl rfl ?_
            obtain ⟨v24, hb26, hb4⟩ := bind_some hb4
            refine r_mid 9 (fun a w' => ∃ (Fx22 : Frz), Frz.le Fx4 Fx22 ∧ HS F w [] Fx22 [.box b2 24 [.int .i64 v3.1.Sign, .slice as3 ns3 cs3], .box b1 24 [.int .i64 ax1.Sign, .slice as1 ns1 cs1]] w' ∧ Has 130 a [(2, .pointer (some ⟨b1, 0, none⟩)), (5, .bool v1), (45, .bool false), (57, .bool v24)]) ?_ ?_
            · rintro a wx39 ⟨Fx22, hF22, hx36, hax13⟩
              refine rw_apply hax13 ?_
              refine r_pick_false rfl rfl rfl rfl ?_
              refine r_nil ?_
              refine q_next (fun a ha => ?_)
              cases hb4
              exact ⟨_, hF22, hx36.pick [0, 1] (by decide) rfl, ha.cut (l := [2, 5, 58]) rfl⟩
            · clear hb4
              rcases cond_some hb26 with ⟨hb27, hb26⟩ | ⟨hb27, hb26⟩
              · refine r_lit 48 rfl hb27 ?_
                refine r_move rfl rfl rfl ?_
                refine r_bin rfl rfl rfl rfl rfl ?_
                refine r_move rfl rfl rfl ?_
                obtain ⟨v25, hb28, hb26⟩ := bind_some hb26
                refine r_mid 5 (fun a w' => ∃ (Fx23 : Frz), Frz.le Fx4 Fx23 ∧ HS F w [] Fx23 [.box b2 24 [.int .i64 v3.1.Sign, .slice as3 ns3 cs3], .box b1 24 [.int .i64 ax1.Sign, .slice as1 ns1 cs1]] w' ∧ Has 130 a [(2, .pointer (some ⟨b1, 0, none⟩)), (5, .bool v1), (45, .bool false), (48, .bool true), (56, .bool v25)]) ?_ ?_
                · rintro a wx40 ⟨Fx23, hF23, hx37, hax14⟩
                  refine rw_apply hax14 ?_
                  refine r_pick_true rfl rfl rfl rfl ?_
                  refine r_nil ?_
                  refine q_next (fun a ha => ?_)
                  cases hb26
                  exact ⟨_, hF23, hx37.pick [0, 1] (by decide) rfl, ha.cut (l := [2, 5, 45, 57]) rfl⟩
                · clear hb26
                  rcases cond_some hb28 with ⟨hb29, hb28⟩ | ⟨hb29, hb28⟩
                  · refine r_lit 51 rfl hb29 ?_
                    refine r_off rfl (by decide) rfl ?_
                    refine r_off rfl (by decide) rfl ?_
                    refine r_off rfl (by decide) rfl ?_
                    refine r_off rfl (by decide) rfl ?_
                    refine r_pick_true rfl rfl rfl rfl ?_
                    refine r_nil ?_
                    refine q_next (fun a ha => ?_)
                    cases hb28
                    exact ⟨_, Frz.refl _, hx7.pick [0, 1] (by decide) rfl, ha.cut (l := [2, 5, 45, 48, 56]) rfl⟩
                  · refine r_lit 51 rfl hb29 ?_
                    refine r_loadBA (cs' := [.int .i64 v3.1.Sign, .slice as3 ns3 cs3]) ag24 sz24 rfl rfl hx7 rfl (i := 0) rfl rfl rfl ?_
                    refine r_build (v := .agg #[.int .i64 0, .slice none 0 0]) rfl rfl rfl (fun _ => by kernel_rfl) ?_
                    obtain ⟨v26, hv14, hb28⟩ := bind_some hb28
                    refine r_callG0 ent14 rfl rfl rfl rfl hx7 (big_Same_ok _ _ _ _ hv14 hx7.sat (hs3.mono hF4) (SlR.nil _ _)) ?_
                    rintro _ Fx24 _ wx41 hF24 hx38 ⟨rfl, rfl⟩
                    refine r_not rfl rfl rfl ?_
                    refine r_pick_false rfl rfl rfl rfl ?_
                    refine r_nil ?_
                    refine q_next (fun a ha => ?_)
                    cases hb28
                    exact ⟨_, hF24, hx38.pick [0, 1] (by decide) rfl, ha.cut (l := [2, 5, 45, 48, 56]) rfl⟩
              · refine r_lit 48 rfl hb27 ?_
                refine r_off rfl (by decide) rfl ?_
                refine r_off rfl (by decide) rfl ?_
                refine r_off rfl (by decide) rfl ?_
                refine r_off rfl (by decide) rfl ?_
                refine r_off rfl (by decide) rfl ?_
                refine r_off rfl (by decide) rfl ?_
                refine r_off rfl (by decide) rfl ?_
                refine r_off rfl (by decide) rfl ?_
                refine r_pick_false rfl rfl rfl rfl ?_
                refine r_nil ?_
                refine q_next (fun a ha => ?_)
                cases hb26
                exact ⟨_, Frz.refl _, hx7.pick [0, 1] (by decide) rfl, ha.cut (l := [2, 5, 45, 57]) rfl⟩
      · clear hm
        rcases cond_some hb3 with ⟨hb30, hb3⟩ | ⟨hb30, hb3⟩
        · refine r_lit 34 rfl hb30 ?_
          refine r_loadBA (cs' := [.int .i64 v3.1.Sign, .slice as3 ns3 cs3]) ag24 sz24 rfl rfl hx6 rfl (i := 0) rfl rfl rfl ?_
          obtain ⟨v27, hv15, hb3⟩ := bind_some hb3
          refine r_callG0 ent11 rfl rfl rfl rfl hx6 (big_Right_ok _ _ _ hv15 hx6.sat hs3) ?_
          rintro _ Fx25 _ wx42 hF25 hx39 ⟨rfl, rfl⟩
          refine r_not rfl rfl rfl ?_
          refine r_move rfl rfl rfl ?_
          obtain ⟨v28, hb31, hb3⟩ := bind_some hb3
          refine r_mid 5 (fun a w' => ∃ (Fx26 : Frz), Frz.le Fx25 Fx26 ∧ HS F w [] Fx26 [.box b2 24 [.int .i64 v3.1.Sign, .slice as3 ns3 cs3], .box b1 24 [.int .i64 ax1.Sign, .slice as1 ns1 cs1]] w' ∧ Has 130 a [(2, .pointer (some ⟨b1, 0, none⟩)), (5, .bool v1), (6, .pointer (some ⟨b2, 0, none⟩)), (7, .int .i64 v3.2), (34, .bool true), (43, .bool v28)]) ?_ ?_
          · rintro a wx43 ⟨Fx26, hF26, hx40, hax15⟩
            refine rw_apply hax15 ?_
            refine r_pick_true rfl rfl rfl rfl ?_
            refine r_nil ?_
            refine q_next (fun a ha => ?_)
            cases hb3
            exact ⟨_, (hF25.trans hF26), hx40.pick [0, 1] (by decide) rfl, ha.cut (l := [2, 5, 6, 7, 44]) rfl⟩
          · clear hb3
            rcases cond_some hb31 with ⟨hb32, hb31⟩ | ⟨hb32, hb31⟩
            · refine r_lit 38 rfl hb32 ?_
              refine r_off rfl (by decide) rfl ?_
              refine r_off rfl (by decide) rfl ?_
              refine r_off rfl (by decide) rfl ?_
              refine r_off rfl (by decide) rfl ?_
              refine r_pick_true rfl rfl rfl rfl ?_
              refine r_nil ?_
              refine q_next (fun a ha => ?_)
              cases hb31
              exact ⟨_, Frz.refl _, hx39.pick [0, 1] (by decide) rfl, ha.cut (l := [2, 5, 6, 7, 34, 43]) rfl⟩
            · refine r_lit 38 rfl hb32 ?_
              refine r_loadBA (cs' := [.int .i64 v3.1.Sign, .slice as3 ns3 cs3]) ag24 sz24 rfl rfl hx39 rfl (i := 0) rfl rfl rfl ?_
              obtain ⟨v29, hv16, hb31⟩ := bind_some hb31
              refine r_callG0 ent18 rfl rfl rfl rfl hx39 (big_Text_ok _ _ _ hv16 hx39.sat (hs3.mono hF25) ((((hg2.mono hF1).mono hF2).mono hF3).mono hF25)) ?_
              rintro _ Fx27 _ wx44 hF27 hx41 ⟨rfl, rfl⟩
              refine r_move rfl rfl rfl ?_
              refine r_str rfl rfl rfl rfl rfl ?_
              refine r_pick_false rfl rfl rfl rfl ?_
              refine r_nil ?_
              refine q_next (fun a ha => ?_)
              cases hb31
              exact ⟨_, hF27, hx41.pick [0, 1] (by decide) rfl, ha.cut (l := [2, 5, 6, 7, 34, 43]) rfl⟩
        · refine r_lit 34 rfl hb30 ?_
          refine r_off rfl (by decide) rfl ?_
          refine r_off rfl (by decide) rfl ?_
          refine r_off rfl (by decide) rfl ?_
          refine r_off rfl (by decide) rfl ?_
          refine r_off rfl (by decide) rfl ?_
          refine r_off rfl (by decide) rfl ?_
          refine r_off rfl (by decide) rfl ?_
          refine r_off rfl (by decide) rfl ?_
          refine r_off rfl (by decide) rfl ?_
          refine r_pick_false rfl rfl rfl rfl ?_
          refine r_nil ?_
          refine q_next (fun a ha => ?_)
          cases hb3
          exact ⟨_, Frz.refl _, hx6.pick [0, 1] (by decide) rfl, ha.cut (l := [2, 5, 6, 7, 44]) rfl⟩
  · clear hm
    rcases cond_some hb1 with ⟨hb33, hb1⟩ | ⟨hb33, hb1⟩
    · refine r_lit 21 rfl hb33 ?_
      refine r_off rfl (by decide) rfl ?_
      refine r_off rfl (by decide) rfl ?_
      refine r_off rfl (by decide) rfl ?_
      refine r_pick_true rfl rfl rfl rfl ?_
      refine r_nil ?_
      refine q_next (fun a ha => ?_)
      cases hb1
      exact ⟨_, Frz.refl _, hx2.pick [0] (by decide) rfl, ha.cut (l := [1, 2, 5, 25]) rfl⟩
    · refine r_lit 21 rfl hb33 ?_
      refine r_loadBA (cs' := [.int .i64 ax1.Sign, .slice as1 ns1 cs1]) ag24 sz24 rfl rfl hx2 rfl (i := 0) rfl rfl rfl ?_
      obtain ⟨v30, hv17, hb1⟩ := bind_some hb1
      refine r_callG0 ent10 rfl rfl rfl rfl hx2 (law04_few_ok _ _ _ _ hv17 hx2.sat (hs1.mono hF1)) ?_
      rintro _ Fx28 _ wx45 hF28 hx42 ⟨rfl, rfl⟩
      refine r_not rfl rfl rfl ?_
      refine r_pick_false rfl rfl rfl rfl ?_
      refine r_nil ?_
      refine q_next (fun a ha => ?_)
      cases hb1
      exact ⟨_, hF28, hx42.pick [0] (by decide) rfl, ha.cut (l := [1, 2, 5, 25]) rfl⟩


end Go.Proofs.YtaiiclbemlmmaaaDoor.M
