/-
  THE MIRRORS of the tariff's and the lexer's functions, of the references and the laws, and that each call returns what its mirror says. Printed by gen.py.
-/
import Derived.Test.YtpihabofmnnbbaaDoorRows
import Derived.Test.YtpihabofmnnbbaaDoorRtZ
import Derived.Test.YtpihabofmnnbbaaDoorExpr
import Derived.Test.YtpihabofmnnbbaaDoorExtT
import Derived.Test.YtpihabofmnnbbaaDoorMirS
namespace Go.Proofs.YtpihabofmnnbbaaDoor.M
open Go Go.RowKit Rt

theorem ent7 : Ent Tryd.prog 7 := fun _ _ => by kernel_rfl

theorem ent8 : Ent Tryd.prog 8 := fun _ _ => by kernel_rfl

def law35_TariffBack (n : Nat) (t1 : Tariff) (s2 : Bs) : Option Bool :=
 (law35_small n).bind fun v1 =>
 (law35_limited n t1).bind fun v2 =>
 (bif !v2 then
  some true
 else
  some (decide (1000 < (s2.length : Int)))).bind fun v3 =>
 bif v3 then
  some v1
 else
  (tariff_Print n t1).bind fun v4 =>
  bif v4.2 then
   (tariff_Parse n v4.1).bind fun v5 =>
   (bif v5.2.2 != 0 then
    some true
   else
    some (v5.2.1 != 0)).bind fun v6 =>
   (bif v6 then
    some true
   else
    (ref35_SameTariff n v5.1 t1).bind fun v26 =>
    some (!v26)).bind fun v7 =>
   (bif v7 then
    some true
   else
    some (decide (4000 < (v4.1.length : Int)))).bind fun v8 =>
   bif v8 then
    some false
   else
    (tariff_Parse n s2).bind fun v9 =>
    bif v9.2.2 != 0 then
     (bif v1 then
      (bif v4.2 then
       some true
      else
       some (v4.1 == [])).bind fun v15 =>
      some v15
     else
      some false).bind fun v10 =>
     (bif v10 then
      some (decide (0 ≤ v9.2.1))
     else
      some false).bind fun v11 =>
     (bif v11 then
      some (decide (v9.2.1 ≤ (s2.length : Int)))
     else
      some false).bind fun v12 =>
     (bif v12 then
      (ref35_SameTariff n v9.1 (⟨[], (⟨0, 0, [], []⟩ : Expr), 0⟩ : Tariff)).bind fun v14 =>
      some v14
     else
      some false).bind fun v13 =>
     some v13
    else
     (tariff_Print n v9.1).bind fun v16 =>
     (tariff_Parse n v16.1).bind fun v17 =>
     (bif v1 then
      (bif v4.2 then
       some true
      else
       some (v4.1 == [])).bind fun v25 =>
      some v25
     else
      some false).bind fun v18 =>
     (bif v18 then
      some (v9.2.1 == 0)
     else
      some false).bind fun v19 =>
     (bif v19 then
      some v16.2
     else
      some false).bind fun v20 =>
     (bif v20 then
      some (v17.2.2 == 0)
     else
      some false).bind fun v21 =>
     (bif v21 then
      some (v17.2.1 == 0)
     else
      some false).bind fun v22 =>
     (bif v22 then
      (ref35_SameTariff n v9.1 v17.1).bind fun v24 =>
      some v24
     else
      some false).bind fun v23 =>
     some v23
  else
   (tariff_Parse n s2).bind fun v27 =>
   bif v27.2.2 != 0 then
    (bif v1 then
     (bif v4.2 then
      some true
     else
      some (v4.1 == [])).bind fun v33 =>
     some v33
    else
     some false).bind fun v28 =>
    (bif v28 then
     some (decide (0 ≤ v27.2.1))
    else
     some false).bind fun v29 =>
    (bif v29 then
     some (decide (v27.2.1 ≤ (s2.length : Int)))
    else
     some false).bind fun v30 =>
    (bif v30 then
     (ref35_SameTariff n v27.1 (⟨[], (⟨0, 0, [], []⟩ : Expr), 0⟩ : Tariff)).bind fun v32 =>
     some v32
    else
     some false).bind fun v31 =>
    some v31
   else
    (tariff_Print n v27.1).bind fun v34 =>
    (tariff_Parse n v34.1).bind fun v35 =>
    (bif v1 then
     (bif v4.2 then
      some true
     else
      some (v4.1 == [])).bind fun v43 =>
     some v43
    else
     some false).bind fun v36 =>
    (bif v36 then
     some (v27.2.1 == 0)
    else
     some false).bind fun v37 =>
    (bif v37 then
     some v34.2
    else
     some false).bind fun v38 =>
    (bif v38 then
     some (v35.2.2 == 0)
    else
     some false).bind fun v39 =>
    (bif v39 then
     some (v35.2.1 == 0)
    else
     some false).bind fun v40 =>
    (bif v40 then
     (ref35_SameTariff n v27.1 v35.1).bind fun v42 =>
     some v42
    else
     some false).bind fun v41 =>
    some v41

set_option maxHeartbeats 1000000 in
set_option maxRecDepth 1000000 in
theorem law35_TariffBack_ok (n : Nat) (t1 : Tariff) (s2 : Bs) (r : Bool) (hm : law35_TariffBack n t1 s2 = some r) {w : World} {F : Frz} (hs : Sat F w) {as1 : Option Addr} {ns1 : Nat} {cs1 : Nat} (hs1 : SlR rp_Expr F as1 ns1 cs1 t1.Fee.Args) (hg0 : FX F 0 [.int .u8 40, .int .u8 41, .int .u8 44, .int .u8 59, .int .u8 58, .int .u8 61, .int .u8 60, .int .u8 43, .int .u8 45, .int .u8 42, .int .u8 47, .int .u8 123, .int .u8 125]) (hg1 : FX F 1 (Lib.pow10Tab.map (Value.int .u64))) :
  Calls Tryd.prog 3 #[.agg #[vs t1.Name, .int .i64 t1.Fee.Op, .int .i64 t1.Fee.N, vs t1.Fee.Name, .slice as1 ns1 cs1, .int .i64 t1.Cap], vs s2] w fun e w' => ∃ v F' O', e = .returned v ∧ HS F w [] F' O' w' ∧ (v = .bool r ∧ O' = []) := by
 unfold law35_TariffBack at hm
 have h := HS.init hs
 refine calls_of 128 Tryd.func3 rfl rfl rfl ?_
 refine c_seq (c_region ?_)
 refine r_box rfl rfl rfl rfl h ?_
 intro b1 wx1 hx1
 refine r_assign rfl rfl rfl (r_nil (q_then (c_seq (c_region ?_))))
 obtain ⟨v1, hv1, hm⟩ := bind_some hm
 refine r_callG0 ent7 rfl rfl rfl rfl hx1 (law35_small_ok _ _ hv1 hx1.sat hg0 hg1) ?_
 rintro _ Fx1 _ wx2 hF1 hx2 ⟨rfl, rfl⟩
 refine r_assign rfl rfl rfl (r_nil (q_then (c_seq (c_seq (c_region ?_)))))
 refine r_loadBW ag26 sz26 rfl rfl hx2 rfl (i := 0) rfl rfl ?_
 obtain ⟨v2, hv2, hm⟩ := bind_some hm
 refine r_callG0 ent8 rfl rfl rfl rfl hx2 (law35_limited_ok _ _ _ hv2 hx2.sat (hs1.mono hF1)) ?_
 rintro _ Fx2 _ wx3 hF2 hx3 ⟨rfl, rfl⟩
 refine r_not rfl rfl rfl (r_move rfl rfl rfl ?_)
 obtain ⟨v3, hb1, hm⟩ := bind_some hm
 refine r_mid 4 (fun a w' => wx3 = w' ∧ Has 128 a [(1, vs s2), (2, .pointer (some ⟨b1, 0, none⟩)), (5, .bool v1), (27, .bool v3)]) ?_ ?_
 ·rintro a wx4 ⟨rfl, hax1⟩
  refine rw_apply hax1 ?_
  refine r_nil (q_then ?_)
  rcases cond_some hm with ⟨hb2, hm⟩ | ⟨hb2, hm⟩
  ·refine c_lit 27 rfl hb2 ?_
   refine c_true rfl (c_seq (c_region (r_move rfl rfl rfl (r_assign rfl rfl rfl (r_nil (q_then (c_ret (q_then_ret ?_))))))))
   refine b_ret1 rfl rfl ?_
   obtain rfl := Option.some.inj hm
   exact ⟨_, _, _, rfl, hx3.pick [] (by decide) rfl, rfl, rfl⟩
  ·refine c_lit 27 rfl hb2 ?_
   refine c_false rfl (c_skip (q_then (c_seq (c_region ?_))))
   refine r_loadBW ag26 sz26 rfl rfl hx3 rfl (i := 0) rfl rfl ?_
   obtain ⟨v4, hv3, hm⟩ := bind_some hm
   refine r_callG0 ent9 rfl rfl rfl rfl hx3 (tariff_Print_ok _ _ _ hv3 hx3.sat ((hs1.mono hF1).mono hF2) ((hg1.mono hF1).mono hF2)) ?_
   rintro _ Fx3 _ wx5 hF3 hx4 ⟨rfl, rfl⟩
   refine r_move rfl rfl rfl (r_extract rfl rfl rfl rfl (r_extract rfl rfl rfl rfl (r_assign rfl rfl rfl (r_assign rfl rfl rfl (r_nil (q_then (c_seq (c_seq (c_region (r_move rfl rfl rfl (r_nil (q_then ?_))))))))))))
   rcases cond_some hm with ⟨hb3, hm⟩ | ⟨hb3, hm⟩
   ·refine c_lit 34 rfl hb3 ?_
    refine c_true rfl (c_seq (c_region (r_move rfl rfl rfl ?_)))
    obtain ⟨v5, hv4, hm⟩ := bind_some hm
    refine r_callG0 ent10 rfl rfl rfl rfl hx4 (tariff_Parse_ok _ _ _ hv4 hx4.sat (((hg0.mono hF1).mono hF2).mono hF3)) ?_
    rintro _ Fx4 _ wx6 hF4 hx5 ⟨as3, ns3, cs3, rfl, rfl, hs3⟩
    refine r_move rfl rfl rfl (r_extract rfl rfl rfl rfl (r_extract rfl rfl rfl rfl (r_extract rfl rfl rfl rfl ?_)))
    refine r_alloc ze26 rfl rfl rfl hx5 ?_
    intro b2 wx7 hx6
    refine r_store sz26 rfl hx6 rfl rfl rfl rfl (i := 0) rfl rfl rfl rfl ?_
    intro wx8 hx7
    refine r_assign rfl rfl rfl (r_assign rfl rfl rfl (r_nil (q_then (c_seq (c_region (r_move rfl rfl rfl ?_))))))
    refine r_bin rfl rfl rfl rfl rfl ?_
    refine r_move rfl rfl rfl ?_
    obtain ⟨v6, hb4, hm⟩ := bind_some hm
    refine r_mid 3 (fun a w' => wx8 = w' ∧ Has 128 a [(1, vs s2), (2, .pointer (some ⟨b1, 0, none⟩)), (5, .bool v1), (6, vs v4.1), (7, .bool v4.2), (8, .pointer (some ⟨b2, 0, none⟩)), (46, .bool v6)]) ?_ ?_
    ·rintro a wx9 ⟨rfl, hax2⟩
     refine rw_apply hax2 ?_
     refine r_move rfl rfl rfl ?_
     obtain ⟨v7, hb5, hm⟩ := bind_some hm
     refine r_mid 5 (fun a w' => ∃ (Fx5 : Frz), Frz.le Fx4 Fx5 ∧ HS F w [] Fx5 [.box b2 26 [vs v5.1.Name, .int .i64 v5.1.Fee.Op, .int .i64 v5.1.Fee.N, vs v5.1.Fee.Name, .slice as3 ns3 cs3, .int .i64 v5.1.Cap], .box b1 26 [vs t1.Name, .int .i64 t1.Fee.Op, .int .i64 t1.Fee.N, vs t1.Fee.Name, .slice as1 ns1 cs1, .int .i64 t1.Cap]] w' ∧ Has 128 a [(1, vs s2), (5, .bool v1), (6, vs v4.1), (7, .bool v4.2), (52, .bool v7)]) ?_ ?_
     ·rintro a wx10 ⟨Fx5, hF5, hx8, hax3⟩
      refine rw_apply hax3 ?_
      refine r_move rfl rfl rfl ?_
      obtain ⟨v8, hb6, hm⟩ := bind_some hm
      refine r_mid 4 (fun a w' => wx10 = w' ∧ Has 128 a [(1, vs s2), (5, .bool v1), (6, vs v4.1), (7, .bool v4.2), (57, .bool v8)]) ?_ ?_
      ·rintro a wx11 ⟨rfl, hax4⟩
       refine rw_apply hax4 ?_
       refine r_nil (q_then ?_)
       rcases cond_some hm with ⟨hb7, hm⟩ | ⟨hb7, hm⟩
       ·refine c_lit 57 rfl hb7 ?_
        refine c_true rfl (c_seq (c_region (r_assign rfl rfl rfl (r_nil (q_then (c_ret (q_then_ret ?_)))))))
        refine b_ret1 rfl rfl ?_
        obtain rfl := Option.some.inj hm
        exact ⟨_, _, _, rfl, hx8.pick [] (by decide) rfl, rfl, rfl⟩
       ·refine c_lit 57 rfl hb7 ?_
        refine c_false rfl (c_skip (q_then (c_seq (c_region (r_move rfl rfl rfl ?_)))))
        have hG1 := (((hF1.trans hF2).trans hF3).trans hF4).trans hF5
        obtain ⟨v9, hv5, hm⟩ := bind_some hm
        refine r_callG0 ent10 rfl rfl rfl rfl hx8 (tariff_Parse_ok _ _ _ hv5 hx8.sat (hg0.mono hG1)) ?_
        rintro _ Fx6 _ wx12 hF6 hx9 ⟨as4, ns4, cs4, rfl, rfl, hs4⟩
        refine r_move rfl rfl rfl (r_extract rfl rfl rfl rfl (r_extract rfl rfl rfl rfl (r_extract rfl rfl rfl rfl ?_)))
        refine r_alloc ze26 rfl rfl rfl hx9 ?_
        intro b3 wx13 hx10
        refine r_store sz26 rfl hx10 rfl rfl rfl rfl (i := 0) rfl rfl rfl rfl ?_
        intro wx14 hx11
        refine r_assign rfl rfl rfl (r_assign rfl rfl rfl (r_nil (q_then (c_seq (c_seq (c_region (r_move rfl rfl rfl ?_)))))))
        refine r_bin rfl rfl rfl rfl rfl ?_
        refine r_nil (q_then ?_)
        rcases cond_some hm with ⟨hb8, hm⟩ | ⟨hb8, hm⟩
        ·refine c_lit 65 rfl hb8 ?_
         refine c_true rfl (c_seq (c_region (r_move rfl rfl rfl (r_move rfl rfl rfl ?_))))
         obtain ⟨v10, hb9, hm⟩ := bind_some hm
         refine r_mid 6 (fun a w' => wx14 = w' ∧ Has 128 a [(1, vs s2), (11, .pointer (some ⟨b3, 0, none⟩)), (12, .int .i64 v9.2.1), (73, .bool v10)]) ?_ ?_
         ·rintro a wx15 ⟨rfl, hax5⟩
          refine rw_apply hax5 ?_
          refine r_move rfl rfl rfl ?_
          obtain ⟨v11, hb10, hm⟩ := bind_some hm
          refine r_mid 3 (fun a w' => wx14 = w' ∧ Has 128 a [(1, vs s2), (11, .pointer (some ⟨b3, 0, none⟩)), (12, .int .i64 v9.2.1), (77, .bool v11)]) ?_ ?_
          ·rintro a wx16 ⟨rfl, hax6⟩
           refine rw_apply hax6 ?_
           refine r_move rfl rfl rfl ?_
           obtain ⟨v12, hb11, hm⟩ := bind_some hm
           refine r_mid 5 (fun a w' => wx14 = w' ∧ Has 128 a [(11, .pointer (some ⟨b3, 0, none⟩)), (83, .bool v12)]) ?_ ?_
           ·rintro a wx17 ⟨rfl, hax7⟩
            refine rw_apply hax7 ?_
            refine r_move rfl rfl rfl ?_
            obtain ⟨v13, hb12, hm⟩ := bind_some hm
            refine r_mid 4 (fun a w' => ∃ (Fx7 : Frz), Frz.le Fx6 Fx7 ∧ HS F w [] Fx7 [.box b3 26 [vs v9.1.Name, .int .i64 v9.1.Fee.Op, .int .i64 v9.1.Fee.N, vs v9.1.Fee.Name, .slice as4 ns4 cs4, .int .i64 v9.1.Cap], .box b2 26 [vs v5.1.Name, .int .i64 v5.1.Fee.Op, .int .i64 v5.1.Fee.N, vs v5.1.Fee.Name, .slice as3 ns3 cs3, .int .i64 v5.1.Cap], .box b1 26 [vs t1.Name, .int .i64 t1.Fee.Op, .int .i64 t1.Fee.N, vs t1.Fee.Name, .slice as1 ns1 cs1, .int .i64 t1.Cap]] w' ∧ Has 128 a [(88, .bool v13)]) ?_ ?_
            ·rintro a wx18 ⟨Fx7, hF7, hx12, hax8⟩
             refine rw_apply hax8 ?_
             refine r_assign rfl rfl rfl (r_nil (q_then (c_ret (q_then_ret ?_))))
             refine b_ret1 rfl rfl ?_
             obtain rfl := Option.some.inj hm
             exact ⟨_, _, _, rfl, hx12.pick [] (by decide) rfl, rfl, rfl⟩
            ·clear hm
             rcases cond_some hb12 with ⟨hb13, hb12⟩ | ⟨hb13, hb12⟩
             ·refine r_lit 84 rfl hb13 ?_
              refine r_loadBW ag26 sz26 rfl rfl hx11 rfl (i := 0) rfl rfl ?_
              refine r_build (v := .agg #[vs [], .int .i64 0, .int .i64 0, vs [], .slice none 0 0, .int .i64 0]) rfl rfl rfl (fun _ => by kernel_rfl) ?_
              obtain ⟨v14, hv6, hb12⟩ := bind_some hb12
              refine r_callG0 ent11 rfl rfl rfl rfl hx11 (ref35_SameTariff_ok _ _ _ _ hv6 hx11.sat hs4 (SlR.nil _ _)) ?_
              rintro _ Fx8 _ wx19 hF8 hx13 ⟨rfl, rfl⟩
              refine r_pick_true rfl rfl rfl rfl (r_nil ?_)
              refine q_next (fun a ha => ?_)
              cases hb12
              exact ⟨_, hF8, hx13.pick [0, 1, 2] (by decide) rfl, ha.cut (l := [88]) rfl⟩
             ·refine r_lit 84 rfl hb13 ?_
              refine r_off rfl (by decide) rfl (r_off rfl (by decide) rfl (r_off rfl (by decide) rfl (r_pick_false rfl rfl rfl rfl (r_nil ?_))))
              refine q_next (fun a ha => ?_)
              cases hb12
              exact ⟨_, Frz.refl _, hx11.pick [0, 1, 2] (by decide) rfl, ha.cut (l := [88]) rfl⟩
           ·clear hm
            rcases cond_some hb11 with ⟨hb14, hb11⟩ | ⟨hb14, hb11⟩
            ·refine r_lit 78 rfl hb14 ?_
             refine r_move rfl rfl rfl (r_move rfl rfl rfl ?_)
             refine r_slen u9 rfl rfl rfl ?_
             refine r_bin rfl rfl rfl rfl rfl ?_
             refine r_pick_true rfl rfl rfl rfl (r_nil ?_)
             refine q_next (fun a ha => ?_)
             cases hb11
             exact ⟨rfl, ha.cut (l := [11, 83]) rfl⟩
            ·refine r_lit 78 rfl hb14 ?_
             refine r_off rfl (by decide) rfl (r_off rfl (by decide) rfl (r_off rfl (by decide) rfl (r_off rfl (by decide) rfl (r_pick_false rfl rfl rfl rfl (r_nil ?_)))))
             refine q_next (fun a ha => ?_)
             cases hb11
             exact ⟨rfl, ha.cut (l := [11, 83]) rfl⟩
          ·clear hm
           rcases cond_some hb10 with ⟨hb15, hb10⟩ | ⟨hb15, hb10⟩
           ·refine r_lit 74 rfl hb15 ?_
            refine r_move rfl rfl rfl ?_
            refine r_bin rfl rfl rfl rfl rfl ?_
            refine r_pick_true rfl rfl rfl rfl (r_nil ?_)
            refine q_next (fun a ha => ?_)
            cases hb10
            exact ⟨rfl, ha.cut (l := [1, 11, 12, 77]) rfl⟩
           ·refine r_lit 74 rfl hb15 ?_
            refine r_off rfl (by decide) rfl (r_off rfl (by decide) rfl (r_pick_false rfl rfl rfl rfl (r_nil ?_)))
            refine q_next (fun a ha => ?_)
            cases hb10
            exact ⟨rfl, ha.cut (l := [1, 11, 12, 77]) rfl⟩
         ·clear hm
          rcases cond_some hb9 with ⟨hb16, hb9⟩ | ⟨hb16, hb9⟩
          ·refine r_lit 67 rfl hb16 ?_
           refine r_move rfl rfl rfl (r_move rfl rfl rfl ?_)
           obtain ⟨v15, hb17, hb9⟩ := bind_some hb9
           refine r_mid 3 (fun a w' => wx14 = w' ∧ Has 128 a [(1, vs s2), (11, .pointer (some ⟨b3, 0, none⟩)), (12, .int .i64 v9.2.1), (67, .bool true), (72, .bool v15)]) ?_ ?_
           ·rintro a wx20 ⟨rfl, hax9⟩
            refine rw_apply hax9 ?_
            refine r_pick_true rfl rfl rfl rfl (r_nil ?_)
            refine q_next (fun a ha => ?_)
            cases hb9
            exact ⟨rfl, ha.cut (l := [1, 11, 12, 73]) rfl⟩
           ·clear hb9
            rcases cond_some hb17 with ⟨hb18, hb17⟩ | ⟨hb18, hb17⟩
            ·refine r_lit 69 rfl hb18 ?_
             refine r_off rfl (by decide) rfl (r_off rfl (by decide) rfl (r_pick_true rfl rfl rfl rfl (r_nil ?_)))
             refine q_next (fun a ha => ?_)
             cases hb17
             exact ⟨rfl, ha.cut (l := [1, 11, 12, 67, 72]) rfl⟩
            ·refine r_lit 69 rfl hb18 ?_
             refine r_move rfl rfl rfl ?_
             refine r_str rfl rfl rfl rfl rfl ?_
             refine r_pick_false rfl rfl rfl rfl (r_nil ?_)
             refine q_next (fun a ha => ?_)
             cases hb17
             exact ⟨rfl, ha.cut (l := [1, 11, 12, 67, 72]) rfl⟩
          ·refine r_lit 67 rfl hb16 ?_
           refine r_off rfl (by decide) rfl (r_off rfl (by decide) rfl (r_off rfl (by decide) rfl (r_off rfl (by decide) rfl (r_off rfl (by decide) rfl (r_pick_false rfl rfl rfl rfl (r_nil ?_))))))
           refine q_next (fun a ha => ?_)
           cases hb9
           exact ⟨rfl, ha.cut (l := [1, 11, 12, 73]) rfl⟩
        ·refine c_lit 65 rfl hb8 ?_
         refine c_false rfl (c_skip (q_then (c_seq (c_region ?_))))
         refine r_loadBW ag26 sz26 rfl rfl hx11 rfl (i := 0) rfl rfl ?_
         obtain ⟨v16, hv7, hm⟩ := bind_some hm
         refine r_callG0 ent9 rfl rfl rfl rfl hx11 (tariff_Print_ok _ _ _ hv7 hx11.sat hs4 ((hg1.mono hG1).mono hF6)) ?_
         rintro _ Fx9 _ wx21 hF9 hx14 ⟨rfl, rfl⟩
         refine r_move rfl rfl rfl (r_extract rfl rfl rfl rfl (r_extract rfl rfl rfl rfl (r_assign rfl rfl rfl (r_assign rfl rfl rfl (r_nil (q_then (c_seq (c_region (r_move rfl rfl rfl ?_)))))))))
         obtain ⟨v17, hv8, hm⟩ := bind_some hm
         refine r_callG0 ent10 rfl rfl rfl rfl hx14 (tariff_Parse_ok _ _ _ hv8 hx14.sat (((hg0.mono hG1).mono hF6).mono hF9)) ?_
         rintro _ Fx10 _ wx22 hF10 hx15 ⟨as5, ns5, cs5, rfl, rfl, hs5⟩
         refine r_move rfl rfl rfl (r_extract rfl rfl rfl rfl (r_extract rfl rfl rfl rfl (r_extract rfl rfl rfl rfl ?_)))
         refine r_alloc ze26 rfl rfl rfl hx15 ?_
         intro b4 wx23 hx16
         refine r_store sz26 rfl hx16 rfl rfl rfl rfl (i := 0) rfl rfl rfl rfl ?_
         intro wx24 hx17
         refine r_assign rfl rfl rfl (r_assign rfl rfl rfl (r_nil (q_then (c_seq (c_region (r_move rfl rfl rfl (r_move rfl rfl rfl ?_)))))))
         obtain ⟨v18, hb19, hm⟩ := bind_some hm
         refine r_mid 6 (fun a w' => wx24 = w' ∧ Has 128 a [(11, .pointer (some ⟨b3, 0, none⟩)), (12, .int .i64 v9.2.1), (15, .bool v16.2), (16, .pointer (some ⟨b4, 0, none⟩)), (17, .int .i64 v17.2.1), (18, .int .i64 v17.2.2), (107, .bool v18)]) ?_ ?_
         ·rintro a wx25 ⟨rfl, hax10⟩
          refine rw_apply hax10 ?_
          refine r_move rfl rfl rfl ?_
          obtain ⟨v19, hb20, hm⟩ := bind_some hm
          refine r_mid 3 (fun a w' => wx24 = w' ∧ Has 128 a [(11, .pointer (some ⟨b3, 0, none⟩)), (15, .bool v16.2), (16, .pointer (some ⟨b4, 0, none⟩)), (17, .int .i64 v17.2.1), (18, .int .i64 v17.2.2), (111, .bool v19)]) ?_ ?_
          ·rintro a wx26 ⟨rfl, hax11⟩
           refine rw_apply hax11 ?_
           refine r_move rfl rfl rfl ?_
           obtain ⟨v20, hb21, hm⟩ := bind_some hm
           refine r_mid 2 (fun a w' => wx24 = w' ∧ Has 128 a [(11, .pointer (some ⟨b3, 0, none⟩)), (16, .pointer (some ⟨b4, 0, none⟩)), (17, .int .i64 v17.2.1), (18, .int .i64 v17.2.2), (114, .bool v20)]) ?_ ?_
           ·rintro a wx27 ⟨rfl, hax12⟩
            refine rw_apply hax12 ?_
            refine r_move rfl rfl rfl ?_
            obtain ⟨v21, hb22, hm⟩ := bind_some hm
            refine r_mid 3 (fun a w' => wx24 = w' ∧ Has 128 a [(11, .pointer (some ⟨b3, 0, none⟩)), (16, .pointer (some ⟨b4, 0, none⟩)), (17, .int .i64 v17.2.1), (118, .bool v21)]) ?_ ?_
            ·rintro a wx28 ⟨rfl, hax13⟩
             refine rw_apply hax13 ?_
             refine r_move rfl rfl rfl ?_
             obtain ⟨v22, hb23, hm⟩ := bind_some hm
             refine r_mid 3 (fun a w' => wx24 = w' ∧ Has 128 a [(11, .pointer (some ⟨b3, 0, none⟩)), (16, .pointer (some ⟨b4, 0, none⟩)), (122, .bool v22)]) ?_ ?_
             ·rintro a wx29 ⟨rfl, hax14⟩
              refine rw_apply hax14 ?_
              refine r_move rfl rfl rfl ?_
              obtain ⟨v23, hb24, hm⟩ := bind_some hm
              refine r_mid 4 (fun a w' => ∃ (Fx11 : Frz), Frz.le Fx10 Fx11 ∧ HS F w [] Fx11 [.box b4 26 [vs v17.1.Name, .int .i64 v17.1.Fee.Op, .int .i64 v17.1.Fee.N, vs v17.1.Fee.Name, .slice as5 ns5 cs5, .int .i64 v17.1.Cap], .box b3 26 [vs v9.1.Name, .int .i64 v9.1.Fee.Op, .int .i64 v9.1.Fee.N, vs v9.1.Fee.Name, .slice as4 ns4 cs4, .int .i64 v9.1.Cap], .box b2 26 [vs v5.1.Name, .int .i64 v5.1.Fee.Op, .int .i64 v5.1.Fee.N, vs v5.1.Fee.Name, .slice as3 ns3 cs3, .int .i64 v5.1.Cap], .box b1 26 [vs t1.Name, .int .i64 t1.Fee.Op, .int .i64 t1.Fee.N, vs t1.Fee.Name, .slice as1 ns1 cs1, .int .i64 t1.Cap]] w' ∧ Has 128 a [(127, .bool v23)]) ?_ ?_
              ·rintro a wx30 ⟨Fx11, hF11, hx18, hax15⟩
               refine rw_apply hax15 ?_
               refine r_assign rfl rfl rfl (r_nil (q_then (c_ret ?_)))
               refine b_ret1 rfl rfl ?_
               obtain rfl := Option.some.inj hm
               exact ⟨_, _, _, rfl, hx18.pick [] (by decide) rfl, rfl, rfl⟩
              ·clear hm
               rcases cond_some hb24 with ⟨hb25, hb24⟩ | ⟨hb25, hb24⟩
               ·refine r_lit 123 rfl hb25 ?_
                refine r_loadBW ag26 sz26 rfl rfl hx17 rfl (i := 1) rfl rfl ?_
                refine r_loadBW ag26 sz26 rfl rfl hx17 rfl (i := 0) rfl rfl ?_
                obtain ⟨v24, hv9, hb24⟩ := bind_some hb24
                refine r_callG0 ent11 rfl rfl rfl rfl hx17 (ref35_SameTariff_ok _ _ _ _ hv9 hx17.sat ((hs4.mono hF9).mono hF10) hs5) ?_
                rintro _ Fx12 _ wx31 hF12 hx19 ⟨rfl, rfl⟩
                refine r_pick_true rfl rfl rfl rfl (r_nil ?_)
                refine q_next (fun a ha => ?_)
                cases hb24
                exact ⟨_, hF12, hx19.pick [0, 1, 2, 3] (by decide) rfl, ha.cut (l := [127]) rfl⟩
               ·refine r_lit 123 rfl hb25 ?_
                refine r_off rfl (by decide) rfl (r_off rfl (by decide) rfl (r_off rfl (by decide) rfl (r_pick_false rfl rfl rfl rfl (r_nil ?_))))
                refine q_next (fun a ha => ?_)
                cases hb24
                exact ⟨_, Frz.refl _, hx17.pick [0, 1, 2, 3] (by decide) rfl, ha.cut (l := [127]) rfl⟩
             ·clear hm
              rcases cond_some hb23 with ⟨hb26, hb23⟩ | ⟨hb26, hb23⟩
              ·refine r_lit 119 rfl hb26 ?_
               refine r_move rfl rfl rfl ?_
               refine r_bin rfl rfl rfl rfl rfl ?_
               refine r_pick_true rfl rfl rfl rfl (r_nil ?_)
               refine q_next (fun a ha => ?_)
               cases hb23
               exact ⟨rfl, ha.cut (l := [11, 16, 122]) rfl⟩
              ·refine r_lit 119 rfl hb26 ?_
               refine r_off rfl (by decide) rfl (r_off rfl (by decide) rfl (r_pick_false rfl rfl rfl rfl (r_nil ?_)))
               refine q_next (fun a ha => ?_)
               cases hb23
               exact ⟨rfl, ha.cut (l := [11, 16, 122]) rfl⟩
            ·clear hm
             rcases cond_some hb22 with ⟨hb27, hb22⟩ | ⟨hb27, hb22⟩
             ·refine r_lit 115 rfl hb27 ?_
              refine r_move rfl rfl rfl ?_
              refine r_bin rfl rfl rfl rfl rfl ?_
              refine r_pick_true rfl rfl rfl rfl (r_nil ?_)
              refine q_next (fun a ha => ?_)
              cases hb22
              exact ⟨rfl, ha.cut (l := [11, 16, 17, 118]) rfl⟩
             ·refine r_lit 115 rfl hb27 ?_
              refine r_off rfl (by decide) rfl (r_off rfl (by decide) rfl (r_pick_false rfl rfl rfl rfl (r_nil ?_)))
              refine q_next (fun a ha => ?_)
              cases hb22
              exact ⟨rfl, ha.cut (l := [11, 16, 17, 118]) rfl⟩
           ·clear hm
            rcases cond_some hb21 with ⟨hb28, hb21⟩ | ⟨hb28, hb21⟩
            ·refine r_lit 112 rfl hb28 ?_
             refine r_move rfl rfl rfl (r_pick_true rfl rfl rfl rfl (r_nil ?_))
             refine q_next (fun a ha => ?_)
             cases hb21
             exact ⟨rfl, ha.cut (l := [11, 16, 17, 18, 114]) rfl⟩
            ·refine r_lit 112 rfl hb28 ?_
             refine r_off rfl (by decide) rfl (r_pick_false rfl rfl rfl rfl (r_nil ?_))
             refine q_next (fun a ha => ?_)
             cases hb21
             exact ⟨rfl, ha.cut (l := [11, 16, 17, 18, 114]) rfl⟩
          ·clear hm
           rcases cond_some hb20 with ⟨hb29, hb20⟩ | ⟨hb29, hb20⟩
           ·refine r_lit 108 rfl hb29 ?_
            refine r_move rfl rfl rfl ?_
            refine r_bin rfl rfl rfl rfl rfl ?_
            refine r_pick_true rfl rfl rfl rfl (r_nil ?_)
            refine q_next (fun a ha => ?_)
            cases hb20
            exact ⟨rfl, ha.cut (l := [11, 15, 16, 17, 18, 111]) rfl⟩
           ·refine r_lit 108 rfl hb29 ?_
            refine r_off rfl (by decide) rfl (r_off rfl (by decide) rfl (r_pick_false rfl rfl rfl rfl (r_nil ?_)))
            refine q_next (fun a ha => ?_)
            cases hb20
            exact ⟨rfl, ha.cut (l := [11, 15, 16, 17, 18, 111]) rfl⟩
         ·clear hm
          rcases cond_some hb19 with ⟨hb30, hb19⟩ | ⟨hb30, hb19⟩
          ·refine r_lit 101 rfl hb30 ?_
           refine r_move rfl rfl rfl (r_move rfl rfl rfl ?_)
           obtain ⟨v25, hb31, hb19⟩ := bind_some hb19
           refine r_mid 3 (fun a w' => wx24 = w' ∧ Has 128 a [(11, .pointer (some ⟨b3, 0, none⟩)), (12, .int .i64 v9.2.1), (15, .bool v16.2), (16, .pointer (some ⟨b4, 0, none⟩)), (17, .int .i64 v17.2.1), (18, .int .i64 v17.2.2), (101, .bool true), (106, .bool v25)]) ?_ ?_
           ·rintro a wx32 ⟨rfl, hax16⟩
            refine rw_apply hax16 ?_
            refine r_pick_true rfl rfl rfl rfl (r_nil ?_)
            refine q_next (fun a ha => ?_)
            cases hb19
            exact ⟨rfl, ha.cut (l := [11, 12, 15, 16, 17, 18, 107]) rfl⟩
           ·clear hb19
            rcases cond_some hb31 with ⟨hb32, hb31⟩ | ⟨hb32, hb31⟩
            ·refine r_lit 103 rfl hb32 ?_
             refine r_off rfl (by decide) rfl (r_off rfl (by decide) rfl (r_pick_true rfl rfl rfl rfl (r_nil ?_)))
             refine q_next (fun a ha => ?_)
             cases hb31
             exact ⟨rfl, ha.cut (l := [11, 12, 15, 16, 17, 18, 101, 106]) rfl⟩
            ·refine r_lit 103 rfl hb32 ?_
             refine r_move rfl rfl rfl ?_
             refine r_str rfl rfl rfl rfl rfl ?_
             refine r_pick_false rfl rfl rfl rfl (r_nil ?_)
             refine q_next (fun a ha => ?_)
             cases hb31
             exact ⟨rfl, ha.cut (l := [11, 12, 15, 16, 17, 18, 101, 106]) rfl⟩
          ·refine r_lit 101 rfl hb30 ?_
           refine r_off rfl (by decide) rfl (r_off rfl (by decide) rfl (r_off rfl (by decide) rfl (r_off rfl (by decide) rfl (r_off rfl (by decide) rfl (r_pick_false rfl rfl rfl rfl (r_nil ?_))))))
           refine q_next (fun a ha => ?_)
           cases hb19
           exact ⟨rfl, ha.cut (l := [11, 12, 15, 16, 17, 18, 107]) rfl⟩
      ·clear hm
       rcases cond_some hb6 with ⟨hb33, hb6⟩ | ⟨hb33, hb6⟩
       ·refine r_lit 53 rfl hb33 ?_
        refine r_off rfl (by decide) rfl (r_off rfl (by decide) rfl (r_off rfl (by decide) rfl (r_pick_true rfl rfl rfl rfl (r_nil ?_))))
        refine q_next (fun a ha => ?_)
        cases hb6
        exact ⟨rfl, ha.cut (l := [1, 5, 6, 7, 57]) rfl⟩
       ·refine r_lit 53 rfl hb33 ?_
        refine r_move rfl rfl rfl ?_
        refine r_slen u9 rfl rfl rfl ?_
        refine r_bin rfl rfl rfl rfl rfl ?_
        refine r_pick_false rfl rfl rfl rfl (r_nil ?_)
        refine q_next (fun a ha => ?_)
        cases hb6
        exact ⟨rfl, ha.cut (l := [1, 5, 6, 7, 57]) rfl⟩
     ·clear hm
      rcases cond_some hb5 with ⟨hb34, hb5⟩ | ⟨hb34, hb5⟩
      ·refine r_lit 47 rfl hb34 ?_
       refine r_off rfl (by decide) rfl (r_off rfl (by decide) rfl (r_off rfl (by decide) rfl (r_off rfl (by decide) rfl (r_pick_true rfl rfl rfl rfl (r_nil ?_)))))
       refine q_next (fun a ha => ?_)
       cases hb5
       exact ⟨_, Frz.refl _, hx7.pick [0, 1] (by decide) rfl, ha.cut (l := [1, 5, 6, 7, 52]) rfl⟩
      ·refine r_lit 47 rfl hb34 ?_
       refine r_loadBW ag26 sz26 rfl rfl hx7 rfl (i := 0) rfl rfl ?_
       refine r_loadBW ag26 sz26 rfl rfl hx7 rfl (i := 1) rfl rfl ?_
       have hG2 := ((hF1.trans hF2).trans hF3).trans hF4
       obtain ⟨v26, hv10, hb5⟩ := bind_some hb5
       refine r_callG0 ent11 rfl rfl rfl rfl hx7 (ref35_SameTariff_ok _ _ _ _ hv10 hx7.sat hs3 (hs1.mono hG2)) ?_
       rintro _ Fx13 _ wx33 hF13 hx20 ⟨rfl, rfl⟩
       refine r_not rfl rfl rfl (r_pick_false rfl rfl rfl rfl (r_nil ?_))
       refine q_next (fun a ha => ?_)
       cases hb5
       exact ⟨_, hF13, hx20.pick [0, 1] (by decide) rfl, ha.cut (l := [1, 5, 6, 7, 52]) rfl⟩
    ·clear hm
     rcases cond_some hb4 with ⟨hb35, hb4⟩ | ⟨hb35, hb4⟩
     ·refine r_lit 43 rfl hb35 ?_
      refine r_off rfl (by decide) rfl (r_off rfl (by decide) rfl (r_pick_true rfl rfl rfl rfl (r_nil ?_)))
      refine q_next (fun a ha => ?_)
      cases hb4
      exact ⟨rfl, ha.cut (l := [1, 2, 5, 6, 7, 8, 46]) rfl⟩
     ·refine r_lit 43 rfl hb35 ?_
      refine r_move rfl rfl rfl ?_
      refine r_bin rfl rfl rfl rfl rfl ?_
      refine r_pick_false rfl rfl rfl rfl (r_nil ?_)
      refine q_next (fun a ha => ?_)
      cases hb4
      exact ⟨rfl, ha.cut (l := [1, 2, 5, 6, 7, 8, 46]) rfl⟩
   ·refine c_lit 34 rfl hb3 ?_
    refine c_false rfl (c_skip (q_then (c_seq (c_region (r_move rfl rfl rfl ?_)))))
    obtain ⟨v27, hv11, hm⟩ := bind_some hm
    refine r_callG0 ent10 rfl rfl rfl rfl hx4 (tariff_Parse_ok _ _ _ hv11 hx4.sat (((hg0.mono hF1).mono hF2).mono hF3)) ?_
    rintro _ Fx14 _ wx34 hF14 hx21 ⟨as6, ns6, cs6, rfl, rfl, hs6⟩
    refine r_move rfl rfl rfl (r_extract rfl rfl rfl rfl (r_extract rfl rfl rfl rfl (r_extract rfl rfl rfl rfl ?_)))
    refine r_alloc ze26 rfl rfl rfl hx21 ?_
    intro b5 wx35 hx22
    refine r_store sz26 rfl hx22 rfl rfl rfl rfl (i := 0) rfl rfl rfl rfl ?_
    intro wx36 hx23
    refine r_assign rfl rfl rfl (r_assign rfl rfl rfl (r_nil (q_then (c_seq (c_seq (c_region (r_move rfl rfl rfl ?_)))))))
    refine r_bin rfl rfl rfl rfl rfl ?_
    refine r_nil (q_then ?_)
    rcases cond_some hm with ⟨hb36, hm⟩ | ⟨hb36, hm⟩
    ·refine c_lit 65 rfl hb36 ?_
     refine c_true rfl (c_seq (c_region (r_move rfl rfl rfl (r_move rfl rfl rfl ?_))))
     obtain ⟨v28, hb37, hm⟩ := bind_some hm
     refine r_mid 6 (fun a w' => wx36 = w' ∧ Has 128 a [(1, vs s2), (11, .pointer (some ⟨b5, 0, none⟩)), (12, .int .i64 v27.2.1), (73, .bool v28)]) ?_ ?_
     ·rintro a wx37 ⟨rfl, hax17⟩
      refine rw_apply hax17 ?_
      refine r_move rfl rfl rfl ?_
      obtain ⟨v29, hb38, hm⟩ := bind_some hm
      refine r_mid 3 (fun a w' => wx36 = w' ∧ Has 128 a [(1, vs s2), (11, .pointer (some ⟨b5, 0, none⟩)), (12, .int .i64 v27.2.1), (77, .bool v29)]) ?_ ?_
      ·rintro a wx38 ⟨rfl, hax18⟩
       refine rw_apply hax18 ?_
       refine r_move rfl rfl rfl ?_
       obtain ⟨v30, hb39, hm⟩ := bind_some hm
       refine r_mid 5 (fun a w' => wx36 = w' ∧ Has 128 a [(11, .pointer (some ⟨b5, 0, none⟩)), (83, .bool v30)]) ?_ ?_
       ·rintro a wx39 ⟨rfl, hax19⟩
        refine rw_apply hax19 ?_
        refine r_move rfl rfl rfl ?_
        obtain ⟨v31, hb40, hm⟩ := bind_some hm
        refine r_mid 4 (fun a w' => ∃ (Fx15 : Frz), Frz.le Fx14 Fx15 ∧ HS F w [] Fx15 [.box b5 26 [vs v27.1.Name, .int .i64 v27.1.Fee.Op, .int .i64 v27.1.Fee.N, vs v27.1.Fee.Name, .slice as6 ns6 cs6, .int .i64 v27.1.Cap], .box b1 26 [vs t1.Name, .int .i64 t1.Fee.Op, .int .i64 t1.Fee.N, vs t1.Fee.Name, .slice as1 ns1 cs1, .int .i64 t1.Cap]] w' ∧ Has 128 a [(88, .bool v31)]) ?_ ?_
        ·rintro a wx40 ⟨Fx15, hF15, hx24, hax20⟩
         refine rw_apply hax20 ?_
         refine r_assign rfl rfl rfl (r_nil (q_then (c_ret (q_then_ret ?_))))
         refine b_ret1 rfl rfl ?_
         obtain rfl := Option.some.inj hm
         exact ⟨_, _, _, rfl, hx24.pick [] (by decide) rfl, rfl, rfl⟩
        ·clear hm
         rcases cond_some hb40 with ⟨hb41, hb40⟩ | ⟨hb41, hb40⟩
         ·refine r_lit 84 rfl hb41 ?_
          refine r_loadBW ag26 sz26 rfl rfl hx23 rfl (i := 0) rfl rfl ?_
          refine r_build (v := .agg #[vs [], .int .i64 0, .int .i64 0, vs [], .slice none 0 0, .int .i64 0]) rfl rfl rfl (fun _ => by kernel_rfl) ?_
          obtain ⟨v32, hv12, hb40⟩ := bind_some hb40
          refine r_callG0 ent11 rfl rfl rfl rfl hx23 (ref35_SameTariff_ok _ _ _ _ hv12 hx23.sat hs6 (SlR.nil _ _)) ?_
          rintro _ Fx16 _ wx41 hF16 hx25 ⟨rfl, rfl⟩
          refine r_pick_true rfl rfl rfl rfl (r_nil ?_)
          refine q_next (fun a ha => ?_)
          cases hb40
          exact ⟨_, hF16, hx25.pick [0, 1] (by decide) rfl, ha.cut (l := [88]) rfl⟩
         ·refine r_lit 84 rfl hb41 ?_
          refine r_off rfl (by decide) rfl (r_off rfl (by decide) rfl (r_off rfl (by decide) rfl (r_pick_false rfl rfl rfl rfl (r_nil ?_))))
          refine q_next (fun a ha => ?_)
          cases hb40
          exact ⟨_, Frz.refl _, hx23.pick [0, 1] (by decide) rfl, ha.cut (l := [88]) rfl⟩
       ·clear hm
        rcases cond_some hb39 with ⟨hb42, hb39⟩ | ⟨hb42, hb39⟩
        ·refine r_lit 78 rfl hb42 ?_
         refine r_move rfl rfl rfl (r_move rfl rfl rfl ?_)
         refine r_slen u9 rfl rfl rfl ?_
         refine r_bin rfl rfl rfl rfl rfl ?_
         refine r_pick_true rfl rfl rfl rfl (r_nil ?_)
         refine q_next (fun a ha => ?_)
         cases hb39
         exact ⟨rfl, ha.cut (l := [11, 83]) rfl⟩
        ·refine r_lit 78 rfl hb42 ?_
         refine r_off rfl (by decide) rfl (r_off rfl (by decide) rfl (r_off rfl (by decide) rfl (r_off rfl (by decide) rfl (r_pick_false rfl rfl rfl rfl (r_nil ?_)))))
         refine q_next (fun a ha => ?_)
         cases hb39
         exact ⟨rfl, ha.cut (l := [11, 83]) rfl⟩
      ·clear hm
       rcases cond_some hb38 with ⟨hb43, hb38⟩ | ⟨hb43, hb38⟩
       ·refine r_lit 74 rfl hb43 ?_
        refine r_move rfl rfl rfl ?_
        refine r_bin rfl rfl rfl rfl rfl ?_
        refine r_pick_true rfl rfl rfl rfl (r_nil ?_)
        refine q_next (fun a ha => ?_)
        cases hb38
        exact ⟨rfl, ha.cut (l := [1, 11, 12, 77]) rfl⟩
       ·refine r_lit 74 rfl hb43 ?_
        refine r_off rfl (by decide) rfl (r_off rfl (by decide) rfl (r_pick_false rfl rfl rfl rfl (r_nil ?_)))
        refine q_next (fun a ha => ?_)
        cases hb38
        exact ⟨rfl, ha.cut (l := [1, 11, 12, 77]) rfl⟩
     ·clear hm
      rcases cond_some hb37 with ⟨hb44, hb37⟩ | ⟨hb44, hb37⟩
      ·refine r_lit 67 rfl hb44 ?_
       refine r_move rfl rfl rfl (r_move rfl rfl rfl ?_)
       obtain ⟨v33, hb45, hb37⟩ := bind_some hb37
       refine r_mid 3 (fun a w' => wx36 = w' ∧ Has 128 a [(1, vs s2), (11, .pointer (some ⟨b5, 0, none⟩)), (12, .int .i64 v27.2.1), (67, .bool true), (72, .bool v33)]) ?_ ?_
       ·rintro a wx42 ⟨rfl, hax21⟩
        refine rw_apply hax21 ?_
        refine r_pick_true rfl rfl rfl rfl (r_nil ?_)
        refine q_next (fun a ha => ?_)
        cases hb37
        exact ⟨rfl, ha.cut (l := [1, 11, 12, 73]) rfl⟩
       ·clear hb37
        rcases cond_some hb45 with ⟨hb46, hb45⟩ | ⟨hb46, hb45⟩
        ·refine r_lit 69 rfl hb46 ?_
         refine r_off rfl (by decide) rfl (r_off rfl (by decide) rfl (r_pick_true rfl rfl rfl rfl (r_nil ?_)))
         refine q_next (fun a ha => ?_)
         cases hb45
         exact ⟨rfl, ha.cut (l := [1, 11, 12, 67, 72]) rfl⟩
        ·refine r_lit 69 rfl hb46 ?_
         refine r_move rfl rfl rfl ?_
         refine r_str rfl rfl rfl rfl rfl ?_
         refine r_pick_false rfl rfl rfl rfl (r_nil ?_)
         refine q_next (fun a ha => ?_)
         cases hb45
         exact ⟨rfl, ha.cut (l := [1, 11, 12, 67, 72]) rfl⟩
      ·refine r_lit 67 rfl hb44 ?_
       refine r_off rfl (by decide) rfl (r_off rfl (by decide) rfl (r_off rfl (by decide) rfl (r_off rfl (by decide) rfl (r_off rfl (by decide) rfl (r_pick_false rfl rfl rfl rfl (r_nil ?_))))))
       refine q_next (fun a ha => ?_)
       cases hb37
       exact ⟨rfl, ha.cut (l := [1, 11, 12, 73]) rfl⟩
    ·refine c_lit 65 rfl hb36 ?_
     refine c_false rfl (c_skip (q_then (c_seq (c_region ?_))))
     refine r_loadBW ag26 sz26 rfl rfl hx23 rfl (i := 0) rfl rfl ?_
     have hG3 := ((hF1.trans hF2).trans hF3).trans hF14
     obtain ⟨v34, hv13, hm⟩ := bind_some hm
     refine r_callG0 ent9 rfl rfl rfl rfl hx23 (tariff_Print_ok _ _ _ hv13 hx23.sat hs6 (hg1.mono hG3)) ?_
     rintro _ Fx17 _ wx43 hF17 hx26 ⟨rfl, rfl⟩
     refine r_move rfl rfl rfl (r_extract rfl rfl rfl rfl (r_extract rfl rfl rfl rfl (r_assign rfl rfl rfl (r_assign rfl rfl rfl (r_nil (q_then (c_seq (c_region (r_move rfl rfl rfl ?_)))))))))
     obtain ⟨v35, hv14, hm⟩ := bind_some hm
     refine r_callG0 ent10 rfl rfl rfl rfl hx26 (tariff_Parse_ok _ _ _ hv14 hx26.sat ((hg0.mono hG3).mono hF17)) ?_
     rintro _ Fx18 _ wx44 hF18 hx27 ⟨as7, ns7, cs7, rfl, rfl, hs7⟩
     refine r_move rfl rfl rfl (r_extract rfl rfl rfl rfl (r_extract rfl rfl rfl rfl (r_extract rfl rfl rfl rfl ?_)))
     refine r_alloc ze26 rfl rfl rfl hx27 ?_
     intro b6 wx45 hx28
     refine r_store sz26 rfl hx28 rfl rfl rfl rfl (i := 0) rfl rfl rfl rfl ?_
     intro wx46 hx29
     refine r_assign rfl rfl rfl (r_assign rfl rfl rfl (r_nil (q_then (c_seq (c_region (r_move rfl rfl rfl (r_move rfl rfl rfl ?_)))))))
     obtain ⟨v36, hb47, hm⟩ := bind_some hm
     refine r_mid 6 (fun a w' => wx46 = w' ∧ Has 128 a [(11, .pointer (some ⟨b5, 0, none⟩)), (12, .int .i64 v27.2.1), (15, .bool v34.2), (16, .pointer (some ⟨b6, 0, none⟩)), (17, .int .i64 v35.2.1), (18, .int .i64 v35.2.2), (107, .bool v36)]) ?_ ?_
     ·rintro a wx47 ⟨rfl, hax22⟩
      refine rw_apply hax22 ?_
      refine r_move rfl rfl rfl ?_
      obtain ⟨v37, hb48, hm⟩ := bind_some hm
      refine r_mid 3 (fun a w' => wx46 = w' ∧ Has 128 a [(11, .pointer (some ⟨b5, 0, none⟩)), (15, .bool v34.2), (16, .pointer (some ⟨b6, 0, none⟩)), (17, .int .i64 v35.2.1), (18, .int .i64 v35.2.2), (111, .bool v37)]) ?_ ?_
      ·rintro a wx48 ⟨rfl, hax23⟩
       refine rw_apply hax23 ?_
       refine r_move rfl rfl rfl ?_
       obtain ⟨v38, hb49, hm⟩ := bind_some hm
       refine r_mid 2 (fun a w' => wx46 = w' ∧ Has 128 a [(11, .pointer (some ⟨b5, 0, none⟩)), (16, .pointer (some ⟨b6, 0, none⟩)), (17, .int .i64 v35.2.1), (18, .int .i64 v35.2.2), (114, .bool v38)]) ?_ ?_
       ·rintro a wx49 ⟨rfl, hax24⟩
        refine rw_apply hax24 ?_
        refine r_move rfl rfl rfl ?_
        obtain ⟨v39, hb50, hm⟩ := bind_some hm
        refine r_mid 3 (fun a w' => wx46 = w' ∧ Has 128 a [(11, .pointer (some ⟨b5, 0, none⟩)), (16, .pointer (some ⟨b6, 0, none⟩)), (17, .int .i64 v35.2.1), (118, .bool v39)]) ?_ ?_
        ·rintro a wx50 ⟨rfl, hax25⟩
         refine rw_apply hax25 ?_
         refine r_move rfl rfl rfl ?_
         obtain ⟨v40, hb51, hm⟩ := bind_some hm
         refine r_mid 3 (fun a w' => wx46 = w' ∧ Has 128 a [(11, .pointer (some ⟨b5, 0, none⟩)), (16, .pointer (some ⟨b6, 0, none⟩)), (122, .bool v40)]) ?_ ?_
         ·rintro a wx51 ⟨rfl, hax26⟩
          refine rw_apply hax26 ?_
          refine r_move rfl rfl rfl ?_
          obtain ⟨v41, hb52, hm⟩ := bind_some hm
          refine r_mid 4 (fun a w' => ∃ (Fx19 : Frz), Frz.le Fx18 Fx19 ∧ HS F w [] Fx19 [.box b6 26 [vs v35.1.Name, .int .i64 v35.1.Fee.Op, .int .i64 v35.1.Fee.N, vs v35.1.Fee.Name, .slice as7 ns7 cs7, .int .i64 v35.1.Cap], .box b5 26 [vs v27.1.Name, .int .i64 v27.1.Fee.Op, .int .i64 v27.1.Fee.N, vs v27.1.Fee.Name, .slice as6 ns6 cs6, .int .i64 v27.1.Cap], .box b1 26 [vs t1.Name, .int .i64 t1.Fee.Op, .int .i64 t1.Fee.N, vs t1.Fee.Name, .slice as1 ns1 cs1, .int .i64 t1.Cap]] w' ∧ Has 128 a [(127, .bool v41)]) ?_ ?_
          ·rintro a wx52 ⟨Fx19, hF19, hx30, hax27⟩
           refine rw_apply hax27 ?_
           refine r_assign rfl rfl rfl (r_nil (q_then (c_ret ?_)))
           refine b_ret1 rfl rfl ?_
           obtain rfl := Option.some.inj hm
           exact ⟨_, _, _, rfl, hx30.pick [] (by decide) rfl, rfl, rfl⟩
          ·clear hm
           rcases cond_some hb52 with ⟨hb53, hb52⟩ | ⟨hb53, hb52⟩
           ·refine r_lit 123 rfl hb53 ?_
            refine r_loadBW ag26 sz26 rfl rfl hx29 rfl (i := 1) rfl rfl ?_
            refine r_loadBW ag26 sz26 rfl rfl hx29 rfl (i := 0) rfl rfl ?_
            obtain ⟨v42, hv15, hb52⟩ := bind_some hb52
            refine r_callG0 ent11 rfl rfl rfl rfl hx29 (ref35_SameTariff_ok _ _ _ _ hv15 hx29.sat ((hs6.mono hF17).mono hF18) hs7) ?_
            rintro _ Fx20 _ wx53 hF20 hx31 ⟨rfl, rfl⟩
            refine r_pick_true rfl rfl rfl rfl (r_nil ?_)
            refine q_next (fun a ha => ?_)
            cases hb52
            exact ⟨_, hF20, hx31.pick [0, 1, 2] (by decide) rfl, ha.cut (l := [127]) rfl⟩
           ·refine r_lit 123 rfl hb53 ?_
            refine r_off rfl (by decide) rfl (r_off rfl (by decide) rfl (r_off rfl (by decide) rfl (r_pick_false rfl rfl rfl rfl (r_nil ?_))))
            refine q_next (fun a ha => ?_)
            cases hb52
            exact ⟨_, Frz.refl _, hx29.pick [0, 1, 2] (by decide) rfl, ha.cut (l := [127]) rfl⟩
         ·clear hm
          rcases cond_some hb51 with ⟨hb54, hb51⟩ | ⟨hb54, hb51⟩
          ·refine r_lit 119 rfl hb54 ?_
           refine r_move rfl rfl rfl ?_
           refine r_bin rfl rfl rfl rfl rfl ?_
           refine r_pick_true rfl rfl rfl rfl (r_nil ?_)
           refine q_next (fun a ha => ?_)
           cases hb51
           exact ⟨rfl, ha.cut (l := [11, 16, 122]) rfl⟩
          ·refine r_lit 119 rfl hb54 ?_
           refine r_off rfl (by decide) rfl (r_off rfl (by decide) rfl (r_pick_false rfl rfl rfl rfl (r_nil ?_)))
           refine q_next (fun a ha => ?_)
           cases hb51
           exact ⟨rfl, ha.cut (l := [11, 16, 122]) rfl⟩
        ·clear hm
         rcases cond_some hb50 with ⟨hb55, hb50⟩ | ⟨hb55, hb50⟩
         ·refine r_lit 115 rfl hb55 ?_
          refine r_move rfl rfl rfl ?_
          refine r_bin rfl rfl rfl rfl rfl ?_
          refine r_pick_true rfl rfl rfl rfl (r_nil ?_)
          refine q_next (fun a ha => ?_)
          cases hb50
          exact ⟨rfl, ha.cut (l := [11, 16, 17, 118]) rfl⟩
         ·refine r_lit 115 rfl hb55 ?_
          refine r_off rfl (by decide) rfl (r_off rfl (by decide) rfl (r_pick_false rfl rfl rfl rfl (r_nil ?_)))
          refine q_next (fun a ha => ?_)
          cases hb50
          exact ⟨rfl, ha.cut (l := [11, 16, 17, 118]) rfl⟩
       ·clear hm
        rcases cond_some hb49 with ⟨hb56, hb49⟩ | ⟨hb56, hb49⟩
        ·refine r_lit 112 rfl hb56 ?_
         refine r_move rfl rfl rfl (r_pick_true rfl rfl rfl rfl (r_nil ?_))
         refine q_next (fun a ha => ?_)
         cases hb49
         exact ⟨rfl, ha.cut (l := [11, 16, 17, 18, 114]) rfl⟩
        ·refine r_lit 112 rfl hb56 ?_
         refine r_off rfl (by decide) rfl (r_pick_false rfl rfl rfl rfl (r_nil ?_))
         refine q_next (fun a ha => ?_)
         cases hb49
         exact ⟨rfl, ha.cut (l := [11, 16, 17, 18, 114]) rfl⟩
      ·clear hm
       rcases cond_some hb48 with ⟨hb57, hb48⟩ | ⟨hb57, hb48⟩
       ·refine r_lit 108 rfl hb57 ?_
        refine r_move rfl rfl rfl ?_
        refine r_bin rfl rfl rfl rfl rfl ?_
        refine r_pick_true rfl rfl rfl rfl (r_nil ?_)
        refine q_next (fun a ha => ?_)
        cases hb48
        exact ⟨rfl, ha.cut (l := [11, 15, 16, 17, 18, 111]) rfl⟩
       ·refine r_lit 108 rfl hb57 ?_
        refine r_off rfl (by decide) rfl (r_off rfl (by decide) rfl (r_pick_false rfl rfl rfl rfl (r_nil ?_)))
        refine q_next (fun a ha => ?_)
        cases hb48
        exact ⟨rfl, ha.cut (l := [11, 15, 16, 17, 18, 111]) rfl⟩
     ·clear hm
      rcases cond_some hb47 with ⟨hb58, hb47⟩ | ⟨hb58, hb47⟩
      ·refine r_lit 101 rfl hb58 ?_
       refine r_move rfl rfl rfl (r_move rfl rfl rfl ?_)
       obtain ⟨v43, hb59, hb47⟩ := bind_some hb47
       refine r_mid 3 (fun a w' => wx46 = w' ∧ Has 128 a [(11, .pointer (some ⟨b5, 0, none⟩)), (12, .int .i64 v27.2.1), (15, .bool v34.2), (16, .pointer (some ⟨b6, 0, none⟩)), (17, .int .i64 v35.2.1), (18, .int .i64 v35.2.2), (101, .bool true), (106, .bool v43)]) ?_ ?_
       ·rintro a wx54 ⟨rfl, hax28⟩
        refine rw_apply hax28 ?_
        refine r_pick_true rfl rfl rfl rfl (r_nil ?_)
        refine q_next (fun a ha => ?_)
        cases hb47
        exact ⟨rfl, ha.cut (l := [11, 12, 15, 16, 17, 18, 107]) rfl⟩
       ·clear hb47
        rcases cond_some hb59 with ⟨hb60, hb59⟩ | ⟨hb60, hb59⟩
        ·refine r_lit 103 rfl hb60 ?_
         refine r_off rfl (by decide) rfl (r_off rfl (by decide) rfl (r_pick_true rfl rfl rfl rfl (r_nil ?_)))
         refine q_next (fun a ha => ?_)
         cases hb59
         exact ⟨rfl, ha.cut (l := [11, 12, 15, 16, 17, 18, 101, 106]) rfl⟩
        ·refine r_lit 103 rfl hb60 ?_
         refine r_move rfl rfl rfl ?_
         refine r_str rfl rfl rfl rfl rfl ?_
         refine r_pick_false rfl rfl rfl rfl (r_nil ?_)
         refine q_next (fun a ha => ?_)
         cases hb59
         exact ⟨rfl, ha.cut (l := [11, 12, 15, 16, 17, 18, 101, 106]) rfl⟩
      ·refine r_lit 101 rfl hb58 ?_
       refine r_off rfl (by decide) rfl (r_off rfl (by decide) rfl (r_off rfl (by decide) rfl (r_off rfl (by decide) rfl (r_off rfl (by decide) rfl (r_pick_false rfl rfl rfl rfl (r_nil ?_))))))
       refine q_next (fun a ha => ?_)
       cases hb47
       exact ⟨rfl, ha.cut (l := [11, 12, 15, 16, 17, 18, 107]) rfl⟩
 ·clear hm
  rcases cond_some hb1 with ⟨hb61, hb1⟩ | ⟨hb61, hb1⟩
  ·refine r_lit 23 rfl hb61 ?_
   refine r_off rfl (by decide) rfl (r_off rfl (by decide) rfl (r_off rfl (by decide) rfl (r_pick_true rfl rfl rfl rfl (r_nil ?_))))
   refine q_next (fun a ha => ?_)
   cases hb1
   exact ⟨rfl, ha.cut (l := [1, 2, 5, 27]) rfl⟩
  ·refine r_lit 23 rfl hb61 ?_
   refine r_move rfl rfl rfl ?_
   refine r_slen u9 rfl rfl rfl ?_
   refine r_bin rfl rfl rfl rfl rfl ?_
   refine r_pick_false rfl rfl rfl rfl (r_nil ?_)
   refine q_next (fun a ha => ?_)
   cases hb1
   exact ⟨rfl, ha.cut (l := [1, 2, 5, 27]) rfl⟩


end Go.Proofs.YtpihabofmnnbbaaDoor.M
