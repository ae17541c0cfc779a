/-
  THE MIRRORS of the big integers' functions, of their reference and of the laws, and that each call returns what its mirror says. Printed by gen.py.
-/
import Derived.Test.YtaiiclbemlmmaaaDoorRows
import Derived.Test.YtaiiclbemlmmaaaDoorTrim
import Derived.Test.YtaiiclbemlmmaaaDoorMirD
namespace Go.Proofs.YtaiiclbemlmmaaaDoor.M
open Go Go.RowKit Rt

theorem ent9 : Ent Tryd.prog 9 := fun _ _ => by kernel_rfl

theorem ent10 : Ent Tryd.prog 10 := fun _ _ => by kernel_rfl

theorem ent22 : Ent Tryd.prog 22 := fun _ _ => by kernel_rfl

def law04_BigRing (n : Nat) (ax1 : Big) (b1 : Big) (c1 : Big) : Option Bool :=
  (law04_small n).bind fun v1 =>
  (law04_few n (⟨ax1.Sign, ax1.Digits⟩ : Big) 25).bind fun v2 =>
  (bif !v2 then
    some true
  else
    (law04_few n (⟨b1.Sign, b1.Digits⟩ : Big) 25).bind fun v66 =>
    some (!v66)).bind fun v3 =>
  (bif v3 then
    some true
  else
    (law04_few n (⟨c1.Sign, c1.Digits⟩ : Big) 25).bind fun v65 =>
    some (!v65)).bind fun v4 =>
  (bif v4 then
    some true
  else
    (big_Right n (⟨ax1.Sign, ax1.Digits⟩ : Big)).bind fun v64 =>
    some (!v64)).bind fun v5 =>
  (bif v5 then
    some true
  else
    (big_Right n (⟨b1.Sign, b1.Digits⟩ : Big)).bind fun v63 =>
    some (!v63)).bind fun v6 =>
  (bif v6 then
    some true
  else
    (big_Right n (⟨c1.Sign, c1.Digits⟩ : Big)).bind fun v62 =>
    some (!v62)).bind fun v7 =>
  bif v7 then
    some v1
  else
    (big_Add n (⟨ax1.Sign, ax1.Digits⟩ : Big) (⟨b1.Sign, b1.Digits⟩ : Big)).bind fun v8 =>
    (big_Add n (⟨b1.Sign, b1.Digits⟩ : Big) (⟨ax1.Sign, ax1.Digits⟩ : Big)).bind fun v9 =>
    (big_Add n (⟨b1.Sign, b1.Digits⟩ : Big) (⟨c1.Sign, c1.Digits⟩ : Big)).bind fun v10 =>
    (big_Add n (⟨v8.1.Sign, v8.1.Digits⟩ : Big) (⟨c1.Sign, c1.Digits⟩ : Big)).bind fun v11 =>
    (big_Add n (⟨ax1.Sign, ax1.Digits⟩ : Big) (⟨v10.1.Sign, v10.1.Digits⟩ : Big)).bind fun v12 =>
    (bif v8.2 != 0 then
      some true
    else
      some (v9.2 != 0)).bind fun v13 =>
    (bif v13 then
      some true
    else
      some (v10.2 != 0)).bind fun v14 =>
    (bif v14 then
      some true
    else
      some (v11.2 != 0)).bind fun v15 =>
    (bif v15 then
      some true
    else
      some (v12.2 != 0)).bind fun v16 =>
    (bif v16 then
      some true
    else
      (ref04_Same n (⟨v8.1.Sign, v8.1.Digits⟩ : Big) (⟨v9.1.Sign, v9.1.Digits⟩ : Big)).bind fun v61 =>
      some (!v61)).bind fun v17 =>
    (bif v17 then
      some true
    else
      (ref04_Same n (⟨v11.1.Sign, v11.1.Digits⟩ : Big) (⟨v12.1.Sign, v12.1.Digits⟩ : Big)).bind fun v60 =>
      some (!v60)).bind fun v18 =>
    bif v18 then
      some false
    else
      (big_Mul n (⟨ax1.Sign, ax1.Digits⟩ : Big) (⟨b1.Sign, b1.Digits⟩ : Big)).bind fun v19 =>
      (big_Mul n (⟨b1.Sign, b1.Digits⟩ : Big) (⟨ax1.Sign, ax1.Digits⟩ : Big)).bind fun v20 =>
      (big_Mul n (⟨b1.Sign, b1.Digits⟩ : Big) (⟨c1.Sign, c1.Digits⟩ : Big)).bind fun v21 =>
      (big_Mul n (⟨v19.1.Sign, v19.1.Digits⟩ : Big) (⟨c1.Sign, c1.Digits⟩ : Big)).bind fun v22 =>
      (big_Mul n (⟨ax1.Sign, ax1.Digits⟩ : Big) (⟨v21.1.Sign, v21.1.Digits⟩ : Big)).bind fun v23 =>
      (bif v19.2 != 0 then
        some true
      else
        some (v20.2 != 0)).bind fun v24 =>
      (bif v24 then
        some true
      else
        some (v21.2 != 0)).bind fun v25 =>
      (bif v25 then
        some true
      else
        some (v22.2 != 0)).bind fun v26 =>
      (bif v26 then
        some true
      else
        some (v23.2 != 0)).bind fun v27 =>
      (bif v27 then
        some true
      else
        (ref04_Same n (⟨v19.1.Sign, v19.1.Digits⟩ : Big) (⟨v20.1.Sign, v20.1.Digits⟩ : Big)).bind fun v59 =>
        some (!v59)).bind fun v28 =>
      (bif v28 then
        some true
      else
        (ref04_Same n (⟨v22.1.Sign, v22.1.Digits⟩ : Big) (⟨v23.1.Sign, v23.1.Digits⟩ : Big)).bind fun v58 =>
        some (!v58)).bind fun v29 =>
      bif v29 then
        some false
      else
        (big_Mul n (⟨ax1.Sign, ax1.Digits⟩ : Big) (⟨v10.1.Sign, v10.1.Digits⟩ : Big)).bind fun v30 =>
        (big_Mul n (⟨ax1.Sign, ax1.Digits⟩ : Big) (⟨c1.Sign, c1.Digits⟩ : Big)).bind fun v31 =>
        (big_Add n (⟨v19.1.Sign, v19.1.Digits⟩ : Big) (⟨v31.1.Sign, v31.1.Digits⟩ : Big)).bind fun v32 =>
        (big_Sub n (⟨ax1.Sign, ax1.Digits⟩ : Big) (⟨b1.Sign, b1.Digits⟩ : Big)).bind fun v33 =>
        (big_Add n (⟨v33.1.Sign, v33.1.Digits⟩ : Big) (⟨b1.Sign, b1.Digits⟩ : Big)).bind fun v34 =>
        (bif v30.2 != 0 then
          some true
        else
          some (v31.2 != 0)).bind fun v35 =>
        (bif v35 then
          some true
        else
          some (v32.2 != 0)).bind fun v36 =>
        (bif v36 then
          some true
        else
          some (v33.2 != 0)).bind fun v37 =>
        (bif v37 then
          some true
        else
          some (v34.2 != 0)).bind fun v38 =>
        (bif v38 then
          some true
        else
          (ref04_Same n (⟨v30.1.Sign, v30.1.Digits⟩ : Big) (⟨v32.1.Sign, v32.1.Digits⟩ : Big)).bind fun v57 =>
          some (!v57)).bind fun v39 =>
        (bif v39 then
          some true
        else
          (ref04_Same n (⟨v34.1.Sign, v34.1.Digits⟩ : Big) (⟨ax1.Sign, ax1.Digits⟩ : Big)).bind fun v56 =>
          some (!v56)).bind fun v40 =>
        bif v40 then
          some false
        else
          ((big_Of n 0).bind fun v54 =>
          (big_Add n (⟨ax1.Sign, ax1.Digits⟩ : Big) v54).bind fun v55 =>
          some (v55.2, v55.1.Sign, v55.1.Digits)).bind fun (e11, f1, f2) =>
          ((big_Of n 1).bind fun v52 =>
          (big_Mul n (⟨ax1.Sign, ax1.Digits⟩ : Big) v52).bind fun v53 =>
          some (v53.2, v53.1.Sign, v53.1.Digits)).bind fun (e21, f3, f4) =>
          ((big_Of n 0).bind fun v50 =>
          (big_Mul n (⟨ax1.Sign, ax1.Digits⟩ : Big) v50).bind fun v51 =>
          some (v51.2, v51.1.Sign, v51.1.Digits)).bind fun (e31, f5, f6) =>
          (bif v1 then
            some (e11 == 0)
          else
            some false).bind fun v41 =>
          (bif v41 then
            some (e21 == 0)
          else
            some false).bind fun v42 =>
          (bif v42 then
            some (e31 == 0)
          else
            some false).bind fun v43 =>
          (bif v43 then
            (ref04_Same n (⟨f1, f2⟩ : Big) (⟨ax1.Sign, ax1.Digits⟩ : Big)).bind fun v49 =>
            some v49
          else
            some false).bind fun v44 =>
          (bif v44 then
            (ref04_Same n (⟨f3, f4⟩ : Big) (⟨ax1.Sign, ax1.Digits⟩ : Big)).bind fun v48 =>
            some v48
          else
            some false).bind fun v45 =>
          (bif v45 then
            (ref04_Same n (⟨f5, f6⟩ : Big) (⟨0, []⟩ : Big)).bind fun v47 =>
            some v47
          else
            some false).bind fun v46 =>
          some v46

set_option maxHeartbeats 1000000 in
set_option maxRecDepth 1000000 in
theorem law04_BigRing_ok (n : Nat) (ax1 : Big) (b1 : Big) (c1 : Big) (r : Bool) (hm : law04_BigRing n ax1 b1 c1 = some r) {w : World} {F : Frz} (hs : Sat F w) {as1 : Option Addr} {ns1 : Nat} {cs1 : Nat} {as2 : Option Addr} {ns2 : Nat} {cs2 : Nat} {as3 : Option Addr} {ns3 : Nat} {cs3 : Nat} (hs1 : SlR (Rp.int .i64) F as1 ns1 cs1 ax1.Digits) (hs2 : SlR (Rp.int .i64) F as2 ns2 cs2 b1.Digits) (hs3 : SlR (Rp.int .i64) F as3 ns3 cs3 c1.Digits) (hg2 : FX F 2 (Lib.pow10Tab.map (Value.int .u64))) :
    Calls Tryd.prog 5 #[.agg #[.int .i64 ax1.Sign, .slice as1 ns1 cs1], .agg #[.int .i64 b1.Sign, .slice as2 ns2 cs2], .agg #[.int .i64 c1.Sign, .slice as3 ns3 cs3]] w fun e w' => ∃ v F' O', e = .returned v ∧ HS F w [] F' O' w' ∧ (v = .bool r ∧ O' = []) := by
  unfold law04_BigRing at hm
  have h := HS.init hs
  refine calls_of (args := [.agg #[.int .i64 ax1.Sign, .slice as1 ns1 cs1], .agg #[.int .i64 b1.Sign, .slice as2 ns2 cs2], .agg #[.int .i64 c1.Sign, .slice as3 ns3 cs3]]) 285 Tryd.func5 rfl rfl rfl ?_
  refine c_seq ?_
  refine c_region ?_
  refine r_box rfl rfl rfl rfl h ?_
  intro b2 wx1 hx1
  refine r_box rfl rfl rfl rfl hx1 ?_
  intro b3 wx2 hx2
  refine r_box rfl rfl rfl rfl hx2 ?_
  intro b4 wx3 hx3
  refine r_assign rfl rfl rfl ?_
  refine r_nil ?_
  refine q_then ?_
  refine c_seq ?_
  refine c_region ?_
  obtain ⟨v1, hv1, hm⟩ := bind_some hm
  refine r_callG0 ent9 rfl rfl rfl rfl hx3 (law04_small_ok _ _ hv1 hx3.sat hg2) ?_
  rintro _ Fx1 _ wx4 hF1 hx4 ⟨rfl, rfl⟩
  refine r_assign rfl rfl rfl ?_
  refine r_nil ?_
  refine q_then ?_
  refine c_seq ?_
  refine c_seq ?_
  refine c_region ?_
  refine r_loadBA (cs' := [.int .i64 ax1.Sign, .slice as1 ns1 cs1]) ag24 sz24 rfl rfl hx4 rfl (i := 2) rfl rfl rfl ?_
  obtain ⟨v2, hv2, hm⟩ := bind_some hm
  refine r_callG0 ent10 rfl rfl rfl rfl hx4 (law04_few_ok _ _ _ _ hv2 hx4.sat (hs1.mono hF1)) ?_
  rintro _ Fx2 _ wx5 hF2 hx5 ⟨rfl, rfl⟩
  refine r_not rfl rfl rfl ?_
  refine r_move rfl rfl rfl ?_
  obtain ⟨v3, hb1, hm⟩ := bind_some hm
  refine r_mid 4 (fun a w' => ∃ (Fx3 : Frz), Frz.le Fx2 Fx3 ∧ HS F w [] Fx3 [.box b4 24 [.int .i64 c1.Sign, .slice as3 ns3 cs3], .box b3 24 [.int .i64 b1.Sign, .slice as2 ns2 cs2], .box b2 24 [.int .i64 ax1.Sign, .slice as1 ns1 cs1]] w' ∧ Has 285 a [(3, .pointer (some ⟨b2, 0, none⟩)), (4, .pointer (some ⟨b3, 0, none⟩)), (5, .pointer (some ⟨b4, 0, none⟩)), (7, .bool v1), (37, .bool v3)]) ?_ ?_
  · rintro a wx6 ⟨Fx3, hF3, hx6, hax1⟩
    refine rw_apply hax1 ?_
    refine r_move rfl rfl rfl ?_
    obtain ⟨v4, hb2, hm⟩ := bind_some hm
    refine r_mid 4 (fun a w' => ∃ (Fx4 : Frz), Frz.le Fx3 Fx4 ∧ HS F w [] Fx4 [.box b4 24 [.int .i64 c1.Sign, .slice as3 ns3 cs3], .box b3 24 [.int .i64 b1.Sign, .slice as2 ns2 cs2], .box b2 24 [.int .i64 ax1.Sign, .slice as1 ns1 cs1]] w' ∧ Has 285 a [(3, .pointer (some ⟨b2, 0, none⟩)), (4, .pointer (some ⟨b3, 0, none⟩)), (5, .pointer (some ⟨b4, 0, none⟩)), (7, .bool v1), (42, .bool v4)]) ?_ ?_
    · rintro a wx7 ⟨Fx4, hF4, hx7, hax2⟩
      refine rw_apply hax2 ?_
      refine r_move rfl rfl rfl ?_
      obtain ⟨v5, hb3, hm⟩ := bind_some hm
      refine r_mid 4 (fun a w' => ∃ (Fx5 : Frz), Frz.le Fx4 Fx5 ∧ HS F w [] Fx5 [.box b4 24 [.int .i64 c1.Sign, .slice as3 ns3 cs3], .box b3 24 [.int .i64 b1.Sign, .slice as2 ns2 cs2], .box b2 24 [.int .i64 ax1.Sign, .slice as1 ns1 cs1]] w' ∧ Has 285 a [(3, .pointer (some ⟨b2, 0, none⟩)), (4, .pointer (some ⟨b3, 0, none⟩)), (5, .pointer (some ⟨b4, 0, none⟩)), (7, .bool v1), (47, .bool v5)]) ?_ ?_
      · rintro a wx8 ⟨Fx5, hF5, hx8, hax3⟩
        refine rw_apply hax3 ?_
        refine r_move rfl rfl rfl ?_
        obtain ⟨v6, hb4, hm⟩ := bind_some hm
        refine r_mid 4 (fun a w' => ∃ (Fx6 : Frz), Frz.le Fx5 Fx6 ∧ HS F w [] Fx6 [.box b4 24 [.int .i64 c1.Sign, .slice as3 ns3 cs3], .box b3 24 [.int .i64 b1.Sign, .slice as2 ns2 cs2], .box b2 24 [.int .i64 ax1.Sign, .slice as1 ns1 cs1]] w' ∧ Has 285 a [(3, .pointer (some ⟨b2, 0, none⟩)), (4, .pointer (some ⟨b3, 0, none⟩)), (5, .pointer (some ⟨b4, 0, none⟩)), (7, .bool v1), (52, .bool v6)]) ?_ ?_
        · rintro a wx9 ⟨Fx6, hF6, hx9, hax4⟩
          refine rw_apply hax4 ?_
          refine r_move rfl rfl rfl ?_
          obtain ⟨v7, hb5, hm⟩ := bind_some hm
          refine r_mid 4 (fun a w' => ∃ (Fx7 : Frz), Frz.le Fx6 Fx7 ∧ HS F w [] Fx7 [.box b4 24 [.int .i64 c1.Sign, .slice as3 ns3 cs3], .box b3 24 [.int .i64 b1.Sign, .slice as2 ns2 cs2], .box b2 24 [.int .i64 ax1.Sign, .slice as1 ns1 cs1]] w' ∧ Has 285 a [(3, .pointer (some ⟨b2, 0, none⟩)), (4, .pointer (some ⟨b3, 0, none⟩)), (5, .pointer (some ⟨b4, 0, none⟩)), (7, .bool v1), (57, .bool v7)]) ?_ ?_
          · rintro a wx10 ⟨Fx7, hF7, hx10, hax5⟩
            refine rw_apply hax5 ?_
            refine r_nil ?_
            refine q_then ?_
            rcases cond_some hm with ⟨hb6, hm⟩ | ⟨hb6, hm⟩
            · refine c_lit 57 rfl hb6 ?_
              refine c_true rfl ?_
              refine c_seq ?_
              refine c_region ?_
              refine r_move rfl rfl rfl ?_
              refine r_assign rfl rfl rfl ?_
              refine r_nil ?_
              refine q_then ?_
              refine c_ret ?_
              refine q_then_ret ?_
              refine b_ret1 rfl rfl ?_
              obtain rfl := Option.some.inj hm
              exact ⟨_, _, _, rfl, hx10.pick [] (by decide) rfl, rfl, rfl⟩
            · refine c_lit 57 rfl hb6 ?_
              refine c_false rfl ?_
              refine c_skip ?_
              refine q_then ?_
              refine c_seq ?_
              refine c_region ?_
              refine r_loadBA (cs' := [.int .i64 ax1.Sign, .slice as1 ns1 cs1]) ag24 sz24 rfl rfl hx10 rfl (i := 2) rfl rfl rfl ?_
              refine r_loadBA (cs' := [.int .i64 b1.Sign, .slice as2 ns2 cs2]) ag24 sz24 rfl rfl hx10 rfl (i := 1) rfl rfl rfl ?_
              obtain ⟨v8, hv3, hm⟩ := bind_some hm
              refine r_callG0 ent20 rfl rfl rfl rfl hx10 (big_Add_ok _ _ _ _ hv3 hx10.sat (((((((hs1.mono hF1).mono hF2).mono hF3).mono hF4).mono hF5).mono hF6).mono hF7) (((((((hs2.mono hF1).mono hF2).mono hF3).mono hF4).mono hF5).mono hF6).mono hF7)) ?_
              rintro _ Fx8 _ wx11 hF8 hx11 ⟨as4, ns4, cs4, rfl, rfl, hs4⟩
              refine r_move rfl rfl rfl ?_
              refine r_extract rfl rfl rfl rfl ?_
              refine r_extract rfl rfl rfl rfl ?_
              refine r_alloc ze24 rfl rfl rfl hx11 ?_
              intro b5 wx12 hx12
              refine r_store sz24 rfl hx12 rfl rfl rfl rfl (i := 0) rfl rfl rfl rfl ?_
              intro wx13 hx13
              refine r_assign rfl rfl rfl ?_
              refine r_nil ?_
              refine q_then ?_
              refine c_seq ?_
              refine c_region ?_
              refine r_loadBA (cs' := [.int .i64 b1.Sign, .slice as2 ns2 cs2]) ag24 sz24 rfl rfl hx13 rfl (i := 2) rfl rfl rfl ?_
              refine r_loadBA (cs' := [.int .i64 ax1.Sign, .slice as1 ns1 cs1]) ag24 sz24 rfl rfl hx13 rfl (i := 3) rfl rfl rfl ?_
              obtain ⟨v9, hv4, hm⟩ := bind_some hm
              refine r_callG0 ent20 rfl rfl rfl rfl hx13 (big_Add_ok _ _ _ _ hv4 hx13.sat ((((((((hs2.mono hF1).mono hF2).mono hF3).mono hF4).mono hF5).mono hF6).mono hF7).mono hF8) ((((((((hs1.mono hF1).mono hF2).mono hF3).mono hF4).mono hF5).mono hF6).mono hF7).mono hF8)) ?_
              rintro _ Fx9 _ wx14 hF9 hx14 ⟨as5, ns5, cs5, rfl, rfl, hs5⟩
              refine r_move rfl rfl rfl ?_
              refine r_extract rfl rfl rfl rfl ?_
              refine r_extract rfl rfl rfl rfl ?_
              refine r_alloc ze24 rfl rfl rfl hx14 ?_
              intro b6 wx15 hx15
              refine r_store sz24 rfl hx15 rfl rfl rfl rfl (i := 0) rfl rfl rfl rfl ?_
              intro wx16 hx16
              refine r_assign rfl rfl rfl ?_
              refine r_nil ?_
              refine q_then ?_
              refine c_seq ?_
              refine c_region ?_
              refine r_loadBA (cs' := [.int .i64 b1.Sign, .slice as2 ns2 cs2]) ag24 sz24 rfl rfl hx16 rfl (i := 3) rfl rfl rfl ?_
              refine r_loadBA (cs' := [.int .i64 c1.Sign, .slice as3 ns3 cs3]) ag24 sz24 rfl rfl hx16 rfl (i := 2) rfl rfl rfl ?_
              obtain ⟨v10, hv5, hm⟩ := bind_some hm
              refine r_callG0 ent20 rfl rfl rfl rfl hx16 (big_Add_ok _ _ _ _ hv5 hx16.sat (((((((((hs2.mono hF1).mono hF2).mono hF3).mono hF4).mono hF5).mono hF6).mono hF7).mono hF8).mono hF9) (((((((((hs3.mono hF1).mono hF2).mono hF3).mono hF4).mono hF5).mono hF6).mono hF7).mono hF8).mono hF9)) ?_
              rintro _ Fx10 _ wx17 hF10 hx17 ⟨as6, ns6, cs6, rfl, rfl, hs6⟩
              refine r_move rfl rfl rfl ?_
              refine r_extract rfl rfl rfl rfl ?_
              refine r_extract rfl rfl rfl rfl ?_
              refine r_alloc ze24 rfl rfl rfl hx17 ?_
              intro b7 wx18 hx18
              refine r_store sz24 rfl hx18 rfl rfl rfl rfl (i := 0) rfl rfl rfl rfl ?_
              intro wx19 hx19
              refine r_assign rfl rfl rfl ?_
              refine r_nil ?_
              refine q_then ?_
              refine c_seq ?_
              refine c_region ?_
              refine r_loadBA (cs' := [.int .i64 v8.1.Sign, .slice as4 ns4 cs4]) ag24 sz24 rfl rfl hx19 rfl (i := 2) rfl rfl rfl ?_
              refine r_loadBA (cs' := [.int .i64 c1.Sign, .slice as3 ns3 cs3]) ag24 sz24 rfl rfl hx19 rfl (i := 3) rfl rfl rfl ?_
              obtain ⟨v11, hv6, hm⟩ := bind_some hm
              refine r_callG0 ent20 rfl rfl rfl rfl hx19 (big_Add_ok _ _ _ _ hv6 hx19.sat ((hs4.mono hF9).mono hF10) ((((((((((hs3.mono hF1).mono hF2).mono hF3).mono hF4).mono hF5).mono hF6).mono hF7).mono hF8).mono hF9).mono hF10)) ?_
              rintro _ Fx11 _ wx20 hF11 hx20 ⟨as7, ns7, cs7, rfl, rfl, hs7⟩
              refine r_move rfl rfl rfl ?_
              refine r_extract rfl rfl rfl rfl ?_
              refine r_extract rfl rfl rfl rfl ?_
              refine r_alloc ze24 rfl rfl rfl hx20 ?_
              intro b8 wx21 hx21
              refine r_store sz24 rfl hx21 rfl rfl rfl rfl (i := 0) rfl rfl rfl rfl ?_
              intro wx22 hx22
              refine r_assign rfl rfl rfl ?_
              refine r_nil ?_
              refine q_then ?_
              refine c_seq ?_
              refine c_region ?_
              refine r_loadBA (cs' := [.int .i64 ax1.Sign, .slice as1 ns1 cs1]) ag24 sz24 rfl rfl hx22 rfl (i := 6) rfl rfl rfl ?_
              refine r_loadBA (cs' := [.int .i64 v10.1.Sign, .slice as6 ns6 cs6]) ag24 sz24 rfl rfl hx22 rfl (i := 1) rfl rfl rfl ?_
              obtain ⟨v12, hv7, hm⟩ := bind_some hm
              refine r_callG0 ent20 rfl rfl rfl rfl hx22 (big_Add_ok _ _ _ _ hv7 hx22.sat (((((((((((hs1.mono hF1).mono hF2).mono hF3).mono hF4).mono hF5).mono hF6).mono hF7).mono hF8).mono hF9).mono hF10).mono hF11) (hs6.mono hF11)) ?_
              rintro _ Fx12 _ wx23 hF12 hx23 ⟨as8, ns8, cs8, rfl, rfl, hs8⟩
              refine r_move rfl rfl rfl ?_
              refine r_extract rfl rfl rfl rfl ?_
              refine r_extract rfl rfl rfl rfl ?_
              refine r_alloc ze24 rfl rfl rfl hx23 ?_
              intro b9 wx24 hx24
              refine r_store sz24 rfl hx24 rfl rfl rfl rfl (i := 0) rfl rfl rfl rfl ?_
              intro wx25 hx25
              refine r_assign rfl rfl rfl ?_
              refine r_nil ?_
              refine q_then ?_
              refine c_seq ?_
              refine c_seq ?_
              refine c_region ?_
              refine r_move rfl rfl rfl ?_
              refine r_bin rfl rfl rfl rfl rfl ?_
              refine r_move rfl rfl rfl ?_
              obtain ⟨v13, hb7, hm⟩ := bind_some hm
              refine r_mid 3 (fun a w' => wx25 = w' ∧ Has 285 a [(3, .pointer (some ⟨b2, 0, none⟩)), (4, .pointer (some ⟨b3, 0, none⟩)), (5, .pointer (some ⟨b4, 0, none⟩)), (7, .bool v1), (8, .pointer (some ⟨b5, 0, none⟩)), (10, .pointer (some ⟨b6, 0, none⟩)), (12, .pointer (some ⟨b7, 0, none⟩)), (13, .int .i64 v10.2), (14, .pointer (some ⟨b8, 0, none⟩)), (15, .int .i64 v11.2), (16, .pointer (some ⟨b9, 0, none⟩)), (17, .int .i64 v12.2), (94, .bool v13)]) ?_ ?_
              · rintro a wx26 ⟨rfl, hax6⟩
                refine rw_apply hax6 ?_
                refine r_move rfl rfl rfl ?_
                obtain ⟨v14, hb8, hm⟩ := bind_some hm
                refine r_mid 3 (fun a w' => wx25 = w' ∧ Has 285 a [(3, .pointer (some ⟨b2, 0, none⟩)), (4, .pointer (some ⟨b3, 0, none⟩)), (5, .pointer (some ⟨b4, 0, none⟩)), (7, .bool v1), (8, .pointer (some ⟨b5, 0, none⟩)), (10, .pointer (some ⟨b6, 0, none⟩)), (12, .pointer (some ⟨b7, 0, none⟩)), (14, .pointer (some ⟨b8, 0, none⟩)), (15, .int .i64 v11.2), (16, .pointer (some ⟨b9, 0, none⟩)), (17, .int .i64 v12.2), (98, .bool v14)]) ?_ ?_
                · rintro a wx27 ⟨rfl, hax7⟩
                  refine rw_apply hax7 ?_
                  refine r_move rfl rfl rfl ?_
                  obtain ⟨v15, hb9, hm⟩ := bind_some hm
                  refine r_mid 3 (fun a w' => wx25 = w' ∧ Has 285 a [(3, .pointer (some ⟨b2, 0, none⟩)), (4, .pointer (some ⟨b3, 0, none⟩)), (5, .pointer (some ⟨b4, 0, none⟩)), (7, .bool v1), (8, .pointer (some ⟨b5, 0, none⟩)), (10, .pointer (some ⟨b6, 0, none⟩)), (12, .pointer (some ⟨b7, 0, none⟩)), (14, .pointer (some ⟨b8, 0, none⟩)), (16, .pointer (some ⟨b9, 0, none⟩)), (17, .int .i64 v12.2), (102, .bool v15)]) ?_ ?_
                  · rintro a wx28 ⟨rfl, hax8⟩
                    refine rw_apply hax8 ?_
                    refine r_move rfl rfl rfl ?_
                    obtain ⟨v16, hb10, hm⟩ := bind_some hm
                    refine r_mid 3 (fun a w' => wx25 = w' ∧ Has 285 a [(3, .pointer (some ⟨b2, 0, none⟩)), (4, .pointer (some ⟨b3, 0, none⟩)), (5, .pointer (some ⟨b4, 0, none⟩)), (7, .bool v1), (8, .pointer (some ⟨b5, 0, none⟩)), (10, .pointer (some ⟨b6, 0, none⟩)), (12, .pointer (some ⟨b7, 0, none⟩)), (14, .pointer (some ⟨b8, 0, none⟩)), (16, .pointer (some ⟨b9, 0, none⟩)), (106, .bool v16)]) ?_ ?_
                    · rintro a wx29 ⟨rfl, hax9⟩
                      refine rw_apply hax9 ?_
                      refine r_move rfl rfl rfl ?_
                      obtain ⟨v17, hb11, hm⟩ := bind_some hm
                      refine r_mid 5 (fun a w' => ∃ (Fx13 : Frz), Frz.le Fx12 Fx13 ∧ HS F w [] Fx13 [.box b9 24 [.int .i64 v12.1.Sign, .slice as8 ns8 cs8], .box b8 24 [.int .i64 v11.1.Sign, .slice as7 ns7 cs7], .box b7 24 [.int .i64 v10.1.Sign, .slice as6 ns6 cs6], .box b6 24 [.int .i64 v9.1.Sign, .slice as5 ns5 cs5], .box b5 24 [.int .i64 v8.1.Sign, .slice as4 ns4 cs4], .box b4 24 [.int .i64 c1.Sign, .slice as3 ns3 cs3], .box b3 24 [.int .i64 b1.Sign, .slice as2 ns2 cs2], .box b2 24 [.int .i64 ax1.Sign, .slice as1 ns1 cs1]] w' ∧ Has 285 a [(3, .pointer (some ⟨b2, 0, none⟩)), (4, .pointer (some ⟨b3, 0, none⟩)), (5, .pointer (some ⟨b4, 0, none⟩)), (7, .bool v1), (12, .pointer (some ⟨b7, 0, none⟩)), (14, .pointer (some ⟨b8, 0, none⟩)), (16, .pointer (some ⟨b9, 0, none⟩)), (112, .bool v17)]) ?_ ?_
                      · rintro a wx30 ⟨Fx13, hF13, hx26, hax10⟩
                        refine rw_apply hax10 ?_
                        refine r_move rfl rfl rfl ?_
                        obtain ⟨v18, hb12, hm⟩ := bind_some hm
                        refine r_mid 5 (fun a w' => ∃ (Fx14 : Frz), Frz.le Fx13 Fx14 ∧ HS F w [] Fx14 [.box b9 24 [.int .i64 v12.1.Sign, .slice as8 ns8 cs8], .box b8 24 [.int .i64 v11.1.Sign, .slice as7 ns7 cs7], .box b7 24 [.int .i64 v10.1.Sign, .slice as6 ns6 cs6], .box b6 24 [.int .i64 v9.1.Sign, .slice as5 ns5 cs5], .box b5 24 [.int .i64 v8.1.Sign, .slice as4 ns4 cs4], .box b4 24 [.int .i64 c1.Sign, .slice as3 ns3 cs3], .box b3 24 [.int .i64 b1.Sign, .slice as2 ns2 cs2], .box b2 24 [.int .i64 ax1.Sign, .slice as1 ns1 cs1]] w' ∧ Has 285 a [(3, .pointer (some ⟨b2, 0, none⟩)), (4, .pointer (some ⟨b3, 0, none⟩)), (5, .pointer (some ⟨b4, 0, none⟩)), (7, .bool v1), (12, .pointer (some ⟨b7, 0, none⟩)), (14, .pointer (some ⟨b8, 0, none⟩)), (16, .pointer (some ⟨b9, 0, none⟩)), (118, .bool v18)]) ?_ ?_
                        · rintro a wx31 ⟨Fx14, hF14, hx27, hax11⟩
                          refine rw_apply hax11 ?_
                          refine r_nil ?_
                          refine q_then ?_
                          rcases cond_some hm with ⟨hb13, hm⟩ | ⟨hb13, hm⟩
                          · refine c_lit 118 rfl hb13 ?_
                            refine c_true rfl ?_
                            refine c_seq ?_
                            refine c_region ?_
                            refine r_assign rfl rfl rfl ?_
                            refine r_nil ?_
                            refine q_then ?_
                            refine c_ret ?_
                            refine q_then_ret ?_
                            refine b_ret1 rfl rfl ?_
                            obtain rfl := Option.some.inj hm
                            exact ⟨_, _, _, rfl, hx27.pick [] (by decide) rfl, rfl, rfl⟩
                          · refine c_lit 118 rfl hb13 ?_
                            refine c_false rfl ?_
                            refine c_skip ?_
                            refine q_then ?_
                            refine c_seq ?_
                            refine c_region ?_
                            refine r_loadBA (cs' := [.int .i64 ax1.Sign, .slice as1 ns1 cs1]) ag24 sz24 rfl rfl hx27 rfl (i := 7) rfl rfl rfl ?_
                            refine r_loadBA (cs' := [.int .i64 b1.Sign, .slice as2 ns2 cs2]) ag24 sz24 rfl rfl hx27 rfl (i := 6) rfl rfl rfl ?_
                            obtain ⟨v19, hv8, hm⟩ := bind_some hm
                            refine r_callG0 ent16 rfl rfl rfl rfl hx27 (big_Mul_ok _ _ _ _ hv8 hx27.sat ((((((((((((((hs1.mono hF1).mono hF2).mono hF3).mono hF4).mono hF5).mono hF6).mono hF7).mono hF8).mono hF9).mono hF10).mono hF11).mono hF12).mono hF13).mono hF14) ((((((((((((((hs2.mono hF1).mono hF2).mono hF3).mono hF4).mono hF5).mono hF6).mono hF7).mono hF8).mono hF9).mono hF10).mono hF11).mono hF12).mono hF13).mono hF14)) ?_
                            rintro _ Fx15 _ wx32 hF15 hx28 ⟨as9, ns9, cs9, rfl, rfl, hs9⟩
                            refine r_move rfl rfl rfl ?_
                            refine r_extract rfl rfl rfl rfl ?_
                            refine r_extract rfl rfl rfl rfl ?_
                            refine r_alloc ze24 rfl rfl rfl hx28 ?_
                            intro b10 wx33 hx29
                            refine r_store sz24 rfl hx29 rfl rfl rfl rfl (i := 0) rfl rfl rfl rfl ?_
                            intro wx34 hx30
                            refine r_assign rfl rfl rfl ?_
                            refine r_nil ?_
                            refine q_then ?_
                            refine c_seq ?_
                            refine c_region ?_
                            refine r_loadBA (cs' := [.int .i64 b1.Sign, .slice as2 ns2 cs2]) ag24 sz24 rfl rfl hx30 rfl (i := 7) rfl rfl rfl ?_
                            refine r_loadBA (cs' := [.int .i64 ax1.Sign, .slice as1 ns1 cs1]) ag24 sz24 rfl rfl hx30 rfl (i := 8) rfl rfl rfl ?_
                            obtain ⟨v20, hv9, hm⟩ := bind_some hm
                            refine r_callG0 ent16 rfl rfl rfl rfl hx30 (big_Mul_ok _ _ _ _ hv9 hx30.sat (((((((((((((((hs2.mono hF1).mono hF2).mono hF3).mono hF4).mono hF5).mono hF6).mono hF7).mono hF8).mono hF9).mono hF10).mono hF11).mono hF12).mono hF13).mono hF14).mono hF15) (((((((((((((((hs1.mono hF1).mono hF2).mono hF3).mono hF4).mono hF5).mono hF6).mono hF7).mono hF8).mono hF9).mono hF10).mono hF11).mono hF12).mono hF13).mono hF14).mono hF15)) ?_
                            rintro _ Fx16 _ wx35 hF16 hx31 ⟨as10, ns10, cs10, rfl, rfl, hs10⟩
                            refine r_move rfl rfl rfl ?_
                            refine r_extract rfl rfl rfl rfl ?_
                            refine r_extract rfl rfl rfl rfl ?_
                            refine r_alloc ze24 rfl rfl rfl hx31 ?_
                            intro b11 wx36 hx32
                            refine r_store sz24 rfl hx32 rfl rfl rfl rfl (i := 0) rfl rfl rfl rfl ?_
                            intro wx37 hx33
                            refine r_assign rfl rfl rfl ?_
                            refine r_nil ?_
                            refine q_then ?_
                            refine c_seq ?_
                            refine c_region ?_
                            refine r_loadBA (cs' := [.int .i64 b1.Sign, .slice as2 ns2 cs2]) ag24 sz24 rfl rfl hx33 rfl (i := 8) rfl rfl rfl ?_
                            refine r_loadBA (cs' := [.int .i64 c1.Sign, .slice as3 ns3 cs3]) ag24 sz24 rfl rfl hx33 rfl (i := 7) rfl rfl rfl ?_
                            obtain ⟨v21, hv10, hm⟩ := bind_some hm
                            refine r_callG0 ent16 rfl rfl rfl rfl hx33 (big_Mul_ok _ _ _ _ hv10 hx33.sat ((((((((((((((((hs2.mono hF1).mono hF2).mono hF3).mono hF4).mono hF5).mono hF6).mono hF7).mono hF8).mono hF9).mono hF10).mono hF11).mono hF12).mono hF13).mono hF14).mono hF15).mono hF16) ((((((((((((((((hs3.mono hF1).mono hF2).mono hF3).mono hF4).mono hF5).mono hF6).mono hF7).mono hF8).mono hF9).mono hF10).mono hF11).mono hF12).mono hF13).mono hF14).mono hF15).mono hF16)) ?_
                            rintro _ Fx17 _ wx38 hF17 hx34 ⟨as11, ns11, cs11, rfl, rfl, hs11⟩
                            refine r_move rfl rfl rfl ?_
                            refine r_extract rfl rfl rfl rfl ?_
                            refine r_extract rfl rfl rfl rfl ?_
                            refine r_alloc ze24 rfl rfl rfl hx34 ?_
                            intro b12 wx39 hx35
                            refine r_store sz24 rfl hx35 rfl rfl rfl rfl (i := 0) rfl rfl rfl rfl ?_
                            intro wx40 hx36
                            refine r_assign rfl rfl rfl ?_
                            refine r_nil ?_
                            refine q_then ?_
                            refine c_seq ?_
                            refine c_region ?_
                            refine r_loadBA (cs' := [.int .i64 v19.1.Sign, .slice as9 ns9 cs9]) ag24 sz24 rfl rfl hx36 rfl (i := 2) rfl rfl rfl ?_
                            refine r_loadBA (cs' := [.int .i64 c1.Sign, .slice as3 ns3 cs3]) ag24 sz24 rfl rfl hx36 rfl (i := 8) rfl rfl rfl ?_
                            obtain ⟨v22, hv11, hm⟩ := bind_some hm
                            refine r_callG0 ent16 rfl rfl rfl rfl hx36 (big_Mul_ok _ _ _ _ hv11 hx36.sat ((hs9.mono hF16).mono hF17) (((((((((((((((((hs3.mono hF1).mono hF2).mono hF3).mono hF4).mono hF5).mono hF6).mono hF7).mono hF8).mono hF9).mono hF10).mono hF11).mono hF12).mono hF13).mono hF14).mono hF15).mono hF16).mono hF17)) ?_
                            rintro _ Fx18 _ wx41 hF18 hx37 ⟨as12, ns12, cs12, rfl, rfl, hs12⟩
                            refine r_move rfl rfl rfl ?_
                            refine r_extract rfl rfl rfl rfl ?_
                            refine r_extract rfl rfl rfl rfl ?_
                            refine r_store sz24 rfl hx37 rfl rfl rfl rfl (i := 4) rfl rfl rfl rfl ?_
                            intro wx42 hx38
                            refine r_assign rfl rfl rfl ?_
                            refine r_nil ?_
                            refine q_then ?_
                            refine c_seq ?_
                            refine c_region ?_
                            refine r_loadBA (cs' := [.int .i64 ax1.Sign, .slice as1 ns1 cs1]) ag24 sz24 rfl rfl hx38 rfl (i := 10) rfl rfl rfl ?_
                            refine r_loadBA (cs' := [.int .i64 v21.1.Sign, .slice as11 ns11 cs11]) ag24 sz24 rfl rfl hx38 rfl (i := 0) rfl rfl rfl ?_
                            obtain ⟨v23, hv12, hm⟩ := bind_some hm
                            refine r_callG0 ent16 rfl rfl rfl rfl hx38 (big_Mul_ok _ _ _ _ hv12 hx38.sat ((((((((((((((((((hs1.mono hF1).mono hF2).mono hF3).mono hF4).mono hF5).mono hF6).mono hF7).mono hF8).mono hF9).mono hF10).mono hF11).mono hF12).mono hF13).mono hF14).mono hF15).mono hF16).mono hF17).mono hF18) (hs11.mono hF18)) ?_
                            rintro _ Fx19 _ wx43 hF19 hx39 ⟨as13, ns13, cs13, rfl, rfl, hs13⟩
                            refine r_move rfl rfl rfl ?_
                            refine r_extract rfl rfl rfl rfl ?_
                            refine r_extract rfl rfl rfl rfl ?_
                            refine r_store sz24 rfl hx39 rfl rfl rfl rfl (i := 3) rfl rfl rfl rfl ?_
                            intro wx44 hx40
                            refine r_assign rfl rfl rfl ?_
                            refine r_nil ?_
                            refine q_then ?_
                            refine c_seq ?_
                            refine c_seq ?_
                            refine c_region ?_
                            refine r_move rfl rfl rfl ?_
                            refine r_bin rfl rfl rfl rfl rfl ?_
                            refine r_move rfl rfl rfl ?_
                            obtain ⟨v24, hb14, hm⟩ := bind_some hm
                            refine r_mid 3 (fun a w' => wx44 = w' ∧ Has 285 a [(3, .pointer (some ⟨b2, 0, none⟩)), (4, .pointer (some ⟨b3, 0, none⟩)), (5, .pointer (some ⟨b4, 0, none⟩)), (7, .bool v1), (12, .pointer (some ⟨b7, 0, none⟩)), (13, .int .i64 v21.2), (14, .pointer (some ⟨b8, 0, none⟩)), (15, .int .i64 v22.2), (16, .pointer (some ⟨b9, 0, none⟩)), (17, .int .i64 v23.2), (18, .pointer (some ⟨b10, 0, none⟩)), (19, .pointer (some ⟨b11, 0, none⟩)), (154, .bool v24)]) ?_ ?_
                            · rintro a wx45 ⟨rfl, hax12⟩
                              refine rw_apply hax12 ?_
                              refine r_move rfl rfl rfl ?_
                              obtain ⟨v25, hb15, hm⟩ := bind_some hm
                              refine r_mid 3 (fun a w' => wx44 = w' ∧ Has 285 a [(3, .pointer (some ⟨b2, 0, none⟩)), (4, .pointer (some ⟨b3, 0, none⟩)), (5, .pointer (some ⟨b4, 0, none⟩)), (7, .bool v1), (12, .pointer (some ⟨b7, 0, none⟩)), (14, .pointer (some ⟨b8, 0, none⟩)), (15, .int .i64 v22.2), (16, .pointer (some ⟨b9, 0, none⟩)), (17, .int .i64 v23.2), (18, .pointer (some ⟨b10, 0, none⟩)), (19, .pointer (some ⟨b11, 0, none⟩)), (158, .bool v25)]) ?_ ?_
                              · rintro a wx46 ⟨rfl, hax13⟩
                                refine rw_apply hax13 ?_
                                refine r_move rfl rfl rfl ?_
                                obtain ⟨v26, hb16, hm⟩ := bind_some hm
                                refine r_mid 3 (fun a w' => wx44 = w' ∧ Has 285 a [(3, .pointer (some ⟨b2, 0, none⟩)), (4, .pointer (some ⟨b3, 0, none⟩)), (5, .pointer (some ⟨b4, 0, none⟩)), (7, .bool v1), (12, .pointer (some ⟨b7, 0, none⟩)), (14, .pointer (some ⟨b8, 0, none⟩)), (16, .pointer (some ⟨b9, 0, none⟩)), (17, .int .i64 v23.2), (18, .pointer (some ⟨b10, 0, none⟩)), (19, .pointer (some ⟨b11, 0, none⟩)), (162, .bool v26)]) ?_ ?_
                                · rintro a wx47 ⟨rfl, hax14⟩
                                  refine rw_apply hax14 ?_
                                  refine r_move rfl rfl rfl ?_
                                  obtain ⟨v27, hb17, hm⟩ := bind_some hm
                                  refine r_mid 3 (fun a w' => wx44 = w' ∧ Has 285 a [(3, .pointer (some ⟨b2, 0, none⟩)), (4, .pointer (some ⟨b3, 0, none⟩)), (5, .pointer (some ⟨b4, 0, none⟩)), (7, .bool v1), (12, .pointer (some ⟨b7, 0, none⟩)), (14, .pointer (some ⟨b8, 0, none⟩)), (16, .pointer (some ⟨b9, 0, none⟩)), (18, .pointer (some ⟨b10, 0, none⟩)), (19, .pointer (some ⟨b11, 0, none⟩)), (166, .bool v27)]) ?_ ?_
                                  · rintro a wx48 ⟨rfl, hax15⟩
                                    refine rw_apply hax15 ?_
                                    refine r_move rfl rfl rfl ?_
                                    obtain ⟨v28, hb18, hm⟩ := bind_some hm
                                    refine r_mid 5 (fun a w' => ∃ (Fx20 : Frz), Frz.le Fx19 Fx20 ∧ HS F w [] Fx20 [.box b12 24 [.int .i64 v21.1.Sign, .slice as11 ns11 cs11], .box b11 24 [.int .i64 v20.1.Sign, .slice as10 ns10 cs10], .box b10 24 [.int .i64 v19.1.Sign, .slice as9 ns9 cs9], .box b9 24 [.int .i64 v23.1.Sign, .slice as13 ns13 cs13], .box b8 24 [.int .i64 v22.1.Sign, .slice as12 ns12 cs12], .box b7 24 [.int .i64 v10.1.Sign, .slice as6 ns6 cs6], .box b6 24 [.int .i64 v9.1.Sign, .slice as5 ns5 cs5], .box b5 24 [.int .i64 v8.1.Sign, .slice as4 ns4 cs4], .box b4 24 [.int .i64 c1.Sign, .slice as3 ns3 cs3], .box b3 24 [.int .i64 b1.Sign, .slice as2 ns2 cs2], .box b2 24 [.int .i64 ax1.Sign, .slice as1 ns1 cs1]] w' ∧ Has 285 a [(3, .pointer (some ⟨b2, 0, none⟩)), (4, .pointer (some ⟨b3, 0, none⟩)), (5, .pointer (some ⟨b4, 0, none⟩)), (7, .bool v1), (12, .pointer (some ⟨b7, 0, none⟩)), (14, .pointer (some ⟨b8, 0, none⟩)), (16, .pointer (some ⟨b9, 0, none⟩)), (18, .pointer (some ⟨b10, 0, none⟩)), (172, .bool v28)]) ?_ ?_
                                    · rintro a wx49 ⟨Fx20, hF20, hx41, hax16⟩
                                      refine rw_apply hax16 ?_
                                      refine r_move rfl rfl rfl ?_
                                      obtain ⟨v29, hb19, hm⟩ := bind_some hm
                                      refine r_mid 5 (fun a w' => ∃ (Fx21 : Frz), Frz.le Fx20 Fx21 ∧ HS F w [] Fx21 [.box b12 24 [.int .i64 v21.1.Sign, .slice as11 ns11 cs11], .box b11 24 [.int .i64 v20.1.Sign, .slice as10 ns10 cs10], .box b10 24 [.int .i64 v19.1.Sign, .slice as9 ns9 cs9], .box b9 24 [.int .i64 v23.1.Sign, .slice as13 ns13 cs13], .box b8 24 [.int .i64 v22.1.Sign, .slice as12 ns12 cs12], .box b7 24 [.int .i64 v10.1.Sign, .slice as6 ns6 cs6], .box b6 24 [.int .i64 v9.1.Sign, .slice as5 ns5 cs5], .box b5 24 [.int .i64 v8.1.Sign, .slice as4 ns4 cs4], .box b4 24 [.int .i64 c1.Sign, .slice as3 ns3 cs3], .box b3 24 [.int .i64 b1.Sign, .slice as2 ns2 cs2], .box b2 24 [.int .i64 ax1.Sign, .slice as1 ns1 cs1]] w' ∧ Has 285 a [(3, .pointer (some ⟨b2, 0, none⟩)), (4, .pointer (some ⟨b3, 0, none⟩)), (5, .pointer (some ⟨b4, 0, none⟩)), (7, .bool v1), (12, .pointer (some ⟨b7, 0, none⟩)), (18, .pointer (some ⟨b10, 0, none⟩)), (178, .bool v29)]) ?_ ?_
                                      · rintro a wx50 ⟨Fx21, hF21, hx42, hax17⟩
                                        refine rw_apply hax17 ?_
                                        refine r_nil ?_
                                        refine q_then ?_
                                        rcases cond_some hm with ⟨hb20, hm⟩ | ⟨hb20, hm⟩
                                        · refine c_lit 178 rfl hb20 ?_
                                          refine c_true rfl ?_
                                          refine c_seq ?_
                                          refine c_region ?_
                                          refine r_assign rfl rfl rfl ?_
                                          refine r_nil ?_
                                          refine q_then ?_
                                          refine c_ret ?_
                                          refine q_then_ret ?_
                                          refine b_ret1 rfl rfl ?_
                                          obtain rfl := Option.some.inj hm
                                          exact ⟨_, _, _, rfl, hx42.pick [] (by decide) rfl, rfl, rfl⟩
                                        · refine c_lit 178 rfl hb20 ?_
                                          refine c_false rfl ?_
                                          refine c_skip ?_
                                          refine q_then ?_
                                          refine c_seq ?_
                                          refine c_region ?_
                                          refine r_loadBA (cs' := [.int .i64 ax1.Sign, .slice as1 ns1 cs1]) ag24 sz24 rfl rfl hx42 rfl (i := 10) rfl rfl rfl ?_
                                          refine r_loadBA (cs' := [.int .i64 v10.1.Sign, .slice as6 ns6 cs6]) ag24 sz24 rfl rfl hx42 rfl (i := 5) rfl rfl rfl ?_
                                          obtain ⟨v30, hv13, hm⟩ := bind_some hm
                                          refine r_callG0 ent16 rfl rfl rfl rfl hx42 (big_Mul_ok _ _ _ _ hv13 hx42.sat (((((((((((((((((((((hs1.mono hF1).mono hF2).mono hF3).mono hF4).mono hF5).mono hF6).mono hF7).mono hF8).mono hF9).mono hF10).mono hF11).mono hF12).mono hF13).mono hF14).mono hF15).mono hF16).mono hF17).mono hF18).mono hF19).mono hF20).mono hF21) (((((((((((hs6.mono hF11).mono hF12).mono hF13).mono hF14).mono hF15).mono hF16).mono hF17).mono hF18).mono hF19).mono hF20).mono hF21)) ?_
                                          rintro _ Fx22 _ wx51 hF22 hx43 ⟨as14, ns14, cs14, rfl, rfl, hs14⟩
                                          refine r_move rfl rfl rfl ?_
                                          refine r_extract rfl rfl rfl rfl ?_
                                          refine r_extract rfl rfl rfl rfl ?_
                                          refine r_alloc ze24 rfl rfl rfl hx43 ?_
                                          intro b13 wx52 hx44
                                          refine r_store sz24 rfl hx44 rfl rfl rfl rfl (i := 0) rfl rfl rfl rfl ?_
                                          intro wx53 hx45
                                          refine r_assign rfl rfl rfl ?_
                                          refine r_nil ?_
                                          refine q_then ?_
                                          refine c_seq ?_
                                          refine c_region ?_
                                          refine r_loadBA (cs' := [.int .i64 ax1.Sign, .slice as1 ns1 cs1]) ag24 sz24 rfl rfl hx45 rfl (i := 11) rfl rfl rfl ?_
                                          refine r_loadBA (cs' := [.int .i64 c1.Sign, .slice as3 ns3 cs3]) ag24 sz24 rfl rfl hx45 rfl (i := 9) rfl rfl rfl ?_
                                          obtain ⟨v31, hv14, hm⟩ := bind_some hm
                                          refine r_callG0 ent16 rfl rfl rfl rfl hx45 (big_Mul_ok _ _ _ _ hv14 hx45.sat ((((((((((((((((((((((hs1.mono hF1).mono hF2).mono hF3).mono hF4).mono hF5).mono hF6).mono hF7).mono hF8).mono hF9).mono hF10).mono hF11).mono hF12).mono hF13).mono hF14).mono hF15).mono hF16).mono hF17).mono hF18).mono hF19).mono hF20).mono hF21).mono hF22) ((((((((((((((((((((((hs3.mono hF1).mono hF2).mono hF3).mono hF4).mono hF5).mono hF6).mono hF7).mono hF8).mono hF9).mono hF10).mono hF11).mono hF12).mono hF13).mono hF14).mono hF15).mono hF16).mono hF17).mono hF18).mono hF19).mono hF20).mono hF21).mono hF22)) ?_
                                          rintro _ Fx23 _ wx54 hF23 hx46 ⟨as15, ns15, cs15, rfl, rfl, hs15⟩
                                          refine r_move rfl rfl rfl ?_
                                          refine r_extract rfl rfl rfl rfl ?_
                                          refine r_extract rfl rfl rfl rfl ?_
                                          refine r_alloc ze24 rfl rfl rfl hx46 ?_
                                          intro b14 wx55 hx47
                                          refine r_store sz24 rfl hx47 rfl rfl rfl rfl (i := 0) rfl rfl rfl rfl ?_
                                          intro wx56 hx48
                                          refine r_assign rfl rfl rfl ?_
                                          refine r_nil ?_
                                          refine q_then ?_
                                          refine c_seq ?_
                                          refine c_region ?_
                                          refine r_loadBA (cs' := [.int .i64 v19.1.Sign, .slice as9 ns9 cs9]) ag24 sz24 rfl rfl hx48 rfl (i := 4) rfl rfl rfl ?_
                                          refine r_loadBA (cs' := [.int .i64 v31.1.Sign, .slice as15 ns15 cs15]) ag24 sz24 rfl rfl hx48 rfl (i := 0) rfl rfl rfl ?_
                                          obtain ⟨v32, hv15, hm⟩ := bind_some hm
                                          refine r_callG0 ent20 rfl rfl rfl rfl hx48 (big_Add_ok _ _ _ _ hv15 hx48.sat ((((((((hs9.mono hF16).mono hF17).mono hF18).mono hF19).mono hF20).mono hF21).mono hF22).mono hF23) hs15) ?_
                                          rintro _ Fx24 _ wx57 hF24 hx49 ⟨as16, ns16, cs16, rfl, rfl, hs16⟩
                                          refine r_move rfl rfl rfl ?_
                                          refine r_extract rfl rfl rfl rfl ?_
                                          refine r_extract rfl rfl rfl rfl ?_
                                          refine r_alloc ze24 rfl rfl rfl hx49 ?_
                                          intro b15 wx58 hx50
                                          refine r_store sz24 rfl hx50 rfl rfl rfl rfl (i := 0) rfl rfl rfl rfl ?_
                                          intro wx59 hx51
                                          refine r_assign rfl rfl rfl ?_
                                          refine r_nil ?_
                                          refine q_then ?_
                                          refine c_seq ?_
                                          refine c_region ?_
                                          refine r_loadBA (cs' := [.int .i64 ax1.Sign, .slice as1 ns1 cs1]) ag24 sz24 rfl rfl hx51 rfl (i := 13) rfl rfl rfl ?_
                                          refine r_loadBA (cs' := [.int .i64 b1.Sign, .slice as2 ns2 cs2]) ag24 sz24 rfl rfl hx51 rfl (i := 12) rfl rfl rfl ?_
                                          obtain ⟨v33, hv16, hm⟩ := bind_some hm
                                          refine r_callG0 ent22 rfl rfl rfl rfl hx51 (big_Sub_ok _ _ _ _ hv16 hx51.sat ((((((((((((((((((((((((hs1.mono hF1).mono hF2).mono hF3).mono hF4).mono hF5).mono hF6).mono hF7).mono hF8).mono hF9).mono hF10).mono hF11).mono hF12).mono hF13).mono hF14).mono hF15).mono hF16).mono hF17).mono hF18).mono hF19).mono hF20).mono hF21).mono hF22).mono hF23).mono hF24) ((((((((((((((((((((((((hs2.mono hF1).mono hF2).mono hF3).mono hF4).mono hF5).mono hF6).mono hF7).mono hF8).mono hF9).mono hF10).mono hF11).mono hF12).mono hF13).mono hF14).mono hF15).mono hF16).mono hF17).mono hF18).mono hF19).mono hF20).mono hF21).mono hF22).mono hF23).mono hF24)) ?_
                                          rintro _ Fx25 _ wx60 hF25 hx52 ⟨as17, ns17, cs17, rfl, rfl, hs17⟩
                                          refine r_move rfl rfl rfl ?_
                                          refine r_extract rfl rfl rfl rfl ?_
                                          refine r_extract rfl rfl rfl rfl ?_
                                          refine r_alloc ze24 rfl rfl rfl hx52 ?_
                                          intro b16 wx61 hx53
                                          refine r_store sz24 rfl hx53 rfl rfl rfl rfl (i := 0) rfl rfl rfl rfl ?_
                                          intro wx62 hx54
                                          refine r_assign rfl rfl rfl ?_
                                          refine r_nil ?_
                                          refine q_then ?_
                                          refine c_seq ?_
                                          refine c_region ?_
                                          refine r_loadBA (cs' := [.int .i64 v33.1.Sign, .slice as17 ns17 cs17]) ag24 sz24 rfl rfl hx54 rfl (i := 0) rfl rfl rfl ?_
                                          refine r_loadBA (cs' := [.int .i64 b1.Sign, .slice as2 ns2 cs2]) ag24 sz24 rfl rfl hx54 rfl (i := 13) rfl rfl rfl ?_
                                          obtain ⟨v34, hv17, hm⟩ := bind_some hm
                                          refine r_callG0 ent20 rfl rfl rfl rfl hx54 (big_Add_ok _ _ _ _ hv17 hx54.sat hs17 (((((((((((((((((((((((((hs2.mono hF1).mono hF2).mono hF3).mono hF4).mono hF5).mono hF6).mono hF7).mono hF8).mono hF9).mono hF10).mono hF11).mono hF12).mono hF13).mono hF14).mono hF15).mono hF16).mono hF17).mono hF18).mono hF19).mono hF20).mono hF21).mono hF22).mono hF23).mono hF24).mono hF25)) ?_
                                          rintro _ Fx26 _ wx63 hF26 hx55 ⟨as18, ns18, cs18, rfl, rfl, hs18⟩
                                          refine r_move rfl rfl rfl ?_
                                          refine r_extract rfl rfl rfl rfl ?_
                                          refine r_extract rfl rfl rfl rfl ?_
                                          refine r_alloc ze24 rfl rfl rfl hx55 ?_
                                          intro b17 wx64 hx56
                                          refine r_store sz24 rfl hx56 rfl rfl rfl rfl (i := 0) rfl rfl rfl rfl ?_
                                          intro wx65 hx57
                                          refine r_assign rfl rfl rfl ?_
                                          refine r_nil ?_
                                          refine q_then ?_
                                          refine c_seq ?_
                                          refine c_seq ?_
                                          refine c_region ?_
                                          refine r_move rfl rfl rfl ?_
                                          refine r_bin rfl rfl rfl rfl rfl ?_
                                          refine r_move rfl rfl rfl ?_
                                          obtain ⟨v35, hb21, hm⟩ := bind_some hm
                                          refine r_mid 3 (fun a w' => wx65 = w' ∧ Has 285 a [(3, .pointer (some ⟨b2, 0, none⟩)), (7, .bool v1), (13, .int .i64 v32.2), (15, .int .i64 v33.2), (17, .int .i64 v34.2), (21, .pointer (some ⟨b13, 0, none⟩)), (23, .pointer (some ⟨b15, 0, none⟩)), (25, .pointer (some ⟨b17, 0, none⟩)), (214, .bool v35)]) ?_ ?_
                                          · rintro a wx66 ⟨rfl, hax18⟩
                                            refine rw_apply hax18 ?_
                                            refine r_move rfl rfl rfl ?_
                                            obtain ⟨v36, hb22, hm⟩ := bind_some hm
                                            refine r_mid 3 (fun a w' => wx65 = w' ∧ Has 285 a [(3, .pointer (some ⟨b2, 0, none⟩)), (7, .bool v1), (15, .int .i64 v33.2), (17, .int .i64 v34.2), (21, .pointer (some ⟨b13, 0, none⟩)), (23, .pointer (some ⟨b15, 0, none⟩)), (25, .pointer (some ⟨b17, 0, none⟩)), (218, .bool v36)]) ?_ ?_
                                            · rintro a wx67 ⟨rfl, hax19⟩
                                              refine rw_apply hax19 ?_
                                              refine r_move rfl rfl rfl ?_
                                              obtain ⟨v37, hb23, hm⟩ := bind_some hm
                                              refine r_mid 3 (fun a w' => wx65 = w' ∧ Has 285 a [(3, .pointer (some ⟨b2, 0, none⟩)), (7, .bool v1), (17, .int .i64 v34.2), (21, .pointer (some ⟨b13, 0, none⟩)), (23, .pointer (some ⟨b15, 0, none⟩)), (25, .pointer (some ⟨b17, 0, none⟩)), (222, .bool v37)]) ?_ ?_
                                              · rintro a wx68 ⟨rfl, hax20⟩
                                                refine rw_apply hax20 ?_
                                                refine r_move rfl rfl rfl ?_
                                                obtain ⟨v38, hb24, hm⟩ := bind_some hm
                                                refine r_mid 3 (fun a w' => wx65 = w' ∧ Has 285 a [(3, .pointer (some ⟨b2, 0, none⟩)), (7, .bool v1), (21, .pointer (some ⟨b13, 0, none⟩)), (23, .pointer (some ⟨b15, 0, none⟩)), (25, .pointer (some ⟨b17, 0, none⟩)), (226, .bool v38)]) ?_ ?_
                                                · rintro a wx69 ⟨rfl, hax21⟩
                                                  refine rw_apply hax21 ?_
                                                  refine r_move rfl rfl rfl ?_
                                                  obtain ⟨v39, hb25, hm⟩ := bind_some hm
                                                  refine r_mid 5 (fun a w' => ∃ (Fx27 : Frz), Frz.le Fx26 Fx27 ∧ HS F w [] Fx27 [.box b17 24 [.int .i64 v34.1.Sign, .slice as18 ns18 cs18], .box b16 24 [.int .i64 v33.1.Sign, .slice as17 ns17 cs17], .box b15 24 [.int .i64 v32.1.Sign, .slice as16 ns16 cs16], .box b14 24 [.int .i64 v31.1.Sign, .slice as15 ns15 cs15], .box b13 24 [.int .i64 v30.1.Sign, .slice as14 ns14 cs14], .box b12 24 [.int .i64 v21.1.Sign, .slice as11 ns11 cs11], .box b11 24 [.int .i64 v20.1.Sign, .slice as10 ns10 cs10], .box b10 24 [.int .i64 v19.1.Sign, .slice as9 ns9 cs9], .box b9 24 [.int .i64 v23.1.Sign, .slice as13 ns13 cs13], .box b8 24 [.int .i64 v22.1.Sign, .slice as12 ns12 cs12], .box b7 24 [.int .i64 v10.1.Sign, .slice as6 ns6 cs6], .box b6 24 [.int .i64 v9.1.Sign, .slice as5 ns5 cs5], .box b5 24 [.int .i64 v8.1.Sign, .slice as4 ns4 cs4], .box b4 24 [.int .i64 c1.Sign, .slice as3 ns3 cs3], .box b3 24 [.int .i64 b1.Sign, .slice as2 ns2 cs2], .box b2 24 [.int .i64 ax1.Sign, .slice as1 ns1 cs1]] w' ∧ Has 285 a [(3, .pointer (some ⟨b2, 0, none⟩)), (7, .bool v1), (25, .pointer (some ⟨b17, 0, none⟩)), (232, .bool v39)]) ?_ ?_
                                                  · rintro a wx70 ⟨Fx27, hF27, hx58, hax22⟩
                                                    refine rw_apply hax22 ?_
                                                    refine r_move rfl rfl rfl ?_
                                                    obtain ⟨v40, hb26, hm⟩ := bind_some hm
                                                    refine r_mid 5 (fun a w' => ∃ (Fx28 : Frz), Frz.le Fx27 Fx28 ∧ HS F w [] Fx28 [.box b17 24 [.int .i64 v34.1.Sign, .slice as18 ns18 cs18], .box b16 24 [.int .i64 v33.1.Sign, .slice as17 ns17 cs17], .box b15 24 [.int .i64 v32.1.Sign, .slice as16 ns16 cs16], .box b14 24 [.int .i64 v31.1.Sign, .slice as15 ns15 cs15], .box b13 24 [.int .i64 v30.1.Sign, .slice as14 ns14 cs14], .box b12 24 [.int .i64 v21.1.Sign, .slice as11 ns11 cs11], .box b11 24 [.int .i64 v20.1.Sign, .slice as10 ns10 cs10], .box b10 24 [.int .i64 v19.1.Sign, .slice as9 ns9 cs9], .box b9 24 [.int .i64 v23.1.Sign, .slice as13 ns13 cs13], .box b8 24 [.int .i64 v22.1.Sign, .slice as12 ns12 cs12], .box b7 24 [.int .i64 v10.1.Sign, .slice as6 ns6 cs6], .box b6 24 [.int .i64 v9.1.Sign, .slice as5 ns5 cs5], .box b5 24 [.int .i64 v8.1.Sign, .slice as4 ns4 cs4], .box b4 24 [.int .i64 c1.Sign, .slice as3 ns3 cs3], .box b3 24 [.int .i64 b1.Sign, .slice as2 ns2 cs2], .box b2 24 [.int .i64 ax1.Sign, .slice as1 ns1 cs1]] w' ∧ Has 285 a [(3, .pointer (some ⟨b2, 0, none⟩)), (7, .bool v1), (238, .bool v40)]) ?_ ?_
                                                    · rintro a wx71 ⟨Fx28, hF28, hx59, hax23⟩
                                                      refine rw_apply hax23 ?_
                                                      refine r_nil ?_
                                                      refine q_then ?_
                                                      rcases cond_some hm with ⟨hb27, hm⟩ | ⟨hb27, hm⟩
                                                      · refine c_lit 238 rfl hb27 ?_
                                                        refine c_true rfl ?_
                                                        refine c_seq ?_
                                                        refine c_region ?_
                                                        refine r_assign rfl rfl rfl ?_
                                                        refine r_nil ?_
                                                        refine q_then ?_
                                                        refine c_ret ?_
                                                        refine q_then_ret ?_
                                                        refine b_ret1 rfl rfl ?_
                                                        obtain rfl := Option.some.inj hm
                                                        exact ⟨_, _, _, rfl, hx59.pick [] (by decide) rfl, rfl, rfl⟩
                                                      · refine c_lit 238 rfl hb27 ?_
                                                        refine c_false rfl ?_
                                                        refine c_skip ?_
                                                        refine q_then ?_
                                                        obtain ⟨⟨e11, f1, f2⟩, hb28, hm⟩ := bind_some hm
                                                        refine c_mid (fun a w' => ∃ (Fx29 : Frz) (b18 : Nat) (as19 : Option Addr) (ns19 : Nat) (cs19 : Nat), Frz.le Fx28 Fx29 ∧ HS F w [] Fx29 [.box b18 24 [.int .i64 f1, .slice as19 ns19 cs19], .box b17 24 [.int .i64 v34.1.Sign, .slice as18 ns18 cs18], .box b16 24 [.int .i64 v33.1.Sign, .slice as17 ns17 cs17], .box b15 24 [.int .i64 v32.1.Sign, .slice as16 ns16 cs16], .box b14 24 [.int .i64 v31.1.Sign, .slice as15 ns15 cs15], .box b13 24 [.int .i64 v30.1.Sign, .slice as14 ns14 cs14], .box b12 24 [.int .i64 v21.1.Sign, .slice as11 ns11 cs11], .box b11 24 [.int .i64 v20.1.Sign, .slice as10 ns10 cs10], .box b10 24 [.int .i64 v19.1.Sign, .slice as9 ns9 cs9], .box b9 24 [.int .i64 v23.1.Sign, .slice as13 ns13 cs13], .box b8 24 [.int .i64 v22.1.Sign, .slice as12 ns12 cs12], .box b7 24 [.int .i64 v10.1.Sign, .slice as6 ns6 cs6], .box b6 24 [.int .i64 v9.1.Sign, .slice as5 ns5 cs5], .box b5 24 [.int .i64 v8.1.Sign, .slice as4 ns4 cs4], .box b4 24 [.int .i64 c1.Sign, .slice as3 ns3 cs3], .box b3 24 [.int .i64 b1.Sign, .slice as2 ns2 cs2], .box b2 24 [.int .i64 ax1.Sign, .slice as1 ns1 cs1]] w' ∧ (SlR (Rp.int .i64) Fx29 as19 ns19 cs19 f2) ∧ Has 285 a [(3, .pointer (some ⟨b2, 0, none⟩)), (7, .bool v1), (9, .int .i64 e11), (26, .pointer (some ⟨b18, 0, none⟩))]) ?_ ?_
                                                        · rintro a wx72 ⟨Fx29, b18, as19, ns19, cs19, hF29, hx60, hs19, hax24⟩
                                                          refine cw_apply hax24 ?_
                                                          obtain ⟨⟨e21, f3, f4⟩, hb29, hm⟩ := bind_some hm
                                                          refine c_mid (fun a w' => ∃ (Fx30 : Frz) (b19 : Nat) (as20 : Option Addr) (ns20 : Nat) (cs20 : Nat), Frz.le Fx29 Fx30 ∧ HS F w [] Fx30 [.box b19 24 [.int .i64 f3, .slice as20 ns20 cs20], .box b18 24 [.int .i64 f1, .slice as19 ns19 cs19], .box b17 24 [.int .i64 v34.1.Sign, .slice as18 ns18 cs18], .box b16 24 [.int .i64 v33.1.Sign, .slice as17 ns17 cs17], .box b15 24 [.int .i64 v32.1.Sign, .slice as16 ns16 cs16], .box b14 24 [.int .i64 v31.1.Sign, .slice as15 ns15 cs15], .box b13 24 [.int .i64 v30.1.Sign, .slice as14 ns14 cs14], .box b12 24 [.int .i64 v21.1.Sign, .slice as11 ns11 cs11], .box b11 24 [.int .i64 v20.1.Sign, .slice as10 ns10 cs10], .box b10 24 [.int .i64 v19.1.Sign, .slice as9 ns9 cs9], .box b9 24 [.int .i64 v23.1.Sign, .slice as13 ns13 cs13], .box b8 24 [.int .i64 v22.1.Sign, .slice as12 ns12 cs12], .box b7 24 [.int .i64 v10.1.Sign, .slice as6 ns6 cs6], .box b6 24 [.int .i64 v9.1.Sign, .slice as5 ns5 cs5], .box b5 24 [.int .i64 v8.1.Sign, .slice as4 ns4 cs4], .box b4 24 [.int .i64 c1.Sign, .slice as3 ns3 cs3], .box b3 24 [.int .i64 b1.Sign, .slice as2 ns2 cs2], .box b2 24 [.int .i64 ax1.Sign, .slice as1 ns1 cs1]] w' ∧ (SlR (Rp.int .i64) Fx30 as20 ns20 cs20 f4) ∧ Has 285 a [(3, .pointer (some ⟨b2, 0, none⟩)), (7, .bool v1), (9, .int .i64 e11), (11, .int .i64 e21), (26, .pointer (some ⟨b18, 0, none⟩)), (27, .pointer (some ⟨b19, 0, none⟩))]) ?_ ?_
                                                          · rintro a wx73 ⟨Fx30, b19, as20, ns20, cs20, hF30, hx61, hs20, hax25⟩
                                                            refine cw_apply hax25 ?_
                                                            obtain ⟨⟨e31, f5, f6⟩, hb30, hm⟩ := bind_some hm
                                                            refine c_mid (fun a w' => ∃ (Fx31 : Frz) (b20 : Nat) (as21 : Option Addr) (ns21 : Nat) (cs21 : Nat), Frz.le Fx30 Fx31 ∧ HS F w [] Fx31 [.box b20 24 [.int .i64 f5, .slice as21 ns21 cs21], .box b19 24 [.int .i64 f3, .slice as20 ns20 cs20], .box b18 24 [.int .i64 f1, .slice as19 ns19 cs19], .box b17 24 [.int .i64 v34.1.Sign, .slice as18 ns18 cs18], .box b16 24 [.int .i64 v33.1.Sign, .slice as17 ns17 cs17], .box b15 24 [.int .i64 v32.1.Sign, .slice as16 ns16 cs16], .box b14 24 [.int .i64 v31.1.Sign, .slice as15 ns15 cs15], .box b13 24 [.int .i64 v30.1.Sign, .slice as14 ns14 cs14], .box b12 24 [.int .i64 v21.1.Sign, .slice as11 ns11 cs11], .box b11 24 [.int .i64 v20.1.Sign, .slice as10 ns10 cs10], .box b10 24 [.int .i64 v19.1.Sign, .slice as9 ns9 cs9], .box b9 24 [.int .i64 v23.1.Sign, .slice as13 ns13 cs13], .box b8 24 [.int .i64 v22.1.Sign, .slice as12 ns12 cs12], .box b7 24 [.int .i64 v10.1.Sign, .slice as6 ns6 cs6], .box b6 24 [.int .i64 v9.1.Sign, .slice as5 ns5 cs5], .box b5 24 [.int .i64 v8.1.Sign, .slice as4 ns4 cs4], .box b4 24 [.int .i64 c1.Sign, .slice as3 ns3 cs3], .box b3 24 [.int .i64 b1.Sign, .slice as2 ns2 cs2], .box b2 24 [.int .i64 ax1.Sign, .slice as1 ns1 cs1]] w' ∧ (SlR (Rp.int .i64) Fx31 as21 ns21 cs21 f6) ∧ Has 285 a [(3, .pointer (some ⟨b2, 0, none⟩)), (7, .bool v1), (9, .int .i64 e11), (11, .int .i64 e21), (13, .int .i64 e31), (26, .pointer (some ⟨b18, 0, none⟩)), (27, .pointer (some ⟨b19, 0, none⟩)), (28, .pointer (some ⟨b20, 0, none⟩))]) ?_ ?_
                                                            · rintro a wx74 ⟨Fx31, b20, as21, ns21, cs21, hF31, hx62, hs21, hax26⟩
                                                              refine cw_apply hax26 ?_
                                                              refine c_seq ?_
                                                              refine c_region ?_
                                                              refine r_move rfl rfl rfl ?_
                                                              refine r_move rfl rfl rfl ?_
                                                              obtain ⟨v41, hb31, hm⟩ := bind_some hm
                                                              refine r_mid 3 (fun a w' => wx74 = w' ∧ Has 285 a [(3, .pointer (some ⟨b2, 0, none⟩)), (11, .int .i64 e21), (13, .int .i64 e31), (26, .pointer (some ⟨b18, 0, none⟩)), (27, .pointer (some ⟨b19, 0, none⟩)), (28, .pointer (some ⟨b20, 0, none⟩)), (261, .bool v41)]) ?_ ?_
                                                              · rintro a wx75 ⟨rfl, hax27⟩
                                                                refine rw_apply hax27 ?_
                                                                refine r_move rfl rfl rfl ?_
                                                                obtain ⟨v42, hb32, hm⟩ := bind_some hm
                                                                refine r_mid 3 (fun a w' => wx74 = w' ∧ Has 285 a [(3, .pointer (some ⟨b2, 0, none⟩)), (13, .int .i64 e31), (26, .pointer (some ⟨b18, 0, none⟩)), (27, .pointer (some ⟨b19, 0, none⟩)), (28, .pointer (some ⟨b20, 0, none⟩)), (265, .bool v42)]) ?_ ?_
                                                                · rintro a wx76 ⟨rfl, hax28⟩
                                                                  refine rw_apply hax28 ?_
                                                                  refine r_move rfl rfl rfl ?_
                                                                  obtain ⟨v43, hb33, hm⟩ := bind_some hm
                                                                  refine r_mid 3 (fun a w' => wx74 = w' ∧ Has 285 a [(3, .pointer (some ⟨b2, 0, none⟩)), (26, .pointer (some ⟨b18, 0, none⟩)), (27, .pointer (some ⟨b19, 0, none⟩)), (28, .pointer (some ⟨b20, 0, none⟩)), (269, .bool v43)]) ?_ ?_
                                                                  · rintro a wx77 ⟨rfl, hax29⟩
                                                                    refine rw_apply hax29 ?_
                                                                    refine r_move rfl rfl rfl ?_
                                                                    obtain ⟨v44, hb34, hm⟩ := bind_some hm
                                                                    refine r_mid 4 (fun a w' => ∃ (Fx32 : Frz), Frz.le Fx31 Fx32 ∧ HS F w [] Fx32 [.box b20 24 [.int .i64 f5, .slice as21 ns21 cs21], .box b19 24 [.int .i64 f3, .slice as20 ns20 cs20], .box b18 24 [.int .i64 f1, .slice as19 ns19 cs19], .box b17 24 [.int .i64 v34.1.Sign, .slice as18 ns18 cs18], .box b16 24 [.int .i64 v33.1.Sign, .slice as17 ns17 cs17], .box b15 24 [.int .i64 v32.1.Sign, .slice as16 ns16 cs16], .box b14 24 [.int .i64 v31.1.Sign, .slice as15 ns15 cs15], .box b13 24 [.int .i64 v30.1.Sign, .slice as14 ns14 cs14], .box b12 24 [.int .i64 v21.1.Sign, .slice as11 ns11 cs11], .box b11 24 [.int .i64 v20.1.Sign, .slice as10 ns10 cs10], .box b10 24 [.int .i64 v19.1.Sign, .slice as9 ns9 cs9], .box b9 24 [.int .i64 v23.1.Sign, .slice as13 ns13 cs13], .box b8 24 [.int .i64 v22.1.Sign, .slice as12 ns12 cs12], .box b7 24 [.int .i64 v10.1.Sign, .slice as6 ns6 cs6], .box b6 24 [.int .i64 v9.1.Sign, .slice as5 ns5 cs5], .box b5 24 [.int .i64 v8.1.Sign, .slice as4 ns4 cs4], .box b4 24 [.int .i64 c1.Sign, .slice as3 ns3 cs3], .box b3 24 [.int .i64 b1.Sign, .slice as2 ns2 cs2], .box b2 24 [.int .i64 ax1.Sign, .slice as1 ns1 cs1]] w' ∧ Has 285 a [(3, .pointer (some ⟨b2, 0, none⟩)), (27, .pointer (some ⟨b19, 0, none⟩)), (28, .pointer (some ⟨b20, 0, none⟩)), (274, .bool v44)]) ?_ ?_
                                                                    · rintro a wx78 ⟨Fx32, hF32, hx63, hax30⟩
                                                                      refine rw_apply hax30 ?_
                                                                      refine r_move rfl rfl rfl ?_
                                                                      obtain ⟨v45, hb35, hm⟩ := bind_some hm
                                                                      refine r_mid 4 (fun a w' => ∃ (Fx33 : Frz), Frz.le Fx32 Fx33 ∧ HS F w [] Fx33 [.box b20 24 [.int .i64 f5, .slice as21 ns21 cs21], .box b19 24 [.int .i64 f3, .slice as20 ns20 cs20], .box b18 24 [.int .i64 f1, .slice as19 ns19 cs19], .box b17 24 [.int .i64 v34.1.Sign, .slice as18 ns18 cs18], .box b16 24 [.int .i64 v33.1.Sign, .slice as17 ns17 cs17], .box b15 24 [.int .i64 v32.1.Sign, .slice as16 ns16 cs16], .box b14 24 [.int .i64 v31.1.Sign, .slice as15 ns15 cs15], .box b13 24 [.int .i64 v30.1.Sign, .slice as14 ns14 cs14], .box b12 24 [.int .i64 v21.1.Sign, .slice as11 ns11 cs11], .box b11 24 [.int .i64 v20.1.Sign, .slice as10 ns10 cs10], .box b10 24 [.int .i64 v19.1.Sign, .slice as9 ns9 cs9], .box b9 24 [.int .i64 v23.1.Sign, .slice as13 ns13 cs13], .box b8 24 [.int .i64 v22.1.Sign, .slice as12 ns12 cs12], .box b7 24 [.int .i64 v10.1.Sign, .slice as6 ns6 cs6], .box b6 24 [.int .i64 v9.1.Sign, .slice as5 ns5 cs5], .box b5 24 [.int .i64 v8.1.Sign, .slice as4 ns4 cs4], .box b4 24 [.int .i64 c1.Sign, .slice as3 ns3 cs3], .box b3 24 [.int .i64 b1.Sign, .slice as2 ns2 cs2], .box b2 24 [.int .i64 ax1.Sign, .slice as1 ns1 cs1]] w' ∧ Has 285 a [(28, .pointer (some ⟨b20, 0, none⟩)), (279, .bool v45)]) ?_ ?_
                                                                      · rintro a wx79 ⟨Fx33, hF33, hx64, hax31⟩
                                                                        refine rw_apply hax31 ?_
                                                                        refine r_move rfl rfl rfl ?_
                                                                        obtain ⟨v46, hb36, hm⟩ := bind_some hm
                                                                        refine r_mid 4 (fun a w' => ∃ (Fx34 : Frz), Frz.le Fx33 Fx34 ∧ HS F w [] Fx34 [.box b20 24 [.int .i64 f5, .slice as21 ns21 cs21], .box b19 24 [.int .i64 f3, .slice as20 ns20 cs20], .box b18 24 [.int .i64 f1, .slice as19 ns19 cs19], .box b17 24 [.int .i64 v34.1.Sign, .slice as18 ns18 cs18], .box b16 24 [.int .i64 v33.1.Sign, .slice as17 ns17 cs17], .box b15 24 [.int .i64 v32.1.Sign, .slice as16 ns16 cs16], .box b14 24 [.int .i64 v31.1.Sign, .slice as15 ns15 cs15], .box b13 24 [.int .i64 v30.1.Sign, .slice as14 ns14 cs14], .box b12 24 [.int .i64 v21.1.Sign, .slice as11 ns11 cs11], .box b11 24 [.int .i64 v20.1.Sign, .slice as10 ns10 cs10], .box b10 24 [.int .i64 v19.1.Sign, .slice as9 ns9 cs9], .box b9 24 [.int .i64 v23.1.Sign, .slice as13 ns13 cs13], .box b8 24 [.int .i64 v22.1.Sign, .slice as12 ns12 cs12], .box b7 24 [.int .i64 v10.1.Sign, .slice as6 ns6 cs6], .box b6 24 [.int .i64 v9.1.Sign, .slice as5 ns5 cs5], .box b5 24 [.int .i64 v8.1.Sign, .slice as4 ns4 cs4], .box b4 24 [.int .i64 c1.Sign, .slice as3 ns3 cs3], .box b3 24 [.int .i64 b1.Sign, .slice as2 ns2 cs2], .box b2 24 [.int .i64 ax1.Sign, .slice as1 ns1 cs1]] w' ∧ Has 285 a [(284, .bool v46)]) ?_ ?_
                                                                        · rintro a wx80 ⟨Fx34, hF34, hx65, hax32⟩
                                                                          refine rw_apply hax32 ?_
                                                                          refine r_assign rfl rfl rfl ?_
                                                                          refine r_nil ?_
                                                                          refine q_then ?_
                                                                          refine c_ret ?_
                                                                          refine b_ret1 rfl rfl ?_
                                                                          obtain rfl := Option.some.inj hm
                                                                          exact ⟨_, _, _, rfl, hx65.pick [] (by decide) rfl, rfl, rfl⟩
                                                                        · clear hm
                                                                          rcases cond_some hb36 with ⟨hb37, hb36⟩ | ⟨hb37, hb36⟩
                                                                          · refine r_lit 280 rfl hb37 ?_
                                                                            refine r_loadBA (cs' := [.int .i64 f5, .slice as21 ns21 cs21]) ag24 sz24 rfl rfl hx64 rfl (i := 0) rfl rfl rfl ?_
                                                                            refine r_build (v := .agg #[.int .i64 0, .slice none 0 0]) rfl rfl rfl (fun _ => by kernel_rfl) ?_
                                                                            obtain ⟨v47, hv18, hb36⟩ := bind_some hb36
                                                                            refine r_callG0 ent21 rfl rfl rfl rfl hx64 (ref04_Same_ok _ _ _ _ hv18 hx64.sat ((hs21.mono hF32).mono hF33) (SlR.nil _ _)) ?_
                                                                            rintro _ Fx35 _ wx81 hF35 hx66 ⟨rfl, rfl⟩
                                                                            refine r_pick_true rfl rfl rfl rfl ?_
                                                                            refine r_nil ?_
                                                                            refine q_next (fun a ha => ?_)
                                                                            cases hb36
                                                                            exact ⟨_, hF35, hx66.pick [0, 1, 2, 3, 4, 5, 6, 7, 8, 9, 10, 11, 12, 13, 14, 15, 16, 17, 18] (by decide) rfl, ha.cut (l := [284]) rfl⟩
                                                                          · refine r_lit 280 rfl hb37 ?_
                                                                            refine r_off rfl (by decide) rfl ?_
                                                                            refine r_off rfl (by decide) rfl ?_
                                                                            refine r_off rfl (by decide) rfl ?_
                                                                            refine r_pick_false rfl rfl rfl rfl ?_
                                                                            refine r_nil ?_
                                                                            refine q_next (fun a ha => ?_)
                                                                            cases hb36
                                                                            exact ⟨_, Frz.refl _, hx64.pick [0, 1, 2, 3, 4, 5, 6, 7, 8, 9, 10, 11, 12, 13, 14, 15, 16, 17, 18] (by decide) rfl, ha.cut (l := [284]) rfl⟩
                                                                      · clear hm
                                                                        rcases cond_some hb35 with ⟨hb38, hb35⟩ | ⟨hb38, hb35⟩
                                                                        · refine r_lit 275 rfl hb38 ?_
                                                                          refine r_loadBA (cs' := [.int .i64 f3, .slice as20 ns20 cs20]) ag24 sz24 rfl rfl hx63 rfl (i := 1) rfl rfl rfl ?_
                                                                          refine r_loadBA (cs' := [.int .i64 ax1.Sign, .slice as1 ns1 cs1]) ag24 sz24 rfl rfl hx63 rfl (i := 18) rfl rfl rfl ?_
                                                                          obtain ⟨v48, hv19, hb35⟩ := bind_some hb35
                                                                          refine r_callG0 ent21 rfl rfl rfl rfl hx63 (ref04_Same_ok _ _ _ _ hv19 hx63.sat ((hs20.mono hF31).mono hF32) ((((((((((((((((((((((((((((((((hs1.mono hF1).mono hF2).mono hF3).mono hF4).mono hF5).mono hF6).mono hF7).mono hF8).mono hF9).mono hF10).mono hF11).mono hF12).mono hF13).mono hF14).mono hF15).mono hF16).mono hF17).mono hF18).mono hF19).mono hF20).mono hF21).mono hF22).mono hF23).mono hF24).mono hF25).mono hF26).mono hF27).mono hF28).mono hF29).mono hF30).mono hF31).mono hF32)) ?_
                                                                          rintro _ Fx36 _ wx82 hF36 hx67 ⟨rfl, rfl⟩
                                                                          refine r_pick_true rfl rfl rfl rfl ?_
                                                                          refine r_nil ?_
                                                                          refine q_next (fun a ha => ?_)
                                                                          cases hb35
                                                                          exact ⟨_, hF36, hx67.pick [0, 1, 2, 3, 4, 5, 6, 7, 8, 9, 10, 11, 12, 13, 14, 15, 16, 17, 18] (by decide) rfl, ha.cut (l := [28, 279]) rfl⟩
                                                                        · refine r_lit 275 rfl hb38 ?_
                                                                          refine r_off rfl (by decide) rfl ?_
                                                                          refine r_off rfl (by decide) rfl ?_
                                                                          refine r_off rfl (by decide) rfl ?_
                                                                          refine r_pick_false rfl rfl rfl rfl ?_
                                                                          refine r_nil ?_
                                                                          refine q_next (fun a ha => ?_)
                                                                          cases hb35
                                                                          exact ⟨_, Frz.refl _, hx63.pick [0, 1, 2, 3, 4, 5, 6, 7, 8, 9, 10, 11, 12, 13, 14, 15, 16, 17, 18] (by decide) rfl, ha.cut (l := [28, 279]) rfl⟩
                                                                    · clear hm
                                                                      rcases cond_some hb34 with ⟨hb39, hb34⟩ | ⟨hb39, hb34⟩
                                                                      · refine r_lit 270 rfl hb39 ?_
                                                                        refine r_loadBA (cs' := [.int .i64 f1, .slice as19 ns19 cs19]) ag24 sz24 rfl rfl hx62 rfl (i := 2) rfl rfl rfl ?_
                                                                        refine r_loadBA (cs' := [.int .i64 ax1.Sign, .slice as1 ns1 cs1]) ag24 sz24 rfl rfl hx62 rfl (i := 18) rfl rfl rfl ?_
                                                                        obtain ⟨v49, hv20, hb34⟩ := bind_some hb34
                                                                        refine r_callG0 ent21 rfl rfl rfl rfl hx62 (ref04_Same_ok _ _ _ _ hv20 hx62.sat ((hs19.mono hF30).mono hF31) (((((((((((((((((((((((((((((((hs1.mono hF1).mono hF2).mono hF3).mono hF4).mono hF5).mono hF6).mono hF7).mono hF8).mono hF9).mono hF10).mono hF11).mono hF12).mono hF13).mono hF14).mono hF15).mono hF16).mono hF17).mono hF18).mono hF19).mono hF20).mono hF21).mono hF22).mono hF23).mono hF24).mono hF25).mono hF26).mono hF27).mono hF28).mono hF29).mono hF30).mono hF31)) ?_
                                                                        rintro _ Fx37 _ wx83 hF37 hx68 ⟨rfl, rfl⟩
                                                                        refine r_pick_true rfl rfl rfl rfl ?_
                                                                        refine r_nil ?_
                                                                        refine q_next (fun a ha => ?_)
                                                                        cases hb34
                                                                        exact ⟨_, hF37, hx68.pick [0, 1, 2, 3, 4, 5, 6, 7, 8, 9, 10, 11, 12, 13, 14, 15, 16, 17, 18] (by decide) rfl, ha.cut (l := [3, 27, 28, 274]) rfl⟩
                                                                      · refine r_lit 270 rfl hb39 ?_
                                                                        refine r_off rfl (by decide) rfl ?_
                                                                        refine r_off rfl (by decide) rfl ?_
                                                                        refine r_off rfl (by decide) rfl ?_
                                                                        refine r_pick_false rfl rfl rfl rfl ?_
                                                                        refine r_nil ?_
                                                                        refine q_next (fun a ha => ?_)
                                                                        cases hb34
                                                                        exact ⟨_, Frz.refl _, hx62.pick [0, 1, 2, 3, 4, 5, 6, 7, 8, 9, 10, 11, 12, 13, 14, 15, 16, 17, 18] (by decide) rfl, ha.cut (l := [3, 27, 28, 274]) rfl⟩
                                                                  · clear hm
                                                                    rcases cond_some hb33 with ⟨hb40, hb33⟩ | ⟨hb40, hb33⟩
                                                                    · refine r_lit 266 rfl hb40 ?_
                                                                      refine r_move rfl rfl rfl ?_
                                                                      refine r_bin rfl rfl rfl rfl rfl ?_
                                                                      refine r_pick_true rfl rfl rfl rfl ?_
                                                                      refine r_nil ?_
                                                                      refine q_next (fun a ha => ?_)
                                                                      cases hb33
                                                                      exact ⟨rfl, ha.cut (l := [3, 26, 27, 28, 269]) rfl⟩
                                                                    · refine r_lit 266 rfl hb40 ?_
                                                                      refine r_off rfl (by decide) rfl ?_
                                                                      refine r_off rfl (by decide) rfl ?_
                                                                      refine r_pick_false rfl rfl rfl rfl ?_
                                                                      refine r_nil ?_
                                                                      refine q_next (fun a ha => ?_)
                                                                      cases hb33
                                                                      exact ⟨rfl, ha.cut (l := [3, 26, 27, 28, 269]) rfl⟩
                                                                · clear hm
                                                                  rcases cond_some hb32 with ⟨hb41, hb32⟩ | ⟨hb41, hb32⟩
                                                                  · refine r_lit 262 rfl hb41 ?_
                                                                    refine r_move rfl rfl rfl ?_
                                                                    refine r_bin rfl rfl rfl rfl rfl ?_
                                                                    refine r_pick_true rfl rfl rfl rfl ?_
                                                                    refine r_nil ?_
                                                                    refine q_next (fun a ha => ?_)
                                                                    cases hb32
                                                                    exact ⟨rfl, ha.cut (l := [3, 13, 26, 27, 28, 265]) rfl⟩
                                                                  · refine r_lit 262 rfl hb41 ?_
                                                                    refine r_off rfl (by decide) rfl ?_
                                                                    refine r_off rfl (by decide) rfl ?_
                                                                    refine r_pick_false rfl rfl rfl rfl ?_
                                                                    refine r_nil ?_
                                                                    refine q_next (fun a ha => ?_)
                                                                    cases hb32
                                                                    exact ⟨rfl, ha.cut (l := [3, 13, 26, 27, 28, 265]) rfl⟩
                                                              · clear hm
                                                                rcases cond_some hb31 with ⟨hb42, hb31⟩ | ⟨hb42, hb31⟩
                                                                · refine r_lit 258 rfl hb42 ?_
                                                                  refine r_move rfl rfl rfl ?_
                                                                  refine r_bin rfl rfl rfl rfl rfl ?_
                                                                  refine r_pick_true rfl rfl rfl rfl ?_
                                                                  refine r_nil ?_
                                                                  refine q_next (fun a ha => ?_)
                                                                  cases hb31
                                                                  exact ⟨rfl, ha.cut (l := [3, 11, 13, 26, 27, 28, 261]) rfl⟩
                                                                · refine r_lit 258 rfl hb42 ?_
                                                                  refine r_off rfl (by decide) rfl ?_
                                                                  refine r_off rfl (by decide) rfl ?_
                                                                  refine r_pick_false rfl rfl rfl rfl ?_
                                                                  refine r_nil ?_
                                                                  refine q_next (fun a ha => ?_)
                                                                  cases hb31
                                                                  exact ⟨rfl, ha.cut (l := [3, 11, 13, 26, 27, 28, 261]) rfl⟩
                                                            · clear hm
                                                              refine c_regionH (SH Fx30 [.box b19 24 [.int .i64 f3, .slice as20 ns20 cs20], .box b18 24 [.int .i64 f1, .slice as19 ns19 cs19], .box b17 24 [.int .i64 v34.1.Sign, .slice as18 ns18 cs18], .box b16 24 [.int .i64 v33.1.Sign, .slice as17 ns17 cs17], .box b15 24 [.int .i64 v32.1.Sign, .slice as16 ns16 cs16], .box b14 24 [.int .i64 v31.1.Sign, .slice as15 ns15 cs15], .box b13 24 [.int .i64 v30.1.Sign, .slice as14 ns14 cs14], .box b12 24 [.int .i64 v21.1.Sign, .slice as11 ns11 cs11], .box b11 24 [.int .i64 v20.1.Sign, .slice as10 ns10 cs10], .box b10 24 [.int .i64 v19.1.Sign, .slice as9 ns9 cs9], .box b9 24 [.int .i64 v23.1.Sign, .slice as13 ns13 cs13], .box b8 24 [.int .i64 v22.1.Sign, .slice as12 ns12 cs12], .box b7 24 [.int .i64 v10.1.Sign, .slice as6 ns6 cs6], .box b6 24 [.int .i64 v9.1.Sign, .slice as5 ns5 cs5], .box b5 24 [.int .i64 v8.1.Sign, .slice as4 ns4 cs4], .box b4 24 [.int .i64 c1.Sign, .slice as3 ns3 cs3], .box b3 24 [.int .i64 b1.Sign, .slice as2 ns2 cs2], .box b2 24 [.int .i64 ax1.Sign, .slice as1 ns1 cs1]]) 9 rfl (by kernel_rfl) hx61 ?_
                                                              intro wx84 hx69
                                                              refine d_take 0 (v := .agg #[.int .i64 ax1.Sign, .slice as1 ns1 cs1]) rfl (by kernel_rfl) (by kernel_rfl) (by kernel_rfl) rfl rfl rfl rfl (hx69.sh (Frz.refl _) [0, 1, 2, 3, 4, 5, 6, 7, 8, 9, 10, 11, 12, 13, 14, 15, 16, 17] (by decide) rfl) (fun _ hC => ?_) ?_
                                                              · obtain ⟨_, _, hleq, hq⟩ := hC
                                                                refine r_loadBA (cs' := [.int .i64 ax1.Sign, .slice as1 ns1 cs1]) ag24 sz24 rfl rfl hq rfl (i := 17) rfl rfl rfl (r_nil (qq rfl))
                                                              refine d_two 1 6 rfl rfl (by kernel_rfl) ?_ ?_
                                                              · obtain ⟨v50, hv21, hb30⟩ := bind_some hb30
                                                                refine r_callG0 ent19 rfl rfl rfl rfl hx69 (big_Of_ok _ _ _ hv21 hx69.sat) ?_
                                                                rintro _ Fx38 _ wx85 hF38 hx70 ⟨as22, ns22, cs22, rfl, rfl, hs22⟩
                                                                refine d_next (hx70.sh hF38 [0, 1, 2, 3, 4, 5, 6, 7, 8, 9, 10, 11, 12, 13, 14, 15, 16, 17] (by decide) rfl) ?_
                                                                refine d_two 2 6 rfl rfl (by kernel_rfl) ?_ ?_
                                                                · obtain ⟨v51, hv22, hb30⟩ := bind_some hb30
                                                                  refine r_callG0 ent16 rfl rfl rfl rfl hx70 (big_Mul_ok _ _ _ _ hv22 hx70.sat (((((((((((((((((((((((((((((((hs1.mono hF1).mono hF2).mono hF3).mono hF4).mono hF5).mono hF6).mono hF7).mono hF8).mono hF9).mono hF10).mono hF11).mono hF12).mono hF13).mono hF14).mono hF15).mono hF16).mono hF17).mono hF18).mono hF19).mono hF20).mono hF21).mono hF22).mono hF23).mono hF24).mono hF25).mono hF26).mono hF27).mono hF28).mono hF29).mono hF30).mono hF38) hs22) ?_
                                                                  rintro _ Fx39 _ wx86 hF39 hx71 ⟨as23, ns23, cs23, rfl, rfl, hs23⟩
                                                                  refine d_next (hx71.sh (hF38.trans hF39) [0, 1, 2, 3, 4, 5, 6, 7, 8, 9, 10, 11, 12, 13, 14, 15, 16, 17] (by decide) rfl) ?_
                                                                  refine d_take 3 (v := .tuple #[.agg #[.int .i64 v51.1.Sign, .slice as23 ns23 cs23], .int .i64 v51.2]) rfl (by kernel_rfl) (by kernel_rfl) (by kernel_rfl) rfl rfl rfl rfl (hx71.sh (hF38.trans hF39) [0, 1, 2, 3, 4, 5, 6, 7, 8, 9, 10, 11, 12, 13, 14, 15, 16, 17] (by decide) rfl) (fun _ hC => ?_) ?_
                                                                  · obtain ⟨_, _, hleq, hq⟩ := hC
                                                                    refine r_move rfl rfl rfl (r_nil (qq rfl))
                                                                  refine d_take 4 (v := .agg #[.int .i64 v51.1.Sign, .slice as23 ns23 cs23]) rfl (by kernel_rfl) (by kernel_rfl) (by kernel_rfl) rfl rfl rfl rfl (hx71.sh (hF38.trans hF39) [0, 1, 2, 3, 4, 5, 6, 7, 8, 9, 10, 11, 12, 13, 14, 15, 16, 17] (by decide) rfl) (fun _ hC => ?_) ?_
                                                                  · obtain ⟨_, _, hleq, hq⟩ := hC
                                                                    refine r_extract rfl rfl rfl rfl (r_nil (qq rfl))
                                                                  refine d_take 5 (v := .int .i64 v51.2) rfl (by kernel_rfl) (by kernel_rfl) (by kernel_rfl) rfl rfl rfl rfl (hx71.sh (hF38.trans hF39) [0, 1, 2, 3, 4, 5, 6, 7, 8, 9, 10, 11, 12, 13, 14, 15, 16, 17] (by decide) rfl) (fun _ hC => ?_) ?_
                                                                  · obtain ⟨_, _, hleq, hq⟩ := hC
                                                                    refine r_extract rfl rfl rfl rfl (r_nil (qq rfl))
                                                                  refine d_step 6 rfl (by kernel_rfl) ?_
                                                                  refine r_alloc ze24 rfl rfl rfl hx71 ?_
                                                                  intro b21 wx87 hx72
                                                                  refine d_next (hx72.sh (hF38.trans hF39) [1, 2, 3, 4, 5, 6, 7, 8, 9, 10, 11, 12, 13, 14, 15, 16, 17, 18] (by decide) rfl) ?_
                                                                  refine d_step 7 rfl (by kernel_rfl) ?_
                                                                  refine r_store sz24 rfl hx72 rfl rfl rfl rfl (i := 0) rfl rfl rfl rfl ?_
                                                                  intro wx88 hx73
                                                                  refine d_next (hx73.sh (hF38.trans hF39) [1, 2, 3, 4, 5, 6, 7, 8, 9, 10, 11, 12, 13, 14, 15, 16, 17, 18] (by decide) rfl) ?_
                                                                  refine d_take 8 (v := .int .i64 v51.2) rfl (by kernel_rfl) (by kernel_rfl) (by kernel_rfl) rfl rfl rfl rfl (hx73.sh (hF38.trans hF39) [1, 2, 3, 4, 5, 6, 7, 8, 9, 10, 11, 12, 13, 14, 15, 16, 17, 18] (by decide) rfl) (fun _ hC => ?_) ?_
                                                                  · obtain ⟨_, _, hleq, hq⟩ := hC
                                                                    refine r_assign rfl rfl rfl (r_nil (qq rfl))
                                                                  refine d_done (by kernel_rfl) ?_
                                                                  refine q_next (fun a ha => ?_)
                                                                  cases hb30
                                                                  exact ⟨_, b21, as23, ns23, cs23, (hF38.trans hF39), hx73.pick [0, 1, 2, 3, 4, 5, 6, 7, 8, 9, 10, 11, 12, 13, 14, 15, 16, 17, 18] (by decide) rfl, hs23, ha.cut (l := [3, 7, 9, 11, 13, 26, 27, 28]) rfl⟩
                                                                · refine r_alloc ze24 rfl rfl rfl hx70 ?_
                                                                  intro b21 wx86 hx71
                                                                  refine d_next (hx71.sh hF38 [1, 2, 3, 4, 5, 6, 7, 8, 9, 10, 11, 12, 13, 14, 15, 16, 17, 18] (by decide) rfl) ?_
                                                                  refine d_step 2 rfl (by kernel_rfl) ?_
                                                                  obtain ⟨v51, hv22, hb30⟩ := bind_some hb30
                                                                  refine r_callG0 ent16 rfl rfl rfl rfl hx71 (big_Mul_ok _ _ _ _ hv22 hx71.sat (((((((((((((((((((((((((((((((hs1.mono hF1).mono hF2).mono hF3).mono hF4).mono hF5).mono hF6).mono hF7).mono hF8).mono hF9).mono hF10).mono hF11).mono hF12).mono hF13).mono hF14).mono hF15).mono hF16).mono hF17).mono hF18).mono hF19).mono hF20).mono hF21).mono hF22).mono hF23).mono hF24).mono hF25).mono hF26).mono hF27).mono hF28).mono hF29).mono hF30).mono hF38) hs22) ?_
                                                                  rintro _ Fx39 _ wx87 hF39 hx72 ⟨as23, ns23, cs23, rfl, rfl, hs23⟩
                                                                  refine d_next (hx72.sh (hF38.trans hF39) [1, 2, 3, 4, 5, 6, 7, 8, 9, 10, 11, 12, 13, 14, 15, 16, 17, 18] (by decide) rfl) ?_
                                                                  refine d_take 3 (v := .tuple #[.agg #[.int .i64 v51.1.Sign, .slice as23 ns23 cs23], .int .i64 v51.2]) rfl (by kernel_rfl) (by kernel_rfl) (by kernel_rfl) rfl rfl rfl rfl (hx72.sh (hF38.trans hF39) [1, 2, 3, 4, 5, 6, 7, 8, 9, 10, 11, 12, 13, 14, 15, 16, 17, 18] (by decide) rfl) (fun _ hC => ?_) ?_
                                                                  · obtain ⟨_, _, hleq, hq⟩ := hC
                                                                    refine r_move rfl rfl rfl (r_nil (qq rfl))
                                                                  refine d_take 4 (v := .agg #[.int .i64 v51.1.Sign, .slice as23 ns23 cs23]) rfl (by kernel_rfl) (by kernel_rfl) (by kernel_rfl) rfl rfl rfl rfl (hx72.sh (hF38.trans hF39) [1, 2, 3, 4, 5, 6, 7, 8, 9, 10, 11, 12, 13, 14, 15, 16, 17, 18] (by decide) rfl) (fun _ hC => ?_) ?_
                                                                  · obtain ⟨_, _, hleq, hq⟩ := hC
                                                                    refine r_extract rfl rfl rfl rfl (r_nil (qq rfl))
                                                                  refine d_take 5 (v := .int .i64 v51.2) rfl (by kernel_rfl) (by kernel_rfl) (by kernel_rfl) rfl rfl rfl rfl (hx72.sh (hF38.trans hF39) [1, 2, 3, 4, 5, 6, 7, 8, 9, 10, 11, 12, 13, 14, 15, 16, 17, 18] (by decide) rfl) (fun _ hC => ?_) ?_
                                                                  · obtain ⟨_, _, hleq, hq⟩ := hC
                                                                    refine r_extract rfl rfl rfl rfl (r_nil (qq rfl))
                                                                  refine d_step 7 rfl (by kernel_rfl) ?_
                                                                  refine r_store sz24 rfl hx72 rfl rfl rfl rfl (i := 0) rfl rfl rfl rfl ?_
                                                                  intro wx88 hx73
                                                                  refine d_next (hx73.sh (hF38.trans hF39) [1, 2, 3, 4, 5, 6, 7, 8, 9, 10, 11, 12, 13, 14, 15, 16, 17, 18] (by decide) rfl) ?_
                                                                  refine d_take 8 (v := .int .i64 v51.2) rfl (by kernel_rfl) (by kernel_rfl) (by kernel_rfl) rfl rfl rfl rfl (hx73.sh (hF38.trans hF39) [1, 2, 3, 4, 5, 6, 7, 8, 9, 10, 11, 12, 13, 14, 15, 16, 17, 18] (by decide) rfl) (fun _ hC => ?_) ?_
                                                                  · obtain ⟨_, _, hleq, hq⟩ := hC
                                                                    refine r_assign rfl rfl rfl (r_nil (qq rfl))
                                                                  refine d_done (by kernel_rfl) ?_
                                                                  refine q_next (fun a ha => ?_)
                                                                  cases hb30
                                                                  exact ⟨_, b21, as23, ns23, cs23, (hF38.trans hF39), hx73.pick [0, 1, 2, 3, 4, 5, 6, 7, 8, 9, 10, 11, 12, 13, 14, 15, 16, 17, 18] (by decide) rfl, hs23, ha.cut (l := [3, 7, 9, 11, 13, 26, 27, 28]) rfl⟩
                                                              · refine r_alloc ze24 rfl rfl rfl hx69 ?_
                                                                intro b21 wx85 hx70
                                                                refine d_next (hx70.sh (Frz.refl _) [1, 2, 3, 4, 5, 6, 7, 8, 9, 10, 11, 12, 13, 14, 15, 16, 17, 18] (by decide) rfl) ?_
                                                                refine d_step 1 rfl (by kernel_rfl) ?_
                                                                obtain ⟨v50, hv21, hb30⟩ := bind_some hb30
                                                                refine r_callG0 ent19 rfl rfl rfl rfl hx70 (big_Of_ok _ _ _ hv21 hx70.sat) ?_
                                                                rintro _ Fx38 _ wx86 hF38 hx71 ⟨as22, ns22, cs22, rfl, rfl, hs22⟩
                                                                refine d_next (hx71.sh hF38 [1, 2, 3, 4, 5, 6, 7, 8, 9, 10, 11, 12, 13, 14, 15, 16, 17, 18] (by decide) rfl) ?_
                                                                refine d_step 2 rfl (by kernel_rfl) ?_
                                                                obtain ⟨v51, hv22, hb30⟩ := bind_some hb30
                                                                refine r_callG0 ent16 rfl rfl rfl rfl hx71 (big_Mul_ok _ _ _ _ hv22 hx71.sat (((((((((((((((((((((((((((((((hs1.mono hF1).mono hF2).mono hF3).mono hF4).mono hF5).mono hF6).mono hF7).mono hF8).mono hF9).mono hF10).mono hF11).mono hF12).mono hF13).mono hF14).mono hF15).mono hF16).mono hF17).mono hF18).mono hF19).mono hF20).mono hF21).mono hF22).mono hF23).mono hF24).mono hF25).mono hF26).mono hF27).mono hF28).mono hF29).mono hF30).mono hF38) hs22) ?_
                                                                rintro _ Fx39 _ wx87 hF39 hx72 ⟨as23, ns23, cs23, rfl, rfl, hs23⟩
                                                                refine d_next (hx72.sh (hF38.trans hF39) [1, 2, 3, 4, 5, 6, 7, 8, 9, 10, 11, 12, 13, 14, 15, 16, 17, 18] (by decide) rfl) ?_
                                                                refine d_take 3 (v := .tuple #[.agg #[.int .i64 v51.1.Sign, .slice as23 ns23 cs23], .int .i64 v51.2]) rfl (by kernel_rfl) (by kernel_rfl) (by kernel_rfl) rfl rfl rfl rfl (hx72.sh (hF38.trans hF39) [1, 2, 3, 4, 5, 6, 7, 8, 9, 10, 11, 12, 13, 14, 15, 16, 17, 18] (by decide) rfl) (fun _ hC => ?_) ?_
                                                                · obtain ⟨_, _, hleq, hq⟩ := hC
                                                                  refine r_move rfl rfl rfl (r_nil (qq rfl))
                                                                refine d_take 4 (v := .agg #[.int .i64 v51.1.Sign, .slice as23 ns23 cs23]) rfl (by kernel_rfl) (by kernel_rfl) (by kernel_rfl) rfl rfl rfl rfl (hx72.sh (hF38.trans hF39) [1, 2, 3, 4, 5, 6, 7, 8, 9, 10, 11, 12, 13, 14, 15, 16, 17, 18] (by decide) rfl) (fun _ hC => ?_) ?_
                                                                · obtain ⟨_, _, hleq, hq⟩ := hC
                                                                  refine r_extract rfl rfl rfl rfl (r_nil (qq rfl))
                                                                refine d_take 5 (v := .int .i64 v51.2) rfl (by kernel_rfl) (by kernel_rfl) (by kernel_rfl) rfl rfl rfl rfl (hx72.sh (hF38.trans hF39) [1, 2, 3, 4, 5, 6, 7, 8, 9, 10, 11, 12, 13, 14, 15, 16, 17, 18] (by decide) rfl) (fun _ hC => ?_) ?_
                                                                · obtain ⟨_, _, hleq, hq⟩ := hC
                                                                  refine r_extract rfl rfl rfl rfl (r_nil (qq rfl))
                                                                refine d_step 7 rfl (by kernel_rfl) ?_
                                                                refine r_store sz24 rfl hx72 rfl rfl rfl rfl (i := 0) rfl rfl rfl rfl ?_
                                                                intro wx88 hx73
                                                                refine d_next (hx73.sh (hF38.trans hF39) [1, 2, 3, 4, 5, 6, 7, 8, 9, 10, 11, 12, 13, 14, 15, 16, 17, 18] (by decide) rfl) ?_
                                                                refine d_take 8 (v := .int .i64 v51.2) rfl (by kernel_rfl) (by kernel_rfl) (by kernel_rfl) rfl rfl rfl rfl (hx73.sh (hF38.trans hF39) [1, 2, 3, 4, 5, 6, 7, 8, 9, 10, 11, 12, 13, 14, 15, 16, 17, 18] (by decide) rfl) (fun _ hC => ?_) ?_
                                                                · obtain ⟨_, _, hleq, hq⟩ := hC
                                                                  refine r_assign rfl rfl rfl (r_nil (qq rfl))
                                                                refine d_done (by kernel_rfl) ?_
                                                                refine q_next (fun a ha => ?_)
                                                                cases hb30
                                                                exact ⟨_, b21, as23, ns23, cs23, (hF38.trans hF39), hx73.pick [0, 1, 2, 3, 4, 5, 6, 7, 8, 9, 10, 11, 12, 13, 14, 15, 16, 17, 18] (by decide) rfl, hs23, ha.cut (l := [3, 7, 9, 11, 13, 26, 27, 28]) rfl⟩
                                                          · clear hm
                                                            refine c_regionH (SH Fx29 [.box b18 24 [.int .i64 f1, .slice as19 ns19 cs19], .box b17 24 [.int .i64 v34.1.Sign, .slice as18 ns18 cs18], .box b16 24 [.int .i64 v33.1.Sign, .slice as17 ns17 cs17], .box b15 24 [.int .i64 v32.1.Sign, .slice as16 ns16 cs16], .box b14 24 [.int .i64 v31.1.Sign, .slice as15 ns15 cs15], .box b13 24 [.int .i64 v30.1.Sign, .slice as14 ns14 cs14], .box b12 24 [.int .i64 v21.1.Sign, .slice as11 ns11 cs11], .box b11 24 [.int .i64 v20.1.Sign, .slice as10 ns10 cs10], .box b10 24 [.int .i64 v19.1.Sign, .slice as9 ns9 cs9], .box b9 24 [.int .i64 v23.1.Sign, .slice as13 ns13 cs13], .box b8 24 [.int .i64 v22.1.Sign, .slice as12 ns12 cs12], .box b7 24 [.int .i64 v10.1.Sign, .slice as6 ns6 cs6], .box b6 24 [.int .i64 v9.1.Sign, .slice as5 ns5 cs5], .box b5 24 [.int .i64 v8.1.Sign, .slice as4 ns4 cs4], .box b4 24 [.int .i64 c1.Sign, .slice as3 ns3 cs3], .box b3 24 [.int .i64 b1.Sign, .slice as2 ns2 cs2], .box b2 24 [.int .i64 ax1.Sign, .slice as1 ns1 cs1]]) 9 rfl (by kernel_rfl) hx60 ?_
                                                            intro wx89 hx74
                                                            refine d_take 0 (v := .agg #[.int .i64 ax1.Sign, .slice as1 ns1 cs1]) rfl (by kernel_rfl) (by kernel_rfl) (by kernel_rfl) rfl rfl rfl rfl (hx74.sh (Frz.refl _) [0, 1, 2, 3, 4, 5, 6, 7, 8, 9, 10, 11, 12, 13, 14, 15, 16] (by decide) rfl) (fun _ hC => ?_) ?_
                                                            · obtain ⟨_, _, hleq, hq⟩ := hC
                                                              refine r_loadBA (cs' := [.int .i64 ax1.Sign, .slice as1 ns1 cs1]) ag24 sz24 rfl rfl hq rfl (i := 16) rfl rfl rfl (r_nil (qq rfl))
                                                            refine d_two 1 6 rfl rfl (by kernel_rfl) ?_ ?_
                                                            · obtain ⟨v52, hv23, hb29⟩ := bind_some hb29
                                                              refine r_callG0 ent19 rfl rfl rfl rfl hx74 (big_Of_ok _ _ _ hv23 hx74.sat) ?_
                                                              rintro _ Fx40 _ wx90 hF40 hx75 ⟨as24, ns24, cs24, rfl, rfl, hs24⟩
                                                              refine d_next (hx75.sh hF40 [0, 1, 2, 3, 4, 5, 6, 7, 8, 9, 10, 11, 12, 13, 14, 15, 16] (by decide) rfl) ?_
                                                              refine d_two 2 6 rfl rfl (by kernel_rfl) ?_ ?_
                                                              · obtain ⟨v53, hv24, hb29⟩ := bind_some hb29
                                                                refine r_callG0 ent16 rfl rfl rfl rfl hx75 (big_Mul_ok _ _ _ _ hv24 hx75.sat ((((((((((((((((((((((((((((((hs1.mono hF1).mono hF2).mono hF3).mono hF4).mono hF5).mono hF6).mono hF7).mono hF8).mono hF9).mono hF10).mono hF11).mono hF12).mono hF13).mono hF14).mono hF15).mono hF16).mono hF17).mono hF18).mono hF19).mono hF20).mono hF21).mono hF22).mono hF23).mono hF24).mono hF25).mono hF26).mono hF27).mono hF28).mono hF29).mono hF40) hs24) ?_
                                                                rintro _ Fx41 _ wx91 hF41 hx76 ⟨as25, ns25, cs25, rfl, rfl, hs25⟩
                                                                refine d_next (hx76.sh (hF40.trans hF41) [0, 1, 2, 3, 4, 5, 6, 7, 8, 9, 10, 11, 12, 13, 14, 15, 16] (by decide) rfl) ?_
                                                                refine d_take 3 (v := .tuple #[.agg #[.int .i64 v53.1.Sign, .slice as25 ns25 cs25], .int .i64 v53.2]) rfl (by kernel_rfl) (by kernel_rfl) (by kernel_rfl) rfl rfl rfl rfl (hx76.sh (hF40.trans hF41) [0, 1, 2, 3, 4, 5, 6, 7, 8, 9, 10, 11, 12, 13, 14, 15, 16] (by decide) rfl) (fun _ hC => ?_) ?_
                                                                · obtain ⟨_, _, hleq, hq⟩ := hC
                                                                  refine r_move rfl rfl rfl (r_nil (qq rfl))
                                                                refine d_take 4 (v := .agg #[.int .i64 v53.1.Sign, .slice as25 ns25 cs25]) rfl (by kernel_rfl) (by kernel_rfl) (by kernel_rfl) rfl rfl rfl rfl (hx76.sh (hF40.trans hF41) [0, 1, 2, 3, 4, 5, 6, 7, 8, 9, 10, 11, 12, 13, 14, 15, 16] (by decide) rfl) (fun _ hC => ?_) ?_
                                                                · obtain ⟨_, _, hleq, hq⟩ := hC
                                                                  refine r_extract rfl rfl rfl rfl (r_nil (qq rfl))
                                                                refine d_take 5 (v := .int .i64 v53.2) rfl (by kernel_rfl) (by kernel_rfl) (by kernel_rfl) rfl rfl rfl rfl (hx76.sh (hF40.trans hF41) [0, 1, 2, 3, 4, 5, 6, 7, 8, 9, 10, 11, 12, 13, 14, 15, 16] (by decide) rfl) (fun _ hC => ?_) ?_
                                                                · obtain ⟨_, _, hleq, hq⟩ := hC
                                                                  refine r_extract rfl rfl rfl rfl (r_nil (qq rfl))
                                                                refine d_step 6 rfl (by kernel_rfl) ?_
                                                                refine r_alloc ze24 rfl rfl rfl hx76 ?_
                                                                intro b22 wx92 hx77
                                                                refine d_next (hx77.sh (hF40.trans hF41) [1, 2, 3, 4, 5, 6, 7, 8, 9, 10, 11, 12, 13, 14, 15, 16, 17] (by decide) rfl) ?_
                                                                refine d_step 7 rfl (by kernel_rfl) ?_
                                                                refine r_store sz24 rfl hx77 rfl rfl rfl rfl (i := 0) rfl rfl rfl rfl ?_
                                                                intro wx93 hx78
                                                                refine d_next (hx78.sh (hF40.trans hF41) [1, 2, 3, 4, 5, 6, 7, 8, 9, 10, 11, 12, 13, 14, 15, 16, 17] (by decide) rfl) ?_
                                                                refine d_take 8 (v := .int .i64 v53.2) rfl (by kernel_rfl) (by kernel_rfl) (by kernel_rfl) rfl rfl rfl rfl (hx78.sh (hF40.trans hF41) [1, 2, 3, 4, 5, 6, 7, 8, 9, 10, 11, 12, 13, 14, 15, 16, 17] (by decide) rfl) (fun _ hC => ?_) ?_
                                                                · obtain ⟨_, _, hleq, hq⟩ := hC
                                                                  refine r_assign rfl rfl rfl (r_nil (qq rfl))
                                                                refine d_done (by kernel_rfl) ?_
                                                                refine q_next (fun a ha => ?_)
                                                                cases hb29
                                                                exact ⟨_, b22, as25, ns25, cs25, (hF40.trans hF41), hx78.pick [0, 1, 2, 3, 4, 5, 6, 7, 8, 9, 10, 11, 12, 13, 14, 15, 16, 17] (by decide) rfl, hs25, ha.cut (l := [3, 7, 9, 11, 26, 27]) rfl⟩
                                                              · refine r_alloc ze24 rfl rfl rfl hx75 ?_
                                                                intro b22 wx91 hx76
                                                                refine d_next (hx76.sh hF40 [1, 2, 3, 4, 5, 6, 7, 8, 9, 10, 11, 12, 13, 14, 15, 16, 17] (by decide) rfl) ?_
                                                                refine d_step 2 rfl (by kernel_rfl) ?_
                                                                obtain ⟨v53, hv24, hb29⟩ := bind_some hb29
                                                                refine r_callG0 ent16 rfl rfl rfl rfl hx76 (big_Mul_ok _ _ _ _ hv24 hx76.sat ((((((((((((((((((((((((((((((hs1.mono hF1).mono hF2).mono hF3).mono hF4).mono hF5).mono hF6).mono hF7).mono hF8).mono hF9).mono hF10).mono hF11).mono hF12).mono hF13).mono hF14).mono hF15).mono hF16).mono hF17).mono hF18).mono hF19).mono hF20).mono hF21).mono hF22).mono hF23).mono hF24).mono hF25).mono hF26).mono hF27).mono hF28).mono hF29).mono hF40) hs24) ?_
                                                                rintro _ Fx41 _ wx92 hF41 hx77 ⟨as25, ns25, cs25, rfl, rfl, hs25⟩
                                                                refine d_next (hx77.sh (hF40.trans hF41) [1, 2, 3, 4, 5, 6, 7, 8, 9, 10, 11, 12, 13, 14, 15, 16, 17] (by decide) rfl) ?_
                                                                refine d_take 3 (v := .tuple #[.agg #[.int .i64 v53.1.Sign, .slice as25 ns25 cs25], .int .i64 v53.2]) rfl (by kernel_rfl) (by kernel_rfl) (by kernel_rfl) rfl rfl rfl rfl (hx77.sh (hF40.trans hF41) [1, 2, 3, 4, 5, 6, 7, 8, 9, 10, 11, 12, 13, 14, 15, 16, 17] (by decide) rfl) (fun _ hC => ?_) ?_
                                                                · obtain ⟨_, _, hleq, hq⟩ := hC
                                                                  refine r_move rfl rfl rfl (r_nil (qq rfl))
                                                                refine d_take 4 (v := .agg #[.int .i64 v53.1.Sign, .slice as25 ns25 cs25]) rfl (by kernel_rfl) (by kernel_rfl) (by kernel_rfl) rfl rfl rfl rfl (hx77.sh (hF40.trans hF41) [1, 2, 3, 4, 5, 6, 7, 8, 9, 10, 11, 12, 13, 14, 15, 16, 17] (by decide) rfl) (fun _ hC => ?_) ?_
                                                                · obtain ⟨_, _, hleq, hq⟩ := hC
                                                                  refine r_extract rfl rfl rfl rfl (r_nil (qq rfl))
                                                                refine d_take 5 (v := .int .i64 v53.2) rfl (by kernel_rfl) (by kernel_rfl) (by kernel_rfl) rfl rfl rfl rfl (hx77.sh (hF40.trans hF41) [1, 2, 3, 4, 5, 6, 7, 8, 9, 10, 11, 12, 13, 14, 15, 16, 17] (by decide) rfl) (fun _ hC => ?_) ?_
                                                                · obtain ⟨_, _, hleq, hq⟩ := hC
                                                                  refine r_extract rfl rfl rfl rfl (r_nil (qq rfl))
                                                                refine d_step 7 rfl (by kernel_rfl) ?_
                                                                refine r_store sz24 rfl hx77 rfl rfl rfl rfl (i := 0) rfl rfl rfl rfl ?_
                                                                intro wx93 hx78
                                                                refine d_next (hx78.sh (hF40.trans hF41) [1, 2, 3, 4, 5, 6, 7, 8, 9, 10, 11, 12, 13, 14, 15, 16, 17] (by decide) rfl) ?_
                                                                refine d_take 8 (v := .int .i64 v53.2) rfl (by kernel_rfl) (by kernel_rfl) (by kernel_rfl) rfl rfl rfl rfl (hx78.sh (hF40.trans hF41) [1, 2, 3, 4, 5, 6, 7, 8, 9, 10, 11, 12, 13, 14, 15, 16, 17] (by decide) rfl) (fun _ hC => ?_) ?_
                                                                · obtain ⟨_, _, hleq, hq⟩ := hC
                                                                  refine r_assign rfl rfl rfl (r_nil (qq rfl))
                                                                refine d_done (by kernel_rfl) ?_
                                                                refine q_next (fun a ha => ?_)
                                                                cases hb29
                                                                exact ⟨_, b22, as25, ns25, cs25, (hF40.trans hF41), hx78.pick [0, 1, 2, 3, 4, 5, 6, 7, 8, 9, 10, 11, 12, 13, 14, 15, 16, 17] (by decide) rfl, hs25, ha.cut (l := [3, 7, 9, 11, 26, 27]) rfl⟩
                                                            · refine r_alloc ze24 rfl rfl rfl hx74 ?_
                                                              intro b22 wx90 hx75
                                                              refine d_next (hx75.sh (Frz.refl _) [1, 2, 3, 4, 5, 6, 7, 8, 9, 10, 11, 12, 13, 14, 15, 16, 17] (by decide) rfl) ?_
                                                              refine d_step 1 rfl (by kernel_rfl) ?_
                                                              obtain ⟨v52, hv23, hb29⟩ := bind_some hb29
                                                              refine r_callG0 ent19 rfl rfl rfl rfl hx75 (big_Of_ok _ _ _ hv23 hx75.sat) ?_
                                                              rintro _ Fx40 _ wx91 hF40 hx76 ⟨as24, ns24, cs24, rfl, rfl, hs24⟩
                                                              refine d_next (hx76.sh hF40 [1, 2, 3, 4, 5, 6, 7, 8, 9, 10, 11, 12, 13, 14, 15, 16, 17] (by decide) rfl) ?_
                                                              refine d_step 2 rfl (by kernel_rfl) ?_
                                                              obtain ⟨v53, hv24, hb29⟩ := bind_some hb29
                                                              refine r_callG0 ent16 rfl rfl rfl rfl hx76 (big_Mul_ok _ _ _ _ hv24 hx76.sat ((((((((((((((((((((((((((((((hs1.mono hF1).mono hF2).mono hF3).mono hF4).mono hF5).mono hF6).mono hF7).mono hF8).mono hF9).mono hF10).mono hF11).mono hF12).mono hF13).mono hF14).mono hF15).mono hF16).mono hF17).mono hF18).mono hF19).mono hF20).mono hF21).mono hF22).mono hF23).mono hF24).mono hF25).mono hF26).mono hF27).mono hF28).mono hF29).mono hF40) hs24) ?_
                                                              rintro _ Fx41 _ wx92 hF41 hx77 ⟨as25, ns25, cs25, rfl, rfl, hs25⟩
                                                              refine d_next (hx77.sh (hF40.trans hF41) [1, 2, 3, 4, 5, 6, 7, 8, 9, 10, 11, 12, 13, 14, 15, 16, 17] (by decide) rfl) ?_
                                                              refine d_take 3 (v := .tuple #[.agg #[.int .i64 v53.1.Sign, .slice as25 ns25 cs25], .int .i64 v53.2]) rfl (by kernel_rfl) (by kernel_rfl) (by kernel_rfl) rfl rfl rfl rfl (hx77.sh (hF40.trans hF41) [1, 2, 3, 4, 5, 6, 7, 8, 9, 10, 11, 12, 13, 14, 15, 16, 17] (by decide) rfl) (fun _ hC => ?_) ?_
                                                              · obtain ⟨_, _, hleq, hq⟩ := hC
                                                                refine r_move rfl rfl rfl (r_nil (qq rfl))
                                                              refine d_take 4 (v := .agg #[.int .i64 v53.1.Sign, .slice as25 ns25 cs25]) rfl (by kernel_rfl) (by kernel_rfl) (by kernel_rfl) rfl rfl rfl rfl (hx77.sh (hF40.trans hF41) [1, 2, 3, 4, 5, 6, 7, 8, 9, 10, 11, 12, 13, 14, 15, 16, 17] (by decide) rfl) (fun _ hC => ?_) ?_
                                                              · obtain ⟨_, _, hleq, hq⟩ := hC
                                                                refine r_extract rfl rfl rfl rfl (r_nil (qq rfl))
                                                              refine d_take 5 (v := .int .i64 v53.2) rfl (by kernel_rfl) (by kernel_rfl) (by kernel_rfl) rfl rfl rfl rfl (hx77.sh (hF40.trans hF41) [1, 2, 3, 4, 5, 6, 7, 8, 9, 10, 11, 12, 13, 14, 15, 16, 17] (by decide) rfl) (fun _ hC => ?_) ?_
                                                              · obtain ⟨_, _, hleq, hq⟩ := hC
                                                                refine r_extract rfl rfl rfl rfl (r_nil (qq rfl))
                                                              refine d_step 7 rfl (by kernel_rfl) ?_
                                                              refine r_store sz24 rfl hx77 rfl rfl rfl rfl (i := 0) rfl rfl rfl rfl ?_
                                                              intro wx93 hx78
                                                              refine d_next (hx78.sh (hF40.trans hF41) [1, 2, 3, 4, 5, 6, 7, 8, 9, 10, 11, 12, 13, 14, 15, 16, 17] (by decide) rfl) ?_
                                                              refine d_take 8 (v := .int .i64 v53.2) rfl (by kernel_rfl) (by kernel_rfl) (by kernel_rfl) rfl rfl rfl rfl (hx78.sh (hF40.trans hF41) [1, 2, 3, 4, 5, 6, 7, 8, 9, 10, 11, 12, 13, 14, 15, 16, 17] (by decide) rfl) (fun _ hC => ?_) ?_
                                                              · obtain ⟨_, _, hleq, hq⟩ := hC
                                                                refine r_assign rfl rfl rfl (r_nil (qq rfl))
                                                              refine d_done (by kernel_rfl) ?_
                                                              refine q_next (fun a ha => ?_)
                                                              cases hb29
                                                              exact ⟨_, b22, as25, ns25, cs25, (hF40.trans hF41), hx78.pick [0, 1, 2, 3, 4, 5, 6, 7, 8, 9, 10, 11, 12, 13, 14, 15, 16, 17] (by decide) rfl, hs25, ha.cut (l := [3, 7, 9, 11, 26, 27]) rfl⟩
                                                        · clear hm
                                                          refine c_regionH (SH Fx28 [.box b17 24 [.int .i64 v34.1.Sign, .slice as18 ns18 cs18], .box b16 24 [.int .i64 v33.1.Sign, .slice as17 ns17 cs17], .box b15 24 [.int .i64 v32.1.Sign, .slice as16 ns16 cs16], .box b14 24 [.int .i64 v31.1.Sign, .slice as15 ns15 cs15], .box b13 24 [.int .i64 v30.1.Sign, .slice as14 ns14 cs14], .box b12 24 [.int .i64 v21.1.Sign, .slice as11 ns11 cs11], .box b11 24 [.int .i64 v20.1.Sign, .slice as10 ns10 cs10], .box b10 24 [.int .i64 v19.1.Sign, .slice as9 ns9 cs9], .box b9 24 [.int .i64 v23.1.Sign, .slice as13 ns13 cs13], .box b8 24 [.int .i64 v22.1.Sign, .slice as12 ns12 cs12], .box b7 24 [.int .i64 v10.1.Sign, .slice as6 ns6 cs6], .box b6 24 [.int .i64 v9.1.Sign, .slice as5 ns5 cs5], .box b5 24 [.int .i64 v8.1.Sign, .slice as4 ns4 cs4], .box b4 24 [.int .i64 c1.Sign, .slice as3 ns3 cs3], .box b3 24 [.int .i64 b1.Sign, .slice as2 ns2 cs2], .box b2 24 [.int .i64 ax1.Sign, .slice as1 ns1 cs1]]) 9 rfl (by kernel_rfl) hx59 ?_
                                                          intro wx94 hx79
                                                          refine d_take 0 (v := .agg #[.int .i64 ax1.Sign, .slice as1 ns1 cs1]) rfl (by kernel_rfl) (by kernel_rfl) (by kernel_rfl) rfl rfl rfl rfl (hx79.sh (Frz.refl _) [0, 1, 2, 3, 4, 5, 6, 7, 8, 9, 10, 11, 12, 13, 14, 15] (by decide) rfl) (fun _ hC => ?_) ?_
                                                          · obtain ⟨_, _, hleq, hq⟩ := hC
                                                            refine r_loadBA (cs' := [.int .i64 ax1.Sign, .slice as1 ns1 cs1]) ag24 sz24 rfl rfl hq rfl (i := 15) rfl rfl rfl (r_nil (qq rfl))
                                                          refine d_two 1 6 rfl rfl (by kernel_rfl) ?_ ?_
                                                          · obtain ⟨v54, hv25, hb28⟩ := bind_some hb28
                                                            refine r_callG0 ent19 rfl rfl rfl rfl hx79 (big_Of_ok _ _ _ hv25 hx79.sat) ?_
                                                            rintro _ Fx42 _ wx95 hF42 hx80 ⟨as26, ns26, cs26, rfl, rfl, hs26⟩
                                                            refine d_next (hx80.sh hF42 [0, 1, 2, 3, 4, 5, 6, 7, 8, 9, 10, 11, 12, 13, 14, 15] (by decide) rfl) ?_
                                                            refine d_two 2 6 rfl rfl (by kernel_rfl) ?_ ?_
                                                            · obtain ⟨v55, hv26, hb28⟩ := bind_some hb28
                                                              refine r_callG0 ent20 rfl rfl rfl rfl hx80 (big_Add_ok _ _ _ _ hv26 hx80.sat (((((((((((((((((((((((((((((hs1.mono hF1).mono hF2).mono hF3).mono hF4).mono hF5).mono hF6).mono hF7).mono hF8).mono hF9).mono hF10).mono hF11).mono hF12).mono hF13).mono hF14).mono hF15).mono hF16).mono hF17).mono hF18).mono hF19).mono hF20).mono hF21).mono hF22).mono hF23).mono hF24).mono hF25).mono hF26).mono hF27).mono hF28).mono hF42) hs26) ?_
                                                              rintro _ Fx43 _ wx96 hF43 hx81 ⟨as27, ns27, cs27, rfl, rfl, hs27⟩
                                                              refine d_next (hx81.sh (hF42.trans hF43) [0, 1, 2, 3, 4, 5, 6, 7, 8, 9, 10, 11, 12, 13, 14, 15] (by decide) rfl) ?_
                                                              refine d_take 3 (v := .tuple #[.agg #[.int .i64 v55.1.Sign, .slice as27 ns27 cs27], .int .i64 v55.2]) rfl (by kernel_rfl) (by kernel_rfl) (by kernel_rfl) rfl rfl rfl rfl (hx81.sh (hF42.trans hF43) [0, 1, 2, 3, 4, 5, 6, 7, 8, 9, 10, 11, 12, 13, 14, 15] (by decide) rfl) (fun _ hC => ?_) ?_
                                                              · obtain ⟨_, _, hleq, hq⟩ := hC
                                                                refine r_move rfl rfl rfl (r_nil (qq rfl))
                                                              refine d_take 4 (v := .agg #[.int .i64 v55.1.Sign, .slice as27 ns27 cs27]) rfl (by kernel_rfl) (by kernel_rfl) (by kernel_rfl) rfl rfl rfl rfl (hx81.sh (hF42.trans hF43) [0, 1, 2, 3, 4, 5, 6, 7, 8, 9, 10, 11, 12, 13, 14, 15] (by decide) rfl) (fun _ hC => ?_) ?_
                                                              · obtain ⟨_, _, hleq, hq⟩ := hC
                                                                refine r_extract rfl rfl rfl rfl (r_nil (qq rfl))
                                                              refine d_take 5 (v := .int .i64 v55.2) rfl (by kernel_rfl) (by kernel_rfl) (by kernel_rfl) rfl rfl rfl rfl (hx81.sh (hF42.trans hF43) [0, 1, 2, 3, 4, 5, 6, 7, 8, 9, 10, 11, 12, 13, 14, 15] (by decide) rfl) (fun _ hC => ?_) ?_
                                                              · obtain ⟨_, _, hleq, hq⟩ := hC
                                                                refine r_extract rfl rfl rfl rfl (r_nil (qq rfl))
                                                              refine d_step 6 rfl (by kernel_rfl) ?_
                                                              refine r_alloc ze24 rfl rfl rfl hx81 ?_
                                                              intro b23 wx97 hx82
                                                              refine d_next (hx82.sh (hF42.trans hF43) [1, 2, 3, 4, 5, 6, 7, 8, 9, 10, 11, 12, 13, 14, 15, 16] (by decide) rfl) ?_
                                                              refine d_step 7 rfl (by kernel_rfl) ?_
                                                              refine r_store sz24 rfl hx82 rfl rfl rfl rfl (i := 0) rfl rfl rfl rfl ?_
                                                              intro wx98 hx83
                                                              refine d_next (hx83.sh (hF42.trans hF43) [1, 2, 3, 4, 5, 6, 7, 8, 9, 10, 11, 12, 13, 14, 15, 16] (by decide) rfl) ?_
                                                              refine d_take 8 (v := .int .i64 v55.2) rfl (by kernel_rfl) (by kernel_rfl) (by kernel_rfl) rfl rfl rfl rfl (hx83.sh (hF42.trans hF43) [1, 2, 3, 4, 5, 6, 7, 8, 9, 10, 11, 12, 13, 14, 15, 16] (by decide) rfl) (fun _ hC => ?_) ?_
                                                              · obtain ⟨_, _, hleq, hq⟩ := hC
                                                                refine r_assign rfl rfl rfl (r_nil (qq rfl))
                                                              refine d_done (by kernel_rfl) ?_
                                                              refine q_next (fun a ha => ?_)
                                                              cases hb28
                                                              exact ⟨_, b23, as27, ns27, cs27, (hF42.trans hF43), hx83.pick [0, 1, 2, 3, 4, 5, 6, 7, 8, 9, 10, 11, 12, 13, 14, 15, 16] (by decide) rfl, hs27, ha.cut (l := [3, 7, 9, 26]) rfl⟩
                                                            · refine r_alloc ze24 rfl rfl rfl hx80 ?_
                                                              intro b23 wx96 hx81
                                                              refine d_next (hx81.sh hF42 [1, 2, 3, 4, 5, 6, 7, 8, 9, 10, 11, 12, 13, 14, 15, 16] (by decide) rfl) ?_
                                                              refine d_step 2 rfl (by kernel_rfl) ?_
                                                              obtain ⟨v55, hv26, hb28⟩ := bind_some hb28
                                                              refine r_callG0 ent20 rfl rfl rfl rfl hx81 (big_Add_ok _ _ _ _ hv26 hx81.sat (((((((((((((((((((((((((((((hs1.mono hF1).mono hF2).mono hF3).mono hF4).mono hF5).mono hF6).mono hF7).mono hF8).mono hF9).mono hF10).mono hF11).mono hF12).mono hF13).mono hF14).mono hF15).mono hF16).mono hF17).mono hF18).mono hF19).mono hF20).mono hF21).mono hF22).mono hF23).mono hF24).mono hF25).mono hF26).mono hF27).mono hF28).mono hF42) hs26) ?_
                                                              rintro _ Fx43 _ wx97 hF43 hx82 ⟨as27, ns27, cs27, rfl, rfl, hs27⟩
                                                              refine d_next (hx82.sh (hF42.trans hF43) [1, 2, 3, 4, 5, 6, 7, 8, 9, 10, 11, 12, 13, 14, 15, 16] (by decide) rfl) ?_
                                                              refine d_take 3 (v := .tuple #[.agg #[.int .i64 v55.1.Sign, .slice as27 ns27 cs27], .int .i64 v55.2]) rfl (by kernel_rfl) (by kernel_rfl) (by kernel_rfl) rfl rfl rfl rfl (hx82.sh (hF42.trans hF43) [1, 2, 3, 4, 5, 6, 7, 8, 9, 10, 11, 12, 13, 14, 15, 16] (by decide) rfl) (fun _ hC => ?_) ?_
                                                              · obtain ⟨_, _, hleq, hq⟩ := hC
                                                                refine r_move rfl rfl rfl (r_nil (qq rfl))
                                                              refine d_take 4 (v := .agg #[.int .i64 v55.1.Sign, .slice as27 ns27 cs27]) rfl (by kernel_rfl) (by kernel_rfl) (by kernel_rfl) rfl rfl rfl rfl (hx82.sh (hF42.trans hF43) [1, 2, 3, 4, 5, 6, 7, 8, 9, 10, 11, 12, 13, 14, 15, 16] (by decide) rfl) (fun _ hC => ?_) ?_
                                                              · obtain ⟨_, _, hleq, hq⟩ := hC
                                                                refine r_extract rfl rfl rfl rfl (r_nil (qq rfl))
                                                              refine d_take 5 (v := .int .i64 v55.2) rfl (by kernel_rfl) (by kernel_rfl) (by kernel_rfl) rfl rfl rfl rfl (hx82.sh (hF42.trans hF43) [1, 2, 3, 4, 5, 6, 7, 8, 9, 10, 11, 12, 13, 14, 15, 16] (by decide) rfl) (fun _ hC => ?_) ?_
                                                              · obtain ⟨_, _, hleq, hq⟩ := hC
                                                                refine r_extract rfl rfl rfl rfl (r_nil (qq rfl))
                                                              refine d_step 7 rfl (by kernel_rfl) ?_
                                                              refine r_store sz24 rfl hx82 rfl rfl rfl rfl (i := 0) rfl rfl rfl rfl ?_
                                                              intro wx98 hx83
                                                              refine d_next (hx83.sh (hF42.trans hF43) [1, 2, 3, 4, 5, 6, 7, 8, 9, 10, 11, 12, 13, 14, 15, 16] (by decide) rfl) ?_
                                                              refine d_take 8 (v := .int .i64 v55.2) rfl (by kernel_rfl) (by kernel_rfl) (by kernel_rfl) rfl rfl rfl rfl (hx83.sh (hF42.trans hF43) [1, 2, 3, 4, 5, 6, 7, 8, 9, 10, 11, 12, 13, 14, 15, 16] (by decide) rfl) (fun _ hC => ?_) ?_
                                                              · obtain ⟨_, _, hleq, hq⟩ := hC
                                                                refine r_assign rfl rfl rfl (r_nil (qq rfl))
                                                              refine d_done (by kernel_rfl) ?_
                                                              refine q_next (fun a ha => ?_)
                                                              cases hb28
                                                              exact ⟨_, b23, as27, ns27, cs27, (hF42.trans hF43), hx83.pick [0, 1, 2, 3, 4, 5, 6, 7, 8, 9, 10, 11, 12, 13, 14, 15, 16] (by decide) rfl, hs27, ha.cut (l := [3, 7, 9, 26]) rfl⟩
                                                          · refine r_alloc ze24 rfl rfl rfl hx79 ?_
                                                            intro b23 wx95 hx80
                                                            refine d_next (hx80.sh (Frz.refl _) [1, 2, 3, 4, 5, 6, 7, 8, 9, 10, 11, 12, 13, 14, 15, 16] (by decide) rfl) ?_
                                                            refine d_step 1 rfl (by kernel_rfl) ?_
                                                            obtain ⟨v54, hv25, hb28⟩ := bind_some hb28
                                                            refine r_callG0 ent19 rfl rfl rfl rfl hx80 (big_Of_ok _ _ _ hv25 hx80.sat) ?_
                                                            rintro _ Fx42 _ wx96 hF42 hx81 ⟨as26, ns26, cs26, rfl, rfl, hs26⟩
                                                            refine d_next (hx81.sh hF42 [1, 2, 3, 4, 5, 6, 7, 8, 9, 10, 11, 12, 13, 14, 15, 16] (by decide) rfl) ?_
                                                            refine d_step 2 rfl (by kernel_rfl) ?_
                                                            obtain ⟨v55, hv26, hb28⟩ := bind_some hb28
                                                            refine r_callG0 ent20 rfl rfl rfl rfl hx81 (big_Add_ok _ _ _ _ hv26 hx81.sat (((((((((((((((((((((((((((((hs1.mono hF1).mono hF2).mono hF3).mono hF4).mono hF5).mono hF6).mono hF7).mono hF8).mono hF9).mono hF10).mono hF11).mono hF12).mono hF13).mono hF14).mono hF15).mono hF16).mono hF17).mono hF18).mono hF19).mono hF20).mono hF21).mono hF22).mono hF23).mono hF24).mono hF25).mono hF26).mono hF27).mono hF28).mono hF42) hs26) ?_
                                                            rintro _ Fx43 _ wx97 hF43 hx82 ⟨as27, ns27, cs27, rfl, rfl, hs27⟩
                                                            refine d_next (hx82.sh (hF42.trans hF43) [1, 2, 3, 4, 5, 6, 7, 8, 9, 10, 11, 12, 13, 14, 15, 16] (by decide) rfl) ?_
                                                            refine d_take 3 (v := .tuple #[.agg #[.int .i64 v55.1.Sign, .slice as27 ns27 cs27], .int .i64 v55.2]) rfl (by kernel_rfl) (by kernel_rfl) (by kernel_rfl) rfl rfl rfl rfl (hx82.sh (hF42.trans hF43) [1, 2, 3, 4, 5, 6, 7, 8, 9, 10, 11, 12, 13, 14, 15, 16] (by decide) rfl) (fun _ hC => ?_) ?_
                                                            · obtain ⟨_, _, hleq, hq⟩ := hC
                                                              refine r_move rfl rfl rfl (r_nil (qq rfl))
                                                            refine d_take 4 (v := .agg #[.int .i64 v55.1.Sign, .slice as27 ns27 cs27]) rfl (by kernel_rfl) (by kernel_rfl) (by kernel_rfl) rfl rfl rfl rfl (hx82.sh (hF42.trans hF43) [1, 2, 3, 4, 5, 6, 7, 8, 9, 10, 11, 12, 13, 14, 15, 16] (by decide) rfl) (fun _ hC => ?_) ?_
                                                            · obtain ⟨_, _, hleq, hq⟩ := hC
                                                              refine r_extract rfl rfl rfl rfl (r_nil (qq rfl))
                                                            refine d_take 5 (v := .int .i64 v55.2) rfl (by kernel_rfl) (by kernel_rfl) (by kernel_rfl) rfl rfl rfl rfl (hx82.sh (hF42.trans hF43) [1, 2, 3, 4, 5, 6, 7, 8, 9, 10, 11, 12, 13, 14, 15, 16] (by decide) rfl) (fun _ hC => ?_) ?_
                                                            · obtain ⟨_, _, hleq, hq⟩ := hC
                                                              refine r_extract rfl rfl rfl rfl (r_nil (qq rfl))
                                                            refine d_step 7 rfl (by kernel_rfl) ?_
                                                            refine r_store sz24 rfl hx82 rfl rfl rfl rfl (i := 0) rfl rfl rfl rfl ?_
                                                            intro wx98 hx83
                                                            refine d_next (hx83.sh (hF42.trans hF43) [1, 2, 3, 4, 5, 6, 7, 8, 9, 10, 11, 12, 13, 14, 15, 16] (by decide) rfl) ?_
                                                            refine d_take 8 (v := .int .i64 v55.2) rfl (by kernel_rfl) (by kernel_rfl) (by kernel_rfl) rfl rfl rfl rfl (hx83.sh (hF42.trans hF43) [1, 2, 3, 4, 5, 6, 7, 8, 9, 10, 11, 12, 13, 14, 15, 16] (by decide) rfl) (fun _ hC => ?_) ?_
                                                            · obtain ⟨_, _, hleq, hq⟩ := hC
                                                              refine r_assign rfl rfl rfl (r_nil (qq rfl))
                                                            refine d_done (by kernel_rfl) ?_
                                                            refine q_next (fun a ha => ?_)
                                                            cases hb28
                                                            exact ⟨_, b23, as27, ns27, cs27, (hF42.trans hF43), hx83.pick [0, 1, 2, 3, 4, 5, 6, 7, 8, 9, 10, 11, 12, 13, 14, 15, 16] (by decide) rfl, hs27, ha.cut (l := [3, 7, 9, 26]) rfl⟩
                                                    · clear hm
                                                      rcases cond_some hb26 with ⟨hb43, hb26⟩ | ⟨hb43, hb26⟩
                                                      · refine r_lit 233 rfl hb43 ?_
                                                        refine r_off rfl (by decide) rfl ?_
                                                        refine r_off rfl (by decide) rfl ?_
                                                        refine r_off rfl (by decide) rfl ?_
                                                        refine r_off rfl (by decide) rfl ?_
                                                        refine r_pick_true rfl rfl rfl rfl ?_
                                                        refine r_nil ?_
                                                        refine q_next (fun a ha => ?_)
                                                        cases hb26
                                                        exact ⟨_, Frz.refl _, hx58.pick [0, 1, 2, 3, 4, 5, 6, 7, 8, 9, 10, 11, 12, 13, 14, 15] (by decide) rfl, ha.cut (l := [3, 7, 238]) rfl⟩
                                                      · refine r_lit 233 rfl hb43 ?_
                                                        refine r_loadBA (cs' := [.int .i64 v34.1.Sign, .slice as18 ns18 cs18]) ag24 sz24 rfl rfl hx58 rfl (i := 0) rfl rfl rfl ?_
                                                        refine r_loadBA (cs' := [.int .i64 ax1.Sign, .slice as1 ns1 cs1]) ag24 sz24 rfl rfl hx58 rfl (i := 15) rfl rfl rfl ?_
                                                        obtain ⟨v56, hv27, hb26⟩ := bind_some hb26
                                                        refine r_callG0 ent21 rfl rfl rfl rfl hx58 (ref04_Same_ok _ _ _ _ hv27 hx58.sat (hs18.mono hF27) (((((((((((((((((((((((((((hs1.mono hF1).mono hF2).mono hF3).mono hF4).mono hF5).mono hF6).mono hF7).mono hF8).mono hF9).mono hF10).mono hF11).mono hF12).mono hF13).mono hF14).mono hF15).mono hF16).mono hF17).mono hF18).mono hF19).mono hF20).mono hF21).mono hF22).mono hF23).mono hF24).mono hF25).mono hF26).mono hF27)) ?_
                                                        rintro _ Fx44 _ wx99 hF44 hx84 ⟨rfl, rfl⟩
                                                        refine r_not rfl rfl rfl ?_
                                                        refine r_pick_false rfl rfl rfl rfl ?_
                                                        refine r_nil ?_
                                                        refine q_next (fun a ha => ?_)
                                                        cases hb26
                                                        exact ⟨_, hF44, hx84.pick [0, 1, 2, 3, 4, 5, 6, 7, 8, 9, 10, 11, 12, 13, 14, 15] (by decide) rfl, ha.cut (l := [3, 7, 238]) rfl⟩
                                                  · clear hm
                                                    rcases cond_some hb25 with ⟨hb44, hb25⟩ | ⟨hb44, hb25⟩
                                                    · refine r_lit 227 rfl hb44 ?_
                                                      refine r_off rfl (by decide) rfl ?_
                                                      refine r_off rfl (by decide) rfl ?_
                                                      refine r_off rfl (by decide) rfl ?_
                                                      refine r_off rfl (by decide) rfl ?_
                                                      refine r_pick_true rfl rfl rfl rfl ?_
                                                      refine r_nil ?_
                                                      refine q_next (fun a ha => ?_)
                                                      cases hb25
                                                      exact ⟨_, Frz.refl _, hx57.pick [0, 1, 2, 3, 4, 5, 6, 7, 8, 9, 10, 11, 12, 13, 14, 15] (by decide) rfl, ha.cut (l := [3, 7, 25, 232]) rfl⟩
                                                    · refine r_lit 227 rfl hb44 ?_
                                                      refine r_loadBA (cs' := [.int .i64 v30.1.Sign, .slice as14 ns14 cs14]) ag24 sz24 rfl rfl hx57 rfl (i := 4) rfl rfl rfl ?_
                                                      refine r_loadBA (cs' := [.int .i64 v32.1.Sign, .slice as16 ns16 cs16]) ag24 sz24 rfl rfl hx57 rfl (i := 2) rfl rfl rfl ?_
                                                      obtain ⟨v57, hv28, hb25⟩ := bind_some hb25
                                                      refine r_callG0 ent21 rfl rfl rfl rfl hx57 (ref04_Same_ok _ _ _ _ hv28 hx57.sat ((((hs14.mono hF23).mono hF24).mono hF25).mono hF26) ((hs16.mono hF25).mono hF26)) ?_
                                                      rintro _ Fx45 _ wx100 hF45 hx85 ⟨rfl, rfl⟩
                                                      refine r_not rfl rfl rfl ?_
                                                      refine r_pick_false rfl rfl rfl rfl ?_
                                                      refine r_nil ?_
                                                      refine q_next (fun a ha => ?_)
                                                      cases hb25
                                                      exact ⟨_, hF45, hx85.pick [0, 1, 2, 3, 4, 5, 6, 7, 8, 9, 10, 11, 12, 13, 14, 15] (by decide) rfl, ha.cut (l := [3, 7, 25, 232]) rfl⟩
                                                · clear hm
                                                  rcases cond_some hb24 with ⟨hb45, hb24⟩ | ⟨hb45, hb24⟩
                                                  · refine r_lit 223 rfl hb45 ?_
                                                    refine r_off rfl (by decide) rfl ?_
                                                    refine r_off rfl (by decide) rfl ?_
                                                    refine r_pick_true rfl rfl rfl rfl ?_
                                                    refine r_nil ?_
                                                    refine q_next (fun a ha => ?_)
                                                    cases hb24
                                                    exact ⟨rfl, ha.cut (l := [3, 7, 21, 23, 25, 226]) rfl⟩
                                                  · refine r_lit 223 rfl hb45 ?_
                                                    refine r_move rfl rfl rfl ?_
                                                    refine r_bin rfl rfl rfl rfl rfl ?_
                                                    refine r_pick_false rfl rfl rfl rfl ?_
                                                    refine r_nil ?_
                                                    refine q_next (fun a ha => ?_)
                                                    cases hb24
                                                    exact ⟨rfl, ha.cut (l := [3, 7, 21, 23, 25, 226]) rfl⟩
                                              · clear hm
                                                rcases cond_some hb23 with ⟨hb46, hb23⟩ | ⟨hb46, hb23⟩
                                                · refine r_lit 219 rfl hb46 ?_
                                                  refine r_off rfl (by decide) rfl ?_
                                                  refine r_off rfl (by decide) rfl ?_
                                                  refine r_pick_true rfl rfl rfl rfl ?_
                                                  refine r_nil ?_
                                                  refine q_next (fun a ha => ?_)
                                                  cases hb23
                                                  exact ⟨rfl, ha.cut (l := [3, 7, 17, 21, 23, 25, 222]) rfl⟩
                                                · refine r_lit 219 rfl hb46 ?_
                                                  refine r_move rfl rfl rfl ?_
                                                  refine r_bin rfl rfl rfl rfl rfl ?_
                                                  refine r_pick_false rfl rfl rfl rfl ?_
                                                  refine r_nil ?_
                                                  refine q_next (fun a ha => ?_)
                                                  cases hb23
                                                  exact ⟨rfl, ha.cut (l := [3, 7, 17, 21, 23, 25, 222]) rfl⟩
                                            · clear hm
                                              rcases cond_some hb22 with ⟨hb47, hb22⟩ | ⟨hb47, hb22⟩
                                              · refine r_lit 215 rfl hb47 ?_
                                                refine r_off rfl (by decide) rfl ?_
                                                refine r_off rfl (by decide) rfl ?_
                                                refine r_pick_true rfl rfl rfl rfl ?_
                                                refine r_nil ?_
                                                refine q_next (fun a ha => ?_)
                                                cases hb22
                                                exact ⟨rfl, ha.cut (l := [3, 7, 15, 17, 21, 23, 25, 218]) rfl⟩
                                              · refine r_lit 215 rfl hb47 ?_
                                                refine r_move rfl rfl rfl ?_
                                                refine r_bin rfl rfl rfl rfl rfl ?_
                                                refine r_pick_false rfl rfl rfl rfl ?_
                                                refine r_nil ?_
                                                refine q_next (fun a ha => ?_)
                                                cases hb22
                                                exact ⟨rfl, ha.cut (l := [3, 7, 15, 17, 21, 23, 25, 218]) rfl⟩
                                          · clear hm
                                            rcases cond_some hb21 with ⟨hb48, hb21⟩ | ⟨hb48, hb21⟩
                                            · refine r_lit 211 rfl hb48 ?_
                                              refine r_off rfl (by decide) rfl ?_
                                              refine r_off rfl (by decide) rfl ?_
                                              refine r_pick_true rfl rfl rfl rfl ?_
                                              refine r_nil ?_
                                              refine q_next (fun a ha => ?_)
                                              cases hb21
                                              exact ⟨rfl, ha.cut (l := [3, 7, 13, 15, 17, 21, 23, 25, 214]) rfl⟩
                                            · refine r_lit 211 rfl hb48 ?_
                                              refine r_move rfl rfl rfl ?_
                                              refine r_bin rfl rfl rfl rfl rfl ?_
                                              refine r_pick_false rfl rfl rfl rfl ?_
                                              refine r_nil ?_
                                              refine q_next (fun a ha => ?_)
                                              cases hb21
                                              exact ⟨rfl, ha.cut (l := [3, 7, 13, 15, 17, 21, 23, 25, 214]) rfl⟩
                                      · clear hm
                                        rcases cond_some hb19 with ⟨hb49, hb19⟩ | ⟨hb49, hb19⟩
                                        · refine r_lit 173 rfl hb49 ?_
                                          refine r_off rfl (by decide) rfl ?_
                                          refine r_off rfl (by decide) rfl ?_
                                          refine r_off rfl (by decide) rfl ?_
                                          refine r_off rfl (by decide) rfl ?_
                                          refine r_pick_true rfl rfl rfl rfl ?_
                                          refine r_nil ?_
                                          refine q_next (fun a ha => ?_)
                                          cases hb19
                                          exact ⟨_, Frz.refl _, hx41.pick [0, 1, 2, 3, 4, 5, 6, 7, 8, 9, 10] (by decide) rfl, ha.cut (l := [3, 4, 5, 7, 12, 18, 178]) rfl⟩
                                        · refine r_lit 173 rfl hb49 ?_
                                          refine r_loadBA (cs' := [.int .i64 v22.1.Sign, .slice as12 ns12 cs12]) ag24 sz24 rfl rfl hx41 rfl (i := 4) rfl rfl rfl ?_
                                          refine r_loadBA (cs' := [.int .i64 v23.1.Sign, .slice as13 ns13 cs13]) ag24 sz24 rfl rfl hx41 rfl (i := 3) rfl rfl rfl ?_
                                          obtain ⟨v58, hv29, hb19⟩ := bind_some hb19
                                          refine r_callG0 ent21 rfl rfl rfl rfl hx41 (ref04_Same_ok _ _ _ _ hv29 hx41.sat ((hs12.mono hF19).mono hF20) (hs13.mono hF20)) ?_
                                          rintro _ Fx46 _ wx101 hF46 hx86 ⟨rfl, rfl⟩
                                          refine r_not rfl rfl rfl ?_
                                          refine r_pick_false rfl rfl rfl rfl ?_
                                          refine r_nil ?_
                                          refine q_next (fun a ha => ?_)
                                          cases hb19
                                          exact ⟨_, hF46, hx86.pick [0, 1, 2, 3, 4, 5, 6, 7, 8, 9, 10] (by decide) rfl, ha.cut (l := [3, 4, 5, 7, 12, 18, 178]) rfl⟩
                                    · clear hm
                                      rcases cond_some hb18 with ⟨hb50, hb18⟩ | ⟨hb50, hb18⟩
                                      · refine r_lit 167 rfl hb50 ?_
                                        refine r_off rfl (by decide) rfl ?_
                                        refine r_off rfl (by decide) rfl ?_
                                        refine r_off rfl (by decide) rfl ?_
                                        refine r_off rfl (by decide) rfl ?_
                                        refine r_pick_true rfl rfl rfl rfl ?_
                                        refine r_nil ?_
                                        refine q_next (fun a ha => ?_)
                                        cases hb18
                                        exact ⟨_, Frz.refl _, hx40.pick [0, 1, 2, 3, 4, 5, 6, 7, 8, 9, 10] (by decide) rfl, ha.cut (l := [3, 4, 5, 7, 12, 14, 16, 18, 172]) rfl⟩
                                      · refine r_lit 167 rfl hb50 ?_
                                        refine r_loadBA (cs' := [.int .i64 v19.1.Sign, .slice as9 ns9 cs9]) ag24 sz24 rfl rfl hx40 rfl (i := 2) rfl rfl rfl ?_
                                        refine r_loadBA (cs' := [.int .i64 v20.1.Sign, .slice as10 ns10 cs10]) ag24 sz24 rfl rfl hx40 rfl (i := 1) rfl rfl rfl ?_
                                        obtain ⟨v59, hv30, hb18⟩ := bind_some hb18
                                        refine r_callG0 ent21 rfl rfl rfl rfl hx40 (ref04_Same_ok _ _ _ _ hv30 hx40.sat ((((hs9.mono hF16).mono hF17).mono hF18).mono hF19) (((hs10.mono hF17).mono hF18).mono hF19)) ?_
                                        rintro _ Fx47 _ wx102 hF47 hx87 ⟨rfl, rfl⟩
                                        refine r_not rfl rfl rfl ?_
                                        refine r_pick_false rfl rfl rfl rfl ?_
                                        refine r_nil ?_
                                        refine q_next (fun a ha => ?_)
                                        cases hb18
                                        exact ⟨_, hF47, hx87.pick [0, 1, 2, 3, 4, 5, 6, 7, 8, 9, 10] (by decide) rfl, ha.cut (l := [3, 4, 5, 7, 12, 14, 16, 18, 172]) rfl⟩
                                  · clear hm
                                    rcases cond_some hb17 with ⟨hb51, hb17⟩ | ⟨hb51, hb17⟩
                                    · refine r_lit 163 rfl hb51 ?_
                                      refine r_off rfl (by decide) rfl ?_
                                      refine r_off rfl (by decide) rfl ?_
                                      refine r_pick_true rfl rfl rfl rfl ?_
                                      refine r_nil ?_
                                      refine q_next (fun a ha => ?_)
                                      cases hb17
                                      exact ⟨rfl, ha.cut (l := [3, 4, 5, 7, 12, 14, 16, 18, 19, 166]) rfl⟩
                                    · refine r_lit 163 rfl hb51 ?_
                                      refine r_move rfl rfl rfl ?_
                                      refine r_bin rfl rfl rfl rfl rfl ?_
                                      refine r_pick_false rfl rfl rfl rfl ?_
                                      refine r_nil ?_
                                      refine q_next (fun a ha => ?_)
                                      cases hb17
                                      exact ⟨rfl, ha.cut (l := [3, 4, 5, 7, 12, 14, 16, 18, 19, 166]) rfl⟩
                                · clear hm
                                  rcases cond_some hb16 with ⟨hb52, hb16⟩ | ⟨hb52, hb16⟩
                                  · refine r_lit 159 rfl hb52 ?_
                                    refine r_off rfl (by decide) rfl ?_
                                    refine r_off rfl (by decide) rfl ?_
                                    refine r_pick_true rfl rfl rfl rfl ?_
                                    refine r_nil ?_
                                    refine q_next (fun a ha => ?_)
                                    cases hb16
                                    exact ⟨rfl, ha.cut (l := [3, 4, 5, 7, 12, 14, 16, 17, 18, 19, 162]) rfl⟩
                                  · refine r_lit 159 rfl hb52 ?_
                                    refine r_move rfl rfl rfl ?_
                                    refine r_bin rfl rfl rfl rfl rfl ?_
                                    refine r_pick_false rfl rfl rfl rfl ?_
                                    refine r_nil ?_
                                    refine q_next (fun a ha => ?_)
                                    cases hb16
                                    exact ⟨rfl, ha.cut (l := [3, 4, 5, 7, 12, 14, 16, 17, 18, 19, 162]) rfl⟩
                              · clear hm
                                rcases cond_some hb15 with ⟨hb53, hb15⟩ | ⟨hb53, hb15⟩
                                · refine r_lit 155 rfl hb53 ?_
                                  refine r_off rfl (by decide) rfl ?_
                                  refine r_off rfl (by decide) rfl ?_
                                  refine r_pick_true rfl rfl rfl rfl ?_
                                  refine r_nil ?_
                                  refine q_next (fun a ha => ?_)
                                  cases hb15
                                  exact ⟨rfl, ha.cut (l := [3, 4, 5, 7, 12, 14, 15, 16, 17, 18, 19, 158]) rfl⟩
                                · refine r_lit 155 rfl hb53 ?_
                                  refine r_move rfl rfl rfl ?_
                                  refine r_bin rfl rfl rfl rfl rfl ?_
                                  refine r_pick_false rfl rfl rfl rfl ?_
                                  refine r_nil ?_
                                  refine q_next (fun a ha => ?_)
                                  cases hb15
                                  exact ⟨rfl, ha.cut (l := [3, 4, 5, 7, 12, 14, 15, 16, 17, 18, 19, 158]) rfl⟩
                            · clear hm
                              rcases cond_some hb14 with ⟨hb54, hb14⟩ | ⟨hb54, hb14⟩
                              · refine r_lit 151 rfl hb54 ?_
                                refine r_off rfl (by decide) rfl ?_
                                refine r_off rfl (by decide) rfl ?_
                                refine r_pick_true rfl rfl rfl rfl ?_
                                refine r_nil ?_
                                refine q_next (fun a ha => ?_)
                                cases hb14
                                exact ⟨rfl, ha.cut (l := [3, 4, 5, 7, 12, 13, 14, 15, 16, 17, 18, 19, 154]) rfl⟩
                              · refine r_lit 151 rfl hb54 ?_
                                refine r_move rfl rfl rfl ?_
                                refine r_bin rfl rfl rfl rfl rfl ?_
                                refine r_pick_false rfl rfl rfl rfl ?_
                                refine r_nil ?_
                                refine q_next (fun a ha => ?_)
                                cases hb14
                                exact ⟨rfl, ha.cut (l := [3, 4, 5, 7, 12, 13, 14, 15, 16, 17, 18, 19, 154]) rfl⟩
                        · clear hm
                          rcases cond_some hb12 with ⟨hb55, hb12⟩ | ⟨hb55, hb12⟩
                          · refine r_lit 113 rfl hb55 ?_
                            refine r_off rfl (by decide) rfl ?_
                            refine r_off rfl (by decide) rfl ?_
                            refine r_off rfl (by decide) rfl ?_
                            refine r_off rfl (by decide) rfl ?_
                            refine r_pick_true rfl rfl rfl rfl ?_
                            refine r_nil ?_
                            refine q_next (fun a ha => ?_)
                            cases hb12
                            exact ⟨_, Frz.refl _, hx26.pick [0, 1, 2, 3, 4, 5, 6, 7] (by decide) rfl, ha.cut (l := [3, 4, 5, 7, 12, 14, 16, 118]) rfl⟩
                          · refine r_lit 113 rfl hb55 ?_
                            refine r_loadBA (cs' := [.int .i64 v11.1.Sign, .slice as7 ns7 cs7]) ag24 sz24 rfl rfl hx26 rfl (i := 1) rfl rfl rfl ?_
                            refine r_loadBA (cs' := [.int .i64 v12.1.Sign, .slice as8 ns8 cs8]) ag24 sz24 rfl rfl hx26 rfl (i := 0) rfl rfl rfl ?_
                            obtain ⟨v60, hv31, hb12⟩ := bind_some hb12
                            refine r_callG0 ent21 rfl rfl rfl rfl hx26 (ref04_Same_ok _ _ _ _ hv31 hx26.sat ((hs7.mono hF12).mono hF13) (hs8.mono hF13)) ?_
                            rintro _ Fx48 _ wx103 hF48 hx88 ⟨rfl, rfl⟩
                            refine r_not rfl rfl rfl ?_
                            refine r_pick_false rfl rfl rfl rfl ?_
                            refine r_nil ?_
                            refine q_next (fun a ha => ?_)
                            cases hb12
                            exact ⟨_, hF48, hx88.pick [0, 1, 2, 3, 4, 5, 6, 7] (by decide) rfl, ha.cut (l := [3, 4, 5, 7, 12, 14, 16, 118]) rfl⟩
                      · clear hm
                        rcases cond_some hb11 with ⟨hb56, hb11⟩ | ⟨hb56, hb11⟩
                        · refine r_lit 107 rfl hb56 ?_
                          refine r_off rfl (by decide) rfl ?_
                          refine r_off rfl (by decide) rfl ?_
                          refine r_off rfl (by decide) rfl ?_
                          refine r_off rfl (by decide) rfl ?_
                          refine r_pick_true rfl rfl rfl rfl ?_
                          refine r_nil ?_
                          refine q_next (fun a ha => ?_)
                          cases hb11
                          exact ⟨_, Frz.refl _, hx25.pick [0, 1, 2, 3, 4, 5, 6, 7] (by decide) rfl, ha.cut (l := [3, 4, 5, 7, 12, 14, 16, 112]) rfl⟩
                        · refine r_lit 107 rfl hb56 ?_
                          refine r_loadBA (cs' := [.int .i64 v8.1.Sign, .slice as4 ns4 cs4]) ag24 sz24 rfl rfl hx25 rfl (i := 4) rfl rfl rfl ?_
                          refine r_loadBA (cs' := [.int .i64 v9.1.Sign, .slice as5 ns5 cs5]) ag24 sz24 rfl rfl hx25 rfl (i := 3) rfl rfl rfl ?_
                          obtain ⟨v61, hv32, hb11⟩ := bind_some hb11
                          refine r_callG0 ent21 rfl rfl rfl rfl hx25 (ref04_Same_ok _ _ _ _ hv32 hx25.sat ((((hs4.mono hF9).mono hF10).mono hF11).mono hF12) (((hs5.mono hF10).mono hF11).mono hF12)) ?_
                          rintro _ Fx49 _ wx104 hF49 hx89 ⟨rfl, rfl⟩
                          refine r_not rfl rfl rfl ?_
                          refine r_pick_false rfl rfl rfl rfl ?_
                          refine r_nil ?_
                          refine q_next (fun a ha => ?_)
                          cases hb11
                          exact ⟨_, hF49, hx89.pick [0, 1, 2, 3, 4, 5, 6, 7] (by decide) rfl, ha.cut (l := [3, 4, 5, 7, 12, 14, 16, 112]) rfl⟩
                    · clear hm
                      rcases cond_some hb10 with ⟨hb57, hb10⟩ | ⟨hb57, hb10⟩
                      · refine r_lit 103 rfl hb57 ?_
                        refine r_off rfl (by decide) rfl ?_
                        refine r_off rfl (by decide) rfl ?_
                        refine r_pick_true rfl rfl rfl rfl ?_
                        refine r_nil ?_
                        refine q_next (fun a ha => ?_)
                        cases hb10
                        exact ⟨rfl, ha.cut (l := [3, 4, 5, 7, 8, 10, 12, 14, 16, 106]) rfl⟩
                      · refine r_lit 103 rfl hb57 ?_
                        refine r_move rfl rfl rfl ?_
                        refine r_bin rfl rfl rfl rfl rfl ?_
                        refine r_pick_false rfl rfl rfl rfl ?_
                        refine r_nil ?_
                        refine q_next (fun a ha => ?_)
                        cases hb10
                        exact ⟨rfl, ha.cut (l := [3, 4, 5, 7, 8, 10, 12, 14, 16, 106]) rfl⟩
                  · clear hm
                    rcases cond_some hb9 with ⟨hb58, hb9⟩ | ⟨hb58, hb9⟩
                    · refine r_lit 99 rfl hb58 ?_
                      refine r_off rfl (by decide) rfl ?_
                      refine r_off rfl (by decide) rfl ?_
                      refine r_pick_true rfl rfl rfl rfl ?_
                      refine r_nil ?_
                      refine q_next (fun a ha => ?_)
                      cases hb9
                      exact ⟨rfl, ha.cut (l := [3, 4, 5, 7, 8, 10, 12, 14, 16, 17, 102]) rfl⟩
                    · refine r_lit 99 rfl hb58 ?_
                      refine r_move rfl rfl rfl ?_
                      refine r_bin rfl rfl rfl rfl rfl ?_
                      refine r_pick_false rfl rfl rfl rfl ?_
                      refine r_nil ?_
                      refine q_next (fun a ha => ?_)
                      cases hb9
                      exact ⟨rfl, ha.cut (l := [3, 4, 5, 7, 8, 10, 12, 14, 16, 17, 102]) rfl⟩
                · clear hm
                  rcases cond_some hb8 with ⟨hb59, hb8⟩ | ⟨hb59, hb8⟩
                  · refine r_lit 95 rfl hb59 ?_
                    refine r_off rfl (by decide) rfl ?_
                    refine r_off rfl (by decide) rfl ?_
                    refine r_pick_true rfl rfl rfl rfl ?_
                    refine r_nil ?_
                    refine q_next (fun a ha => ?_)
                    cases hb8
                    exact ⟨rfl, ha.cut (l := [3, 4, 5, 7, 8, 10, 12, 14, 15, 16, 17, 98]) rfl⟩
                  · refine r_lit 95 rfl hb59 ?_
                    refine r_move rfl rfl rfl ?_
                    refine r_bin rfl rfl rfl rfl rfl ?_
                    refine r_pick_false rfl rfl rfl rfl ?_
                    refine r_nil ?_
                    refine q_next (fun a ha => ?_)
                    cases hb8
                    exact ⟨rfl, ha.cut (l := [3, 4, 5, 7, 8, 10, 12, 14, 15, 16, 17, 98]) rfl⟩
              · clear hm
                rcases cond_some hb7 with ⟨hb60, hb7⟩ | ⟨hb60, hb7⟩
                · refine r_lit 91 rfl hb60 ?_
                  refine r_off rfl (by decide) rfl ?_
                  refine r_off rfl (by decide) rfl ?_
                  refine r_pick_true rfl rfl rfl rfl ?_
                  refine r_nil ?_
                  refine q_next (fun a ha => ?_)
                  cases hb7
                  exact ⟨rfl, ha.cut (l := [3, 4, 5, 7, 8, 10, 12, 13, 14, 15, 16, 17, 94]) rfl⟩
                · refine r_lit 91 rfl hb60 ?_
                  refine r_move rfl rfl rfl ?_
                  refine r_bin rfl rfl rfl rfl rfl ?_
                  refine r_pick_false rfl rfl rfl rfl ?_
                  refine r_nil ?_
                  refine q_next (fun a ha => ?_)
                  cases hb7
                  exact ⟨rfl, ha.cut (l := [3, 4, 5, 7, 8, 10, 12, 13, 14, 15, 16, 17, 94]) rfl⟩
          · clear hm
            rcases cond_some hb5 with ⟨hb61, hb5⟩ | ⟨hb61, hb5⟩
            · refine r_lit 53 rfl hb61 ?_
              refine r_off rfl (by decide) rfl ?_
              refine r_off rfl (by decide) rfl ?_
              refine r_off rfl (by decide) rfl ?_
              refine r_pick_true rfl rfl rfl rfl ?_
              refine r_nil ?_
              refine q_next (fun a ha => ?_)
              cases hb5
              exact ⟨_, Frz.refl _, hx9.pick [0, 1, 2] (by decide) rfl, ha.cut (l := [3, 4, 5, 7, 57]) rfl⟩
            · refine r_lit 53 rfl hb61 ?_
              refine r_loadBA (cs' := [.int .i64 c1.Sign, .slice as3 ns3 cs3]) ag24 sz24 rfl rfl hx9 rfl (i := 0) rfl rfl rfl ?_
              obtain ⟨v62, hv33, hb5⟩ := bind_some hb5
              refine r_callG0 ent11 rfl rfl rfl rfl hx9 (big_Right_ok _ _ _ hv33 hx9.sat ((((((hs3.mono hF1).mono hF2).mono hF3).mono hF4).mono hF5).mono hF6)) ?_
              rintro _ Fx50 _ wx105 hF50 hx90 ⟨rfl, rfl⟩
              refine r_not rfl rfl rfl ?_
              refine r_pick_false rfl rfl rfl rfl ?_
              refine r_nil ?_
              refine q_next (fun a ha => ?_)
              cases hb5
              exact ⟨_, hF50, hx90.pick [0, 1, 2] (by decide) rfl, ha.cut (l := [3, 4, 5, 7, 57]) rfl⟩
        · clear hm
          rcases cond_some hb4 with ⟨hb62, hb4⟩ | ⟨hb62, hb4⟩
          · refine r_lit 48 rfl hb62 ?_
            refine r_off rfl (by decide) rfl ?_
            refine r_off rfl (by decide) rfl ?_
            refine r_off rfl (by decide) rfl ?_
            refine r_pick_true rfl rfl rfl rfl ?_
            refine r_nil ?_
            refine q_next (fun a ha => ?_)
            cases hb4
            exact ⟨_, Frz.refl _, hx8.pick [0, 1, 2] (by decide) rfl, ha.cut (l := [3, 4, 5, 7, 52]) rfl⟩
          · refine r_lit 48 rfl hb62 ?_
            refine r_loadBA (cs' := [.int .i64 b1.Sign, .slice as2 ns2 cs2]) ag24 sz24 rfl rfl hx8 rfl (i := 1) rfl rfl rfl ?_
            obtain ⟨v63, hv34, hb4⟩ := bind_some hb4
            refine r_callG0 ent11 rfl rfl rfl rfl hx8 (big_Right_ok _ _ _ hv34 hx8.sat (((((hs2.mono hF1).mono hF2).mono hF3).mono hF4).mono hF5)) ?_
            rintro _ Fx51 _ wx106 hF51 hx91 ⟨rfl, rfl⟩
            refine r_not rfl rfl rfl ?_
            refine r_pick_false rfl rfl rfl rfl ?_
            refine r_nil ?_
            refine q_next (fun a ha => ?_)
            cases hb4
            exact ⟨_, hF51, hx91.pick [0, 1, 2] (by decide) rfl, ha.cut (l := [3, 4, 5, 7, 52]) rfl⟩
      · clear hm
        rcases cond_some hb3 with ⟨hb63, hb3⟩ | ⟨hb63, hb3⟩
        · refine r_lit 43 rfl hb63 ?_
          refine r_off rfl (by decide) rfl ?_
          refine r_off rfl (by decide) rfl ?_
          refine r_off rfl (by decide) rfl ?_
          refine r_pick_true rfl rfl rfl rfl ?_
          refine r_nil ?_
          refine q_next (fun a ha => ?_)
          cases hb3
          exact ⟨_, Frz.refl _, hx7.pick [0, 1, 2] (by decide) rfl, ha.cut (l := [3, 4, 5, 7, 47]) rfl⟩
        · refine r_lit 43 rfl hb63 ?_
          refine r_loadBA (cs' := [.int .i64 ax1.Sign, .slice as1 ns1 cs1]) ag24 sz24 rfl rfl hx7 rfl (i := 2) rfl rfl rfl ?_
          obtain ⟨v64, hv35, hb3⟩ := bind_some hb3
          refine r_callG0 ent11 rfl rfl rfl rfl hx7 (big_Right_ok _ _ _ hv35 hx7.sat ((((hs1.mono hF1).mono hF2).mono hF3).mono hF4)) ?_
          rintro _ Fx52 _ wx107 hF52 hx92 ⟨rfl, rfl⟩
          refine r_not rfl rfl rfl ?_
          refine r_pick_false rfl rfl rfl rfl ?_
          refine r_nil ?_
          refine q_next (fun a ha => ?_)
          cases hb3
          exact ⟨_, hF52, hx92.pick [0, 1, 2] (by decide) rfl, ha.cut (l := [3, 4, 5, 7, 47]) rfl⟩
    · clear hm
      rcases cond_some hb2 with ⟨hb64, hb2⟩ | ⟨hb64, hb2⟩
      · refine r_lit 38 rfl hb64 ?_
        refine r_off rfl (by decide) rfl ?_
        refine r_off rfl (by decide) rfl ?_
        refine r_off rfl (by decide) rfl ?_
        refine r_pick_true rfl rfl rfl rfl ?_
        refine r_nil ?_
        refine q_next (fun a ha => ?_)
        cases hb2
        exact ⟨_, Frz.refl _, hx6.pick [0, 1, 2] (by decide) rfl, ha.cut (l := [3, 4, 5, 7, 42]) rfl⟩
      · refine r_lit 38 rfl hb64 ?_
        refine r_loadBA (cs' := [.int .i64 c1.Sign, .slice as3 ns3 cs3]) ag24 sz24 rfl rfl hx6 rfl (i := 0) rfl rfl rfl ?_
        obtain ⟨v65, hv36, hb2⟩ := bind_some hb2
        refine r_callG0 ent10 rfl rfl rfl rfl hx6 (law04_few_ok _ _ _ _ hv36 hx6.sat (((hs3.mono hF1).mono hF2).mono hF3)) ?_
        rintro _ Fx53 _ wx108 hF53 hx93 ⟨rfl, rfl⟩
        refine r_not rfl rfl rfl ?_
        refine r_pick_false rfl rfl rfl rfl ?_
        refine r_nil ?_
        refine q_next (fun a ha => ?_)
        cases hb2
        exact ⟨_, hF53, hx93.pick [0, 1, 2] (by decide) rfl, ha.cut (l := [3, 4, 5, 7, 42]) rfl⟩
  · clear hm
    rcases cond_some hb1 with ⟨hb65, hb1⟩ | ⟨hb65, hb1⟩
    · refine r_lit 33 rfl hb65 ?_
      refine r_off rfl (by decide) rfl ?_
      refine r_off rfl (by decide) rfl ?_
      refine r_off rfl (by decide) rfl ?_
      refine r_pick_true rfl rfl rfl rfl ?_
      refine r_nil ?_
      refine q_next (fun a ha => ?_)
      cases hb1
      exact ⟨_, Frz.refl _, hx5.pick [0, 1, 2] (by decide) rfl, ha.cut (l := [3, 4, 5, 7, 37]) rfl⟩
    · refine r_lit 33 rfl hb65 ?_
      refine r_loadBA (cs' := [.int .i64 b1.Sign, .slice as2 ns2 cs2]) ag24 sz24 rfl rfl hx5 rfl (i := 1) rfl rfl rfl ?_
      obtain ⟨v66, hv37, hb1⟩ := bind_some hb1
      refine r_callG0 ent10 rfl rfl rfl rfl hx5 (law04_few_ok _ _ _ _ hv37 hx5.sat ((hs2.mono hF1).mono hF2)) ?_
      rintro _ Fx54 _ wx109 hF54 hx94 ⟨rfl, rfl⟩
      refine r_not rfl rfl rfl ?_
      refine r_pick_false rfl rfl rfl rfl ?_
      refine r_nil ?_
      refine q_next (fun a ha => ?_)
      cases hb1
      exact ⟨_, hF54, hx94.pick [0, 1, 2] (by decide) rfl, ha.cut (l := [3, 4, 5, 7, 37]) rfl⟩


end Go.Proofs.YtaiiclbemlmmaaaDoor.M
