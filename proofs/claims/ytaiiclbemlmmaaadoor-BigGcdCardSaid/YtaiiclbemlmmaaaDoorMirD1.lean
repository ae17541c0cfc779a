/-
  THE MIRRORS of the big integers' functions, of their reference and of the laws, and that each call returns what its mirror says. Printed by gen.py.
-/
import Derived.Test.YtaiiclbemlmmaaaDoorRows
import Derived.Test.YtaiiclbemlmmaaaDoorTrim
import Derived.Test.YtaiiclbemlmmaaaDoorMirD
namespace Go.Proofs.YtaiiclbemlmmaaaDoor.M
open Go Go.RowKit Rt

theorem ent9 : Ent Tryd.prog 9 := fun _ _ => by kernel_rfl

theorem ent10 : Ent Tryd.prog 10 := fun _ _ => by kernel_rfl

theorem u4 : Tryd.prog.underlying 4 = some .bool := by kernel_rfl

def law04_BigGcd (n : Nat) (ax1 : Big) (b1 : Big) (c1 : Big) : Option Bool :=
  (law04_small n).bind fun v1 =>
  (law04_few n (⟨ax1.Sign, ax1.Digits⟩ : Big) 12).bind fun v2 =>
  (bif !v2 then
    some true
  else
    (law04_few n (⟨b1.Sign, b1.Digits⟩ : Big) 12).bind fun v80 =>
    some (!v80)).bind fun v3 =>
  (bif v3 then
    some true
  else
    (law04_few n (⟨c1.Sign, c1.Digits⟩ : Big) 4).bind fun v79 =>
    some (!v79)).bind fun v4 =>
  (bif v4 then
    some true
  else
    (big_Right n (⟨ax1.Sign, ax1.Digits⟩ : Big)).bind fun v78 =>
    some (!v78)).bind fun v5 =>
  (bif v5 then
    some true
  else
    (big_Right n (⟨b1.Sign, b1.Digits⟩ : Big)).bind fun v77 =>
    some (!v77)).bind fun v6 =>
  (bif v6 then
    some true
  else
    (big_Right n (⟨c1.Sign, c1.Digits⟩ : Big)).bind fun v76 =>
    some (!v76)).bind fun v7 =>
  bif v7 then
    some v1
  else
    (big_Gcd n (⟨ax1.Sign, ax1.Digits⟩ : Big) (⟨b1.Sign, b1.Digits⟩ : Big)).bind fun v8 =>
    ((big_Neg n (⟨b1.Sign, b1.Digits⟩ : Big)).bind fun v74 =>
    (big_Gcd n v74 (⟨ax1.Sign, ax1.Digits⟩ : Big)).bind fun v75 =>
    some (v75.1.Sign, v75.1.Digits, v75.2)).bind fun (f1, f2, f3) =>
    (bif v8.2 != 0 then
      some true
    else
      some (f3 != 0)).bind fun v9 =>
    (bif v9 then
      some true
    else
      some (decide (v8.1.Sign < 0))).bind fun v10 =>
    (bif v10 then
      some true
    else
      (big_Same n (⟨v8.1.Sign, v8.1.Digits⟩ : Big) (⟨f1, f2⟩ : Big)).bind fun v73 =>
      some (!v73)).bind fun v11 =>
    (bif v11 then
      some true
    else
      (bif ax1.Sign == 0 then
        some (b1.Sign == 0)
      else
        some false).bind fun v72 =>
      some (!((v8.1.Sign == 0) == v72))).bind fun v12 =>
    bif v12 then
      some false
    else
      bif v8.1.Sign != 0 then
        (big_Div n (⟨ax1.Sign, ax1.Digits⟩ : Big) (⟨v8.1.Sign, v8.1.Digits⟩ : Big)).bind fun v13 =>
        (big_Div n (⟨b1.Sign, b1.Digits⟩ : Big) (⟨v8.1.Sign, v8.1.Digits⟩ : Big)).bind fun v14 =>
        (bif v13.2.2 != 0 then
          some true
        else
          some (v14.2.2 != 0)).bind fun v15 =>
        (bif v15 then
          some true
        else
          some (v13.2.1.Sign != 0)).bind fun v16 =>
        (bif v16 then
          some true
        else
          some (v14.2.1.Sign != 0)).bind fun v17 =>
        bif v17 then
          some false
        else
          bif ax1.Sign != 0 then
            (big_Div n (⟨b1.Sign, b1.Digits⟩ : Big) (⟨ax1.Sign, ax1.Digits⟩ : Big)).bind fun v18 =>
            (big_Gcd n (⟨ax1.Sign, ax1.Digits⟩ : Big) (⟨v18.2.1.Sign, v18.2.1.Digits⟩ : Big)).bind fun v19 =>
            (bif v18.2.2 != 0 then
              some true
            else
              some (v19.2 != 0)).bind fun v20 =>
            (bif v20 then
              some true
            else
              (big_Same n (⟨v19.1.Sign, v19.1.Digits⟩ : Big) (⟨v8.1.Sign, v8.1.Digits⟩ : Big)).bind fun v33 =>
              some (!v33)).bind fun v21 =>
            bif v21 then
              some false
            else
              (big_Mul n (⟨ax1.Sign, ax1.Digits⟩ : Big) (⟨c1.Sign, c1.Digits⟩ : Big)).bind fun v22 =>
              (big_Mul n (⟨b1.Sign, b1.Digits⟩ : Big) (⟨c1.Sign, c1.Digits⟩ : Big)).bind fun v23 =>
              (big_Gcd n (⟨v22.1.Sign, v22.1.Digits⟩ : Big) (⟨v23.1.Sign, v23.1.Digits⟩ : Big)).bind fun v24 =>
              (big_Mul n (⟨v8.1.Sign, v8.1.Digits⟩ : Big) (⟨c1.Sign, c1.Digits⟩ : Big)).bind fun v25 =>
              (bif decide (c1.Sign < 0) then
                (big_Neg n (⟨v25.1.Sign, v25.1.Digits⟩ : Big)).bind fun v32 =>
                some (v32.Sign, v32.Digits)
              else
                some (v25.1.Sign, v25.1.Digits)).bind fun (f4, f5) =>
              (bif v1 then
                some (v22.2 == 0)
              else
                some false).bind fun v26 =>
              (bif v26 then
                some (v23.2 == 0)
              else
                some false).bind fun v27 =>
              (bif v27 then
                some (v24.2 == 0)
              else
                some false).bind fun v28 =>
              (bif v28 then
                some (v25.2 == 0)
              else
                some false).bind fun v29 =>
              (bif v29 then
                (big_Same n (⟨v24.1.Sign, v24.1.Digits⟩ : Big) (⟨f4, f5⟩ : Big)).bind fun v31 =>
                some v31
              else
                some false).bind fun v30 =>
              some v30
          else
            (big_Mul n (⟨ax1.Sign, ax1.Digits⟩ : Big) (⟨c1.Sign, c1.Digits⟩ : Big)).bind fun v34 =>
            (big_Mul n (⟨b1.Sign, b1.Digits⟩ : Big) (⟨c1.Sign, c1.Digits⟩ : Big)).bind fun v35 =>
            (big_Gcd n (⟨v34.1.Sign, v34.1.Digits⟩ : Big) (⟨v35.1.Sign, v35.1.Digits⟩ : Big)).bind fun v36 =>
            (big_Mul n (⟨v8.1.Sign, v8.1.Digits⟩ : Big) (⟨c1.Sign, c1.Digits⟩ : Big)).bind fun v37 =>
            (bif decide (c1.Sign < 0) then
              (big_Neg n (⟨v37.1.Sign, v37.1.Digits⟩ : Big)).bind fun v44 =>
              some (v44.Sign, v44.Digits)
            else
              some (v37.1.Sign, v37.1.Digits)).bind fun (f6, f7) =>
            (bif v1 then
              some (v34.2 == 0)
            else
              some false).bind fun v38 =>
            (bif v38 then
              some (v35.2 == 0)
            else
              some false).bind fun v39 =>
            (bif v39 then
              some (v36.2 == 0)
            else
              some false).bind fun v40 =>
            (bif v40 then
              some (v37.2 == 0)
            else
              some false).bind fun v41 =>
            (bif v41 then
              (big_Same n (⟨v36.1.Sign, v36.1.Digits⟩ : Big) (⟨f6, f7⟩ : Big)).bind fun v43 =>
              some v43
            else
              some false).bind fun v42 =>
            some v42
      else
        bif ax1.Sign != 0 then
          (big_Div n (⟨b1.Sign, b1.Digits⟩ : Big) (⟨ax1.Sign, ax1.Digits⟩ : Big)).bind fun v45 =>
          (big_Gcd n (⟨ax1.Sign, ax1.Digits⟩ : Big) (⟨v45.2.1.Sign, v45.2.1.Digits⟩ : Big)).bind fun v46 =>
          (bif v45.2.2 != 0 then
            some true
          else
            some (v46.2 != 0)).bind fun v47 =>
          (bif v47 then
            some true
          else
            (big_Same n (⟨v46.1.Sign, v46.1.Digits⟩ : Big) (⟨v8.1.Sign, v8.1.Digits⟩ : Big)).bind fun v60 =>
            some (!v60)).bind fun v48 =>
          bif v48 then
            some false
          else
            (big_Mul n (⟨ax1.Sign, ax1.Digits⟩ : Big) (⟨c1.Sign, c1.Digits⟩ : Big)).bind fun v49 =>
            (big_Mul n (⟨b1.Sign, b1.Digits⟩ : Big) (⟨c1.Sign, c1.Digits⟩ : Big)).bind fun v50 =>
            (big_Gcd n (⟨v49.1.Sign, v49.1.Digits⟩ : Big) (⟨v50.1.Sign, v50.1.Digits⟩ : Big)).bind fun v51 =>
            (big_Mul n (⟨v8.1.Sign, v8.1.Digits⟩ : Big) (⟨c1.Sign, c1.Digits⟩ : Big)).bind fun v52 =>
            (bif decide (c1.Sign < 0) then
              (big_Neg n (⟨v52.1.Sign, v52.1.Digits⟩ : Big)).bind fun v59 =>
              some (v59.Sign, v59.Digits)
            else
              some (v52.1.Sign, v52.1.Digits)).bind fun (f8, f9) =>
            (bif v1 then
              some (v49.2 == 0)
            else
              some false).bind fun v53 =>
            (bif v53 then
              some (v50.2 == 0)
            else
              some false).bind fun v54 =>
            (bif v54 then
              some (v51.2 == 0)
            else
              some false).bind fun v55 =>
            (bif v55 then
              some (v52.2 == 0)
            else
              some false).bind fun v56 =>
            (bif v56 then
              (big_Same n (⟨v51.1.Sign, v51.1.Digits⟩ : Big) (⟨f8, f9⟩ : Big)).bind fun v58 =>
              some v58
            else
              some false).bind fun v57 =>
            some v57
        else
          (big_Mul n (⟨ax1.Sign, ax1.Digits⟩ : Big) (⟨c1.Sign, c1.Digits⟩ : Big)).bind fun v61 =>
          (big_Mul n (⟨b1.Sign, b1.Digits⟩ : Big) (⟨c1.Sign, c1.Digits⟩ : Big)).bind fun v62 =>
          (big_Gcd n (⟨v61.1.Sign, v61.1.Digits⟩ : Big) (⟨v62.1.Sign, v62.1.Digits⟩ : Big)).bind fun v63 =>
          (big_Mul n (⟨v8.1.Sign, v8.1.Digits⟩ : Big) (⟨c1.Sign, c1.Digits⟩ : Big)).bind fun v64 =>
          (bif decide (c1.Sign < 0) then
            (big_Neg n (⟨v64.1.Sign, v64.1.Digits⟩ : Big)).bind fun v71 =>
            some (v71.Sign, v71.Digits)
          else
            some (v64.1.Sign, v64.1.Digits)).bind fun (f10, f11) =>
          (bif v1 then
            some (v61.2 == 0)
          else
            some false).bind fun v65 =>
          (bif v65 then
            some (v62.2 == 0)
          else
            some false).bind fun v66 =>
          (bif v66 then
            some (v63.2 == 0)
          else
            some false).bind fun v67 =>
          (bif v67 then
            some (v64.2 == 0)
          else
            some false).bind fun v68 =>
          (bif v68 then
            (big_Same n (⟨v63.1.Sign, v63.1.Digits⟩ : Big) (⟨f10, f11⟩ : Big)).bind fun v70 =>
            some v70
          else
            some false).bind fun v69 =>
          some v69

set_option maxHeartbeats 1000000 in
set_option maxRecDepth 1000000 in
theorem law04_BigGcd_ok (n : Nat) (ax1 : Big) (b1 : Big) (c1 : Big) (r : Bool) (hm : law04_BigGcd n ax1 b1 c1 = some r) {w : World} {F : Frz} (hs : Sat F w) {as1 : Option Addr} {ns1 : Nat} {cs1 : Nat} {as2 : Option Addr} {ns2 : Nat} {cs2 : Nat} {as3 : Option Addr} {ns3 : Nat} {cs3 : Nat} (hs1 : SlR (Rp.int .i64) F as1 ns1 cs1 ax1.Digits) (hs2 : SlR (Rp.int .i64) F as2 ns2 cs2 b1.Digits) (hs3 : SlR (Rp.int .i64) F as3 ns3 cs3 c1.Digits) (hg2 : FX F 2 (Lib.pow10Tab.map (Value.int .u64))) :
    Calls Tryd.prog 3 #[.agg #[.int .i64 ax1.Sign, .slice as1 ns1 cs1], .agg #[.int .i64 b1.Sign, .slice as2 ns2 cs2], .agg #[.int .i64 c1.Sign, .slice as3 ns3 cs3]] w fun e w' => ∃ v F' O', e = .returned v ∧ HS F w [] F' O' w' ∧ (v = .bool r ∧ O' = []) := by
  unfold law04_BigGcd at hm
  have h := HS.init hs
  refine calls_of (args := [.agg #[.int .i64 ax1.Sign, .slice as1 ns1 cs1], .agg #[.int .i64 b1.Sign, .slice as2 ns2 cs2], .agg #[.int .i64 c1.Sign, .slice as3 ns3 cs3]]) 217 Tryd.func3 rfl rfl rfl ?_
  refine c_seq ?_
  refine c_region ?_
  refine r_box rfl rfl rfl rfl h ?_
  intro b2 wx1 hx1
  refine r_box rfl rfl rfl rfl hx1 ?_
  intro b3 wx2 hx2
  refine r_box rfl rfl rfl rfl hx2 ?_
  intro b4 wx3 hx3
  refine r_assign rfl rfl rfl ?_
  refine r_nil ?_
  refine q_then ?_
  refine c_seq ?_
  refine c_region ?_
  obtain ⟨v1, hv1, hm⟩ := bind_some hm
  refine r_callG0 ent9 rfl rfl rfl rfl hx3 (law04_small_ok _ _ hv1 hx3.sat hg2) ?_
  rintro _ Fx1 _ wx4 hF1 hx4 ⟨rfl, rfl⟩
  refine r_assign rfl rfl rfl ?_
  refine r_nil ?_
  refine q_then ?_
  refine c_seq ?_
  refine c_seq ?_
  refine c_region ?_
  refine r_loadBA (cs' := [.int .i64 ax1.Sign, .slice as1 ns1 cs1]) ag24 sz24 rfl rfl hx4 rfl (i := 2) rfl rfl rfl ?_
  obtain ⟨v2, hv2, hm⟩ := bind_some hm
  refine r_callG0 ent10 rfl rfl rfl rfl hx4 (law04_few_ok _ _ _ _ hv2 hx4.sat (hs1.mono hF1)) ?_
  rintro _ Fx2 _ wx5 hF2 hx5 ⟨rfl, rfl⟩
  refine r_not rfl rfl rfl ?_
  refine r_move rfl rfl rfl ?_
  obtain ⟨v3, hb1, hm⟩ := bind_some hm
  refine r_mid 4 (fun a w' => ∃ (Fx3 : Frz), Frz.le Fx2 Fx3 ∧ HS F w [] Fx3 [.box b4 24 [.int .i64 c1.Sign, .slice as3 ns3 cs3], .box b3 24 [.int .i64 b1.Sign, .slice as2 ns2 cs2], .box b2 24 [.int .i64 ax1.Sign, .slice as1 ns1 cs1]] w' ∧ Has 217 a [(3, .pointer (some ⟨b2, 0, none⟩)), (4, .pointer (some ⟨b3, 0, none⟩)), (5, .pointer (some ⟨b4, 0, none⟩)), (7, .bool v1), (39, .bool v3)]) ?_ ?_
  · rintro a wx6 ⟨Fx3, hF3, hx6, hax1⟩
    refine rw_apply hax1 ?_
    refine r_move rfl rfl rfl ?_
    obtain ⟨v4, hb2, hm⟩ := bind_some hm
    refine r_mid 4 (fun a w' => ∃ (Fx4 : Frz), Frz.le Fx3 Fx4 ∧ HS F w [] Fx4 [.box b4 24 [.int .i64 c1.Sign, .slice as3 ns3 cs3], .box b3 24 [.int .i64 b1.Sign, .slice as2 ns2 cs2], .box b2 24 [.int .i64 ax1.Sign, .slice as1 ns1 cs1]] w' ∧ Has 217 a [(3, .pointer (some ⟨b2, 0, none⟩)), (4, .pointer (some ⟨b3, 0, none⟩)), (5, .pointer (some ⟨b4, 0, none⟩)), (7, .bool v1), (44, .bool v4)]) ?_ ?_
    · rintro a wx7 ⟨Fx4, hF4, hx7, hax2⟩
      refine rw_apply hax2 ?_
      refine r_move rfl rfl rfl ?_
      obtain ⟨v5, hb3, hm⟩ := bind_some hm
      refine r_mid 4 (fun a w' => ∃ (Fx5 : Frz), Frz.le Fx4 Fx5 ∧ HS F w [] Fx5 [.box b4 24 [.int .i64 c1.Sign, .slice as3 ns3 cs3], .box b3 24 [.int .i64 b1.Sign, .slice as2 ns2 cs2], .box b2 24 [.int .i64 ax1.Sign, .slice as1 ns1 cs1]] w' ∧ Has 217 a [(3, .pointer (some ⟨b2, 0, none⟩)), (4, .pointer (some ⟨b3, 0, none⟩)), (5, .pointer (some ⟨b4, 0, none⟩)), (7, .bool v1), (49, .bool v5)]) ?_ ?_
      · rintro a wx8 ⟨Fx5, hF5, hx8, hax3⟩
        refine rw_apply hax3 ?_
        refine r_move rfl rfl rfl ?_
        obtain ⟨v6, hb4, hm⟩ := bind_some hm
        refine r_mid 4 (fun a w' => ∃ (Fx6 : Frz), Frz.le Fx5 Fx6 ∧ HS F w [] Fx6 [.box b4 24 [.int .i64 c1.Sign, .slice as3 ns3 cs3], .box b3 24 [.int .i64 b1.Sign, .slice as2 ns2 cs2], .box b2 24 [.int .i64 ax1.Sign, .slice as1 ns1 cs1]] w' ∧ Has 217 a [(3, .pointer (some ⟨b2, 0, none⟩)), (4, .pointer (some ⟨b3, 0, none⟩)), (5, .pointer (some ⟨b4, 0, none⟩)), (7, .bool v1), (54, .bool v6)]) ?_ ?_
        · rintro a wx9 ⟨Fx6, hF6, hx9, hax4⟩
          refine rw_apply hax4 ?_
          refine r_move rfl rfl rfl ?_
          obtain ⟨v7, hb5, hm⟩ := bind_some hm
          refine r_mid 4 (fun a w' => ∃ (Fx7 : Frz), Frz.le Fx6 Fx7 ∧ HS F w [] Fx7 [.box b4 24 [.int .i64 c1.Sign, .slice as3 ns3 cs3], .box b3 24 [.int .i64 b1.Sign, .slice as2 ns2 cs2], .box b2 24 [.int .i64 ax1.Sign, .slice as1 ns1 cs1]] w' ∧ Has 217 a [(3, .pointer (some ⟨b2, 0, none⟩)), (4, .pointer (some ⟨b3, 0, none⟩)), (5, .pointer (some ⟨b4, 0, none⟩)), (7, .bool v1), (59, .bool v7)]) ?_ ?_
          · rintro a wx10 ⟨Fx7, hF7, hx10, hax5⟩
            refine rw_apply hax5 ?_
            refine r_nil ?_
            refine q_then ?_
            rcases cond_some hm with ⟨hb6, hm⟩ | ⟨hb6, hm⟩
            · refine c_lit 59 rfl hb6 ?_
              refine c_true rfl ?_
              refine c_seq ?_
              refine c_region ?_
              refine r_move rfl rfl rfl ?_
              refine r_assign rfl rfl rfl ?_
              refine r_nil ?_
              refine q_then ?_
              refine c_ret ?_
              refine q_then_ret ?_
              refine b_ret1 rfl rfl ?_
              obtain rfl := Option.some.inj hm
              exact ⟨_, _, _, rfl, hx10.pick [] (by decide) rfl, rfl, rfl⟩
            · refine c_lit 59 rfl hb6 ?_
              refine c_false rfl ?_
              refine c_skip ?_
              refine q_then ?_
              refine c_seq ?_
              refine c_region ?_
              refine r_loadBA (cs' := [.int .i64 ax1.Sign, .slice as1 ns1 cs1]) ag24 sz24 rfl rfl hx10 rfl (i := 2) rfl rfl rfl ?_
              refine r_loadBA (cs' := [.int .i64 b1.Sign, .slice as2 ns2 cs2]) ag24 sz24 rfl rfl hx10 rfl (i := 1) rfl rfl rfl ?_
              obtain ⟨v8, hv3, hm⟩ := bind_some hm
              refine r_callG0 ent12 rfl rfl rfl rfl hx10 (big_Gcd_ok _ _ _ _ hv3 hx10.sat (((((((hs1.mono hF1).mono hF2).mono hF3).mono hF4).mono hF5).mono hF6).mono hF7) (((((((hs2.mono hF1).mono hF2).mono hF3).mono hF4).mono hF5).mono hF6).mono hF7)) ?_
              rintro _ Fx8 _ wx11 hF8 hx11 ⟨as4, ns4, cs4, rfl, rfl, hs4⟩
              refine r_move rfl rfl rfl ?_
              refine r_extract rfl rfl rfl rfl ?_
              refine r_extract rfl rfl rfl rfl ?_
              refine r_alloc ze24 rfl rfl rfl hx11 ?_
              intro b5 wx12 hx12
              refine r_store sz24 rfl hx12 rfl rfl rfl rfl (i := 0) rfl rfl rfl rfl ?_
              intro wx13 hx13
              refine r_assign rfl rfl rfl ?_
              refine r_nil ?_
              refine q_then ?_
              obtain ⟨⟨f1, f2, f3⟩, hb7, hm⟩ := bind_some hm
              refine c_mid (fun a w' => ∃ (Fx9 : Frz) (b6 : Nat) (as5 : Option Addr) (ns5 : Nat) (cs5 : Nat), Frz.le Fx8 Fx9 ∧ HS F w [] Fx9 [.box b6 24 [.int .i64 f1, .slice as5 ns5 cs5], .box b5 24 [.int .i64 v8.1.Sign, .slice as4 ns4 cs4], .box b4 24 [.int .i64 c1.Sign, .slice as3 ns3 cs3], .box b3 24 [.int .i64 b1.Sign, .slice as2 ns2 cs2], .box b2 24 [.int .i64 ax1.Sign, .slice as1 ns1 cs1]] w' ∧ (SlR (Rp.int .i64) Fx9 as5 ns5 cs5 f2) ∧ Has 217 a [(3, .pointer (some ⟨b2, 0, none⟩)), (4, .pointer (some ⟨b3, 0, none⟩)), (5, .pointer (some ⟨b4, 0, none⟩)), (7, .bool v1), (8, .pointer (some ⟨b5, 0, none⟩)), (9, .int .i64 v8.2), (10, .pointer (some ⟨b6, 0, none⟩)), (11, .int .i64 f3)]) ?_ ?_
              · rintro a wx14 ⟨Fx9, b6, as5, ns5, cs5, hF9, hx14, hs5, hax6⟩
                refine cw_apply hax6 ?_
                refine c_seq ?_
                refine c_seq ?_
                refine c_region ?_
                refine r_move rfl rfl rfl ?_
                refine r_bin rfl rfl rfl rfl rfl ?_
                refine r_move rfl rfl rfl ?_
                obtain ⟨v9, hb8, hm⟩ := bind_some hm
                refine r_mid 3 (fun a w' => wx14 = w' ∧ Has 217 a [(3, .pointer (some ⟨b2, 0, none⟩)), (4, .pointer (some ⟨b3, 0, none⟩)), (5, .pointer (some ⟨b4, 0, none⟩)), (7, .bool v1), (8, .pointer (some ⟨b5, 0, none⟩)), (10, .pointer (some ⟨b6, 0, none⟩)), (79, .bool v9)]) ?_ ?_
                · rintro a wx15 ⟨rfl, hax7⟩
                  refine rw_apply hax7 ?_
                  refine r_move rfl rfl rfl ?_
                  obtain ⟨v10, hb9, hm⟩ := bind_some hm
                  refine r_mid 4 (fun a w' => wx14 = w' ∧ Has 217 a [(3, .pointer (some ⟨b2, 0, none⟩)), (4, .pointer (some ⟨b3, 0, none⟩)), (5, .pointer (some ⟨b4, 0, none⟩)), (7, .bool v1), (8, .pointer (some ⟨b5, 0, none⟩)), (10, .pointer (some ⟨b6, 0, none⟩)), (84, .bool v10)]) ?_ ?_
                  · rintro a wx16 ⟨rfl, hax8⟩
                    refine rw_apply hax8 ?_
                    refine r_move rfl rfl rfl ?_
                    obtain ⟨v11, hb10, hm⟩ := bind_some hm
                    refine r_mid 5 (fun a w' => ∃ (Fx10 : Frz), Frz.le Fx9 Fx10 ∧ HS F w [] Fx10 [.box b6 24 [.int .i64 f1, .slice as5 ns5 cs5], .box b5 24 [.int .i64 v8.1.Sign, .slice as4 ns4 cs4], .box b4 24 [.int .i64 c1.Sign, .slice as3 ns3 cs3], .box b3 24 [.int .i64 b1.Sign, .slice as2 ns2 cs2], .box b2 24 [.int .i64 ax1.Sign, .slice as1 ns1 cs1]] w' ∧ Has 217 a [(3, .pointer (some ⟨b2, 0, none⟩)), (4, .pointer (some ⟨b3, 0, none⟩)), (5, .pointer (some ⟨b4, 0, none⟩)), (7, .bool v1), (8, .pointer (some ⟨b5, 0, none⟩)), (90, .bool v11)]) ?_ ?_
                    · rintro a wx17 ⟨Fx10, hF10, hx15, hax9⟩
                      refine rw_apply hax9 ?_
                      refine r_move rfl rfl rfl ?_
                      obtain ⟨v12, hb11, hm⟩ := bind_some hm
                      refine r_mid 13 (fun a w' => wx17 = w' ∧ Has 217 a [(3, .pointer (some ⟨b2, 0, none⟩)), (4, .pointer (some ⟨b3, 0, none⟩)), (5, .pointer (some ⟨b4, 0, none⟩)), (7, .bool v1), (8, .pointer (some ⟨b5, 0, none⟩)), (104, .bool v12)]) ?_ ?_
                      · rintro a wx18 ⟨rfl, hax10⟩
                        refine rw_apply hax10 ?_
                        refine r_nil ?_
                        refine q_then ?_
                        rcases cond_some hm with ⟨hb12, hm⟩ | ⟨hb12, hm⟩
                        · refine c_lit 104 rfl hb12 ?_
                          refine c_true rfl ?_
                          refine c_seq ?_
                          refine c_region ?_
                          refine r_assign rfl rfl rfl ?_
                          refine r_nil ?_
                          refine q_then ?_
                          refine c_ret ?_
                          refine q_then_ret ?_
                          refine b_ret1 rfl rfl ?_
                          obtain rfl := Option.some.inj hm
                          exact ⟨_, _, _, rfl, hx15.pick [] (by decide) rfl, rfl, rfl⟩
                        · refine c_lit 104 rfl hb12 ?_
                          refine c_false rfl ?_
                          refine c_skip ?_
                          refine q_then ?_
                          refine c_seq ?_
                          refine c_seq ?_
                          refine c_region ?_
                          refine r_fieldAddr fa24_0 rfl rfl rfl ?_
                          refine r_loadB1 ag3 rfl rfl hx15 rfl (i := 1) rfl rfl ?_
                          refine r_bin rfl rfl rfl rfl rfl ?_
                          refine r_nil ?_
                          refine q_then ?_
                          rcases cond_some hm with ⟨hb13, hm⟩ | ⟨hb13, hm⟩
                          · refine c_lit 107 rfl hb13 ?_
                            refine c_true rfl ?_
                            refine c_seq ?_
                            refine c_region ?_
                            refine r_loadBA (cs' := [.int .i64 ax1.Sign, .slice as1 ns1 cs1]) ag24 sz24 rfl rfl hx15 rfl (i := 4) rfl rfl rfl ?_
                            refine r_loadBA (cs' := [.int .i64 v8.1.Sign, .slice as4 ns4 cs4]) ag24 sz24 rfl rfl hx15 rfl (i := 1) rfl rfl rfl ?_
                            obtain ⟨v13, hv4, hm⟩ := bind_some hm
                            refine r_callG0 ent15 rfl rfl rfl rfl hx15 (big_Div_ok _ _ _ _ hv4 hx15.sat ((((((((((hs1.mono hF1).mono hF2).mono hF3).mono hF4).mono hF5).mono hF6).mono hF7).mono hF8).mono hF9).mono hF10) ((hs4.mono hF9).mono hF10)) ?_
                            rintro _ Fx11 _ wx19 hF11 hx16 ⟨as6, ns6, cs6, as7, ns7, cs7, rfl, rfl, hs6, hs7⟩
                            refine r_move rfl rfl rfl ?_
                            refine r_extract rfl rfl rfl rfl ?_
                            refine r_extract rfl rfl rfl rfl ?_
                            refine r_extract rfl rfl rfl rfl ?_
                            refine r_alloc ze24 rfl rfl rfl hx16 ?_
                            intro b7 wx20 hx17
                            refine r_alloc ze24 rfl rfl rfl hx17 ?_
                            intro b8 wx21 hx18
                            refine r_store sz24 rfl hx18 rfl rfl rfl rfl (i := 1) rfl rfl rfl rfl ?_
                            intro wx22 hx19
                            refine r_store sz24 rfl hx19 rfl rfl rfl rfl (i := 0) rfl rfl rfl rfl ?_
                            intro wx23 hx20
                            refine r_assign rfl rfl rfl ?_
                            refine r_nil ?_
                            refine q_then ?_
                            refine c_seq ?_
                            refine c_region ?_
                            refine r_loadBA (cs' := [.int .i64 b1.Sign, .slice as2 ns2 cs2]) ag24 sz24 rfl rfl hx20 rfl (i := 5) rfl rfl rfl ?_
                            refine r_loadBA (cs' := [.int .i64 v8.1.Sign, .slice as4 ns4 cs4]) ag24 sz24 rfl rfl hx20 rfl (i := 3) rfl rfl rfl ?_
                            obtain ⟨v14, hv5, hm⟩ := bind_some hm
                            refine r_callG0 ent15 rfl rfl rfl rfl hx20 (big_Div_ok _ _ _ _ hv5 hx20.sat (((((((((((hs2.mono hF1).mono hF2).mono hF3).mono hF4).mono hF5).mono hF6).mono hF7).mono hF8).mono hF9).mono hF10).mono hF11) (((hs4.mono hF9).mono hF10).mono hF11)) ?_
                            rintro _ Fx12 _ wx24 hF12 hx21 ⟨as8, ns8, cs8, as9, ns9, cs9, rfl, rfl, hs8, hs9⟩
                            refine r_move rfl rfl rfl ?_
                            refine r_extract rfl rfl rfl rfl ?_
                            refine r_extract rfl rfl rfl rfl ?_
                            refine r_extract rfl rfl rfl rfl ?_
                            refine r_alloc ze24 rfl rfl rfl hx21 ?_
                            intro b9 wx25 hx22
                            refine r_alloc ze24 rfl rfl rfl hx22 ?_
                            intro b10 wx26 hx23
                            refine r_store sz24 rfl hx23 rfl rfl rfl rfl (i := 1) rfl rfl rfl rfl ?_
                            intro wx27 hx24
                            refine r_store sz24 rfl hx24 rfl rfl rfl rfl (i := 0) rfl rfl rfl rfl ?_
                            intro wx28 hx25
                            refine r_assign rfl rfl rfl ?_
                            refine r_nil ?_
                            refine q_then ?_
                            refine c_seq ?_
                            refine c_region ?_
                            refine r_move rfl rfl rfl ?_
                            refine r_bin rfl rfl rfl rfl rfl ?_
                            refine r_move rfl rfl rfl ?_
                            obtain ⟨v15, hb14, hm⟩ := bind_some hm
                            refine r_mid 3 (fun a w' => wx28 = w' ∧ Has 217 a [(3, .pointer (some ⟨b2, 0, none⟩)), (4, .pointer (some ⟨b3, 0, none⟩)), (5, .pointer (some ⟨b4, 0, none⟩)), (7, .bool v1), (8, .pointer (some ⟨b5, 0, none⟩)), (13, .pointer (some ⟨b8, 0, none⟩)), (16, .pointer (some ⟨b10, 0, none⟩)), (127, .bool v15)]) ?_ ?_
                            · rintro a wx29 ⟨rfl, hax11⟩
                              refine rw_apply hax11 ?_
                              refine r_move rfl rfl rfl ?_
                              obtain ⟨v16, hb15, hm⟩ := bind_some hm
                              refine r_mid 4 (fun a w' => wx28 = w' ∧ Has 217 a [(3, .pointer (some ⟨b2, 0, none⟩)), (4, .pointer (some ⟨b3, 0, none⟩)), (5, .pointer (some ⟨b4, 0, none⟩)), (7, .bool v1), (8, .pointer (some ⟨b5, 0, none⟩)), (16, .pointer (some ⟨b10, 0, none⟩)), (132, .bool v16)]) ?_ ?_
                              · rintro a wx30 ⟨rfl, hax12⟩
                                refine rw_apply hax12 ?_
                                refine r_move rfl rfl rfl ?_
                                obtain ⟨v17, hb16, hm⟩ := bind_some hm
                                refine r_mid 4 (fun a w' => wx28 = w' ∧ Has 217 a [(3, .pointer (some ⟨b2, 0, none⟩)), (4, .pointer (some ⟨b3, 0, none⟩)), (5, .pointer (some ⟨b4, 0, none⟩)), (7, .bool v1), (8, .pointer (some ⟨b5, 0, none⟩)), (137, .bool v17)]) ?_ ?_
                                · rintro a wx31 ⟨rfl, hax13⟩
                                  refine rw_apply hax13 ?_
                                  refine r_nil ?_
                                  refine q_then ?_
                                  rcases cond_some hm with ⟨hb17, hm⟩ | ⟨hb17, hm⟩
                                  · refine c_lit 137 rfl hb17 ?_
                                    refine c_true rfl ?_
                                    refine c_seq ?_
                                    refine c_region ?_
                                    refine r_assign rfl rfl rfl ?_
                                    refine r_nil ?_
                                    refine q_then ?_
                                    refine c_ret ?_
                                    refine q_then_ret ?_
                                    refine b_ret1 rfl rfl ?_
                                    obtain rfl := Option.some.inj hm
                                    exact ⟨_, _, _, rfl, hx25.pick [] (by decide) rfl, rfl, rfl⟩
                                  · refine c_lit 137 rfl hb17 ?_
                                    refine c_false rfl ?_
                                    refine c_skip ?_
                                    refine q_then ?_
                                    refine c_seq ?_
                                    refine c_seq ?_
                                    refine c_region ?_
                                    refine r_fieldAddr fa24_0 rfl rfl rfl ?_
                                    refine r_loadB1 ag3 rfl rfl hx25 rfl (i := 8) rfl rfl ?_
                                    refine r_bin rfl rfl rfl rfl rfl ?_
                                    refine r_nil ?_
                                    refine q_then ?_
                                    rcases cond_some hm with ⟨hb18, hm⟩ | ⟨hb18, hm⟩
                                    · refine c_lit 140 rfl hb18 ?_
                                      refine c_true rfl ?_
                                      refine c_seq ?_
                                      refine c_region ?_
                                      refine r_loadBA (cs' := [.int .i64 b1.Sign, .slice as2 ns2 cs2]) ag24 sz24 rfl rfl hx25 rfl (i := 7) rfl rfl rfl ?_
                                      refine r_loadBA (cs' := [.int .i64 ax1.Sign, .slice as1 ns1 cs1]) ag24 sz24 rfl rfl hx25 rfl (i := 8) rfl rfl rfl ?_
                                      obtain ⟨v18, hv6, hm⟩ := bind_some hm
                                      refine r_callG0 ent15 rfl rfl rfl rfl hx25 (big_Div_ok _ _ _ _ hv6 hx25.sat ((((((((((((hs2.mono hF1).mono hF2).mono hF3).mono hF4).mono hF5).mono hF6).mono hF7).mono hF8).mono hF9).mono hF10).mono hF11).mono hF12) ((((((((((((hs1.mono hF1).mono hF2).mono hF3).mono hF4).mono hF5).mono hF6).mono hF7).mono hF8).mono hF9).mono hF10).mono hF11).mono hF12)) ?_
                                      rintro _ Fx13 _ wx32 hF13 hx26 ⟨as10, ns10, cs10, as11, ns11, cs11, rfl, rfl, hs10, hs11⟩
                                      refine r_move rfl rfl rfl ?_
                                      refine r_extract rfl rfl rfl rfl ?_
                                      refine r_extract rfl rfl rfl rfl ?_
                                      refine r_extract rfl rfl rfl rfl ?_
                                      refine r_alloc ze24 rfl rfl rfl hx26 ?_
                                      intro b11 wx33 hx27
                                      refine r_alloc ze24 rfl rfl rfl hx27 ?_
                                      intro b12 wx34 hx28
                                      refine r_store sz24 rfl hx28 rfl rfl rfl rfl (i := 1) rfl rfl rfl rfl ?_
                                      intro wx35 hx29
                                      refine r_store sz24 rfl hx29 rfl rfl rfl rfl (i := 0) rfl rfl rfl rfl ?_
                                      intro wx36 hx30
                                      refine r_assign rfl rfl rfl ?_
                                      refine r_nil ?_
                                      refine q_then ?_
                                      refine c_seq ?_
                                      refine c_region ?_
                                      refine r_loadBA (cs' := [.int .i64 ax1.Sign, .slice as1 ns1 cs1]) ag24 sz24 rfl rfl hx30 rfl (i := 10) rfl rfl rfl ?_
                                      refine r_loadBA (cs' := [.int .i64 v18.2.1.Sign, .slice as11 ns11 cs11]) ag24 sz24 rfl rfl hx30 rfl (i := 0) rfl rfl rfl ?_
                                      obtain ⟨v19, hv7, hm⟩ := bind_some hm
                                      refine r_callG0 ent12 rfl rfl rfl rfl hx30 (big_Gcd_ok _ _ _ _ hv7 hx30.sat (((((((((((((hs1.mono hF1).mono hF2).mono hF3).mono hF4).mono hF5).mono hF6).mono hF7).mono hF8).mono hF9).mono hF10).mono hF11).mono hF12).mono hF13) hs11) ?_
                                      rintro _ Fx14 _ wx37 hF14 hx31 ⟨as12, ns12, cs12, rfl, rfl, hs12⟩
                                      refine r_move rfl rfl rfl ?_
                                      refine r_extract rfl rfl rfl rfl ?_
                                      refine r_extract rfl rfl rfl rfl ?_
                                      refine r_alloc ze24 rfl rfl rfl hx31 ?_
                                      intro b13 wx38 hx32
                                      refine r_store sz24 rfl hx32 rfl rfl rfl rfl (i := 0) rfl rfl rfl rfl ?_
                                      intro wx39 hx33
                                      refine r_assign rfl rfl rfl ?_
                                      refine r_nil ?_
                                      refine q_then ?_
                                      refine c_seq ?_
                                      refine c_region ?_
                                      refine r_move rfl rfl rfl ?_
                                      refine r_bin rfl rfl rfl rfl rfl ?_
                                      refine r_move rfl rfl rfl ?_
                                      obtain ⟨v20, hb19, hm⟩ := bind_some hm
                                      refine r_mid 3 (fun a w' => wx39 = w' ∧ Has 217 a [(3, .pointer (some ⟨b2, 0, none⟩)), (4, .pointer (some ⟨b3, 0, none⟩)), (5, .pointer (some ⟨b4, 0, none⟩)), (7, .bool v1), (8, .pointer (some ⟨b5, 0, none⟩)), (21, .pointer (some ⟨b13, 0, none⟩)), (159, .bool v20)]) ?_ ?_
                                      · rintro a wx40 ⟨rfl, hax14⟩
                                        refine rw_apply hax14 ?_
                                        refine r_move rfl rfl rfl ?_
                                        obtain ⟨v21, hb20, hm⟩ := bind_some hm
                                        refine r_mid 5 (fun a w' => ∃ (Fx15 : Frz), Frz.le Fx14 Fx15 ∧ HS F w [] Fx15 [.box b13 24 [.int .i64 v19.1.Sign, .slice as12 ns12 cs12], .box b12 24 [.int .i64 v18.2.1.Sign, .slice as11 ns11 cs11], .box b11 24 [.int .i64 v18.1.Sign, .slice as10 ns10 cs10], .box b10 24 [.int .i64 v14.2.1.Sign, .slice as9 ns9 cs9], .box b9 24 [.int .i64 v14.1.Sign, .slice as8 ns8 cs8], .box b8 24 [.int .i64 v13.2.1.Sign, .slice as7 ns7 cs7], .box b7 24 [.int .i64 v13.1.Sign, .slice as6 ns6 cs6], .box b6 24 [.int .i64 f1, .slice as5 ns5 cs5], .box b5 24 [.int .i64 v8.1.Sign, .slice as4 ns4 cs4], .box b4 24 [.int .i64 c1.Sign, .slice as3 ns3 cs3], .box b3 24 [.int .i64 b1.Sign, .slice as2 ns2 cs2], .box b2 24 [.int .i64 ax1.Sign, .slice as1 ns1 cs1]] w' ∧ Has 217 a [(3, .pointer (some ⟨b2, 0, none⟩)), (4, .pointer (some ⟨b3, 0, none⟩)), (5, .pointer (some ⟨b4, 0, none⟩)), (7, .bool v1), (8, .pointer (some ⟨b5, 0, none⟩)), (165, .bool v21)]) ?_ ?_
                                        · rintro a wx41 ⟨Fx15, hF15, hx34, hax15⟩
                                          refine rw_apply hax15 ?_
                                          refine r_nil ?_
                                          refine q_then ?_
                                          rcases cond_some hm with ⟨hb21, hm⟩ | ⟨hb21, hm⟩
                                          · refine c_lit 165 rfl hb21 ?_
                                            refine c_true rfl ?_
                                            refine c_seq ?_
                                            refine c_region ?_
                                            refine r_assign rfl rfl rfl ?_
                                            refine r_nil ?_
                                            refine q_then ?_
                                            refine c_ret ?_
                                            refine q_then_ret ?_
                                            refine b_ret1 rfl rfl ?_
                                            obtain rfl := Option.some.inj hm
                                            exact ⟨_, _, _, rfl, hx34.pick [] (by decide) rfl, rfl, rfl⟩
                                          · refine c_lit 165 rfl hb21 ?_
                                            refine c_false rfl ?_
                                            refine c_skip ?_
                                            refine q_then ?_
                                            refine c_seq ?_
                                            refine c_region ?_
                                            refine r_loadBA (cs' := [.int .i64 ax1.Sign, .slice as1 ns1 cs1]) ag24 sz24 rfl rfl hx34 rfl (i := 11) rfl rfl rfl ?_
                                            refine r_loadBA (cs' := [.int .i64 c1.Sign, .slice as3 ns3 cs3]) ag24 sz24 rfl rfl hx34 rfl (i := 9) rfl rfl rfl ?_
                                            obtain ⟨v22, hv8, hm⟩ := bind_some hm
                                            refine r_callG0 ent16 rfl rfl rfl rfl hx34 (big_Mul_ok _ _ _ _ hv8 hx34.sat (((((((((((((((hs1.mono hF1).mono hF2).mono hF3).mono hF4).mono hF5).mono hF6).mono hF7).mono hF8).mono hF9).mono hF10).mono hF11).mono hF12).mono hF13).mono hF14).mono hF15) (((((((((((((((hs3.mono hF1).mono hF2).mono hF3).mono hF4).mono hF5).mono hF6).mono hF7).mono hF8).mono hF9).mono hF10).mono hF11).mono hF12).mono hF13).mono hF14).mono hF15)) ?_
                                            rintro _ Fx16 _ wx42 hF16 hx35 ⟨as13, ns13, cs13, rfl, rfl, hs13⟩
                                            refine r_move rfl rfl rfl ?_
                                            refine r_extract rfl rfl rfl rfl ?_
                                            refine r_extract rfl rfl rfl rfl ?_
                                            refine r_alloc ze24 rfl rfl rfl hx35 ?_
                                            intro b14 wx43 hx36
                                            refine r_store sz24 rfl hx36 rfl rfl rfl rfl (i := 0) rfl rfl rfl rfl ?_
                                            intro wx44 hx37
                                            refine r_assign rfl rfl rfl ?_
                                            refine r_nil ?_
                                            refine q_then ?_
                                            refine c_seq ?_
                                            refine c_region ?_
                                            refine r_loadBA (cs' := [.int .i64 b1.Sign, .slice as2 ns2 cs2]) ag24 sz24 rfl rfl hx37 rfl (i := 11) rfl rfl rfl ?_
                                            refine r_loadBA (cs' := [.int .i64 c1.Sign, .slice as3 ns3 cs3]) ag24 sz24 rfl rfl hx37 rfl (i := 10) rfl rfl rfl ?_
                                            obtain ⟨v23, hv9, hm⟩ := bind_some hm
                                            refine r_callG0 ent16 rfl rfl rfl rfl hx37 (big_Mul_ok _ _ _ _ hv9 hx37.sat ((((((((((((((((hs2.mono hF1).mono hF2).mono hF3).mono hF4).mono hF5).mono hF6).mono hF7).mono hF8).mono hF9).mono hF10).mono hF11).mono hF12).mono hF13).mono hF14).mono hF15).mono hF16) ((((((((((((((((hs3.mono hF1).mono hF2).mono hF3).mono hF4).mono hF5).mono hF6).mono hF7).mono hF8).mono hF9).mono hF10).mono hF11).mono hF12).mono hF13).mono hF14).mono hF15).mono hF16)) ?_
                                            rintro _ Fx17 _ wx45 hF17 hx38 ⟨as14, ns14, cs14, rfl, rfl, hs14⟩
                                            refine r_move rfl rfl rfl ?_
                                            refine r_extract rfl rfl rfl rfl ?_
                                            refine r_extract rfl rfl rfl rfl ?_
                                            refine r_alloc ze24 rfl rfl rfl hx38 ?_
                                            intro b15 wx46 hx39
                                            refine r_store sz24 rfl hx39 rfl rfl rfl rfl (i := 0) rfl rfl rfl rfl ?_
                                            intro wx47 hx40
                                            refine r_assign rfl rfl rfl ?_
                                            refine r_nil ?_
                                            refine q_then ?_
                                            refine c_seq ?_
                                            refine c_region ?_
                                            refine r_loadBA (cs' := [.int .i64 v22.1.Sign, .slice as13 ns13 cs13]) ag24 sz24 rfl rfl hx40 rfl (i := 1) rfl rfl rfl ?_
                                            refine r_loadBA (cs' := [.int .i64 v23.1.Sign, .slice as14 ns14 cs14]) ag24 sz24 rfl rfl hx40 rfl (i := 0) rfl rfl rfl ?_
                                            obtain ⟨v24, hv10, hm⟩ := bind_some hm
                                            refine r_callG0 ent12 rfl rfl rfl rfl hx40 (big_Gcd_ok _ _ _ _ hv10 hx40.sat (hs13.mono hF17) hs14) ?_
                                            rintro _ Fx18 _ wx48 hF18 hx41 ⟨as15, ns15, cs15, rfl, rfl, hs15⟩
                                            refine r_move rfl rfl rfl ?_
                                            refine r_extract rfl rfl rfl rfl ?_
                                            refine r_extract rfl rfl rfl rfl ?_
                                            refine r_alloc ze24 rfl rfl rfl hx41 ?_
                                            intro b16 wx49 hx42
                                            refine r_store sz24 rfl hx42 rfl rfl rfl rfl (i := 0) rfl rfl rfl rfl ?_
                                            intro wx50 hx43
                                            refine r_assign rfl rfl rfl ?_
                                            refine r_nil ?_
                                            refine q_then ?_
                                            refine c_seq ?_
                                            refine c_region ?_
                                            refine r_loadBA (cs' := [.int .i64 v8.1.Sign, .slice as4 ns4 cs4]) ag24 sz24 rfl rfl hx43 rfl (i := 11) rfl rfl rfl ?_
                                            refine r_loadBA (cs' := [.int .i64 c1.Sign, .slice as3 ns3 cs3]) ag24 sz24 rfl rfl hx43 rfl (i := 12) rfl rfl rfl ?_
                                            obtain ⟨v25, hv11, hm⟩ := bind_some hm
                                            refine r_callG0 ent16 rfl rfl rfl rfl hx43 (big_Mul_ok _ _ _ _ hv11 hx43.sat ((((((((((hs4.mono hF9).mono hF10).mono hF11).mono hF12).mono hF13).mono hF14).mono hF15).mono hF16).mono hF17).mono hF18) ((((((((((((((((((hs3.mono hF1).mono hF2).mono hF3).mono hF4).mono hF5).mono hF6).mono hF7).mono hF8).mono hF9).mono hF10).mono hF11).mono hF12).mono hF13).mono hF14).mono hF15).mono hF16).mono hF17).mono hF18)) ?_
                                            rintro _ Fx19 _ wx51 hF19 hx44 ⟨as16, ns16, cs16, rfl, rfl, hs16⟩
                                            refine r_move rfl rfl rfl ?_
                                            refine r_extract rfl rfl rfl rfl ?_
                                            refine r_extract rfl rfl rfl rfl ?_
                                            refine r_alloc ze24 rfl rfl rfl hx44 ?_
                                            intro b17 wx52 hx45
                                            refine r_store sz24 rfl hx45 rfl rfl rfl rfl (i := 0) rfl rfl rfl rfl ?_
                                            intro wx53 hx46
                                            refine r_assign rfl rfl rfl ?_
                                            refine r_nil ?_
                                            refine q_then ?_
                                            refine c_seq ?_
                                            refine c_seq ?_
                                            refine c_region ?_
                                            refine r_fieldAddr fa24_0 rfl rfl rfl ?_
                                            refine r_loadB1 ag3 rfl rfl hx46 rfl (i := 13) rfl rfl ?_
                                            refine r_bin rfl rfl rfl rfl rfl ?_
                                            refine r_nil ?_
                                            refine q_then ?_
                                            obtain ⟨⟨f4, f5⟩, hb22, hm⟩ := bind_some hm
                                            refine c_midT (fun a w' => ∃ (Fx20 : Frz) (as17 : Option Addr) (ns17 : Nat) (cs17 : Nat), Frz.le Fx19 Fx20 ∧ HS F w [] Fx20 [.box b17 24 [.int .i64 f4, .slice as17 ns17 cs17], .box b16 24 [.int .i64 v24.1.Sign, .slice as15 ns15 cs15], .box b15 24 [.int .i64 v23.1.Sign, .slice as14 ns14 cs14], .box b14 24 [.int .i64 v22.1.Sign, .slice as13 ns13 cs13], .box b13 24 [.int .i64 v19.1.Sign, .slice as12 ns12 cs12], .box b12 24 [.int .i64 v18.2.1.Sign, .slice as11 ns11 cs11], .box b11 24 [.int .i64 v18.1.Sign, .slice as10 ns10 cs10], .box b10 24 [.int .i64 v14.2.1.Sign, .slice as9 ns9 cs9], .box b9 24 [.int .i64 v14.1.Sign, .slice as8 ns8 cs8], .box b8 24 [.int .i64 v13.2.1.Sign, .slice as7 ns7 cs7], .box b7 24 [.int .i64 v13.1.Sign, .slice as6 ns6 cs6], .box b6 24 [.int .i64 f1, .slice as5 ns5 cs5], .box b5 24 [.int .i64 v8.1.Sign, .slice as4 ns4 cs4], .box b4 24 [.int .i64 c1.Sign, .slice as3 ns3 cs3], .box b3 24 [.int .i64 b1.Sign, .slice as2 ns2 cs2], .box b2 24 [.int .i64 ax1.Sign, .slice as1 ns1 cs1]] w' ∧ (SlR (Rp.int .i64) Fx20 as17 ns17 cs17 f5) ∧ Has 217 a [(7, .bool v1), (24, .int .i64 v22.2), (26, .int .i64 v23.2), (27, .pointer (some ⟨b16, 0, none⟩)), (28, .int .i64 v24.2), (29, .pointer (some ⟨b17, 0, none⟩)), (30, .int .i64 v25.2)]) ?_ ?_
                                            · rintro a wx54 ⟨Fx20, as17, ns17, cs17, hF20, hx47, hs17, hax16⟩
                                              refine cw_apply hax16 ?_
                                              refine c_seq ?_
                                              refine c_region ?_
                                              refine r_move rfl rfl rfl ?_
                                              refine r_move rfl rfl rfl ?_
                                              obtain ⟨v26, hb23, hm⟩ := bind_some hm
                                              refine r_mid 3 (fun a w' => wx54 = w' ∧ Has 217 a [(26, .int .i64 v23.2), (27, .pointer (some ⟨b16, 0, none⟩)), (28, .int .i64 v24.2), (29, .pointer (some ⟨b17, 0, none⟩)), (30, .int .i64 v25.2), (199, .bool v26)]) ?_ ?_
                                              · rintro a wx55 ⟨rfl, hax17⟩
                                                refine rw_apply hax17 ?_
                                                refine r_move rfl rfl rfl ?_
                                                obtain ⟨v27, hb24, hm⟩ := bind_some hm
                                                refine r_mid 3 (fun a w' => wx54 = w' ∧ Has 217 a [(27, .pointer (some ⟨b16, 0, none⟩)), (28, .int .i64 v24.2), (29, .pointer (some ⟨b17, 0, none⟩)), (30, .int .i64 v25.2), (203, .bool v27)]) ?_ ?_
                                                · rintro a wx56 ⟨rfl, hax18⟩
                                                  refine rw_apply hax18 ?_
                                                  refine r_move rfl rfl rfl ?_
                                                  obtain ⟨v28, hb25, hm⟩ := bind_some hm
                                                  refine r_mid 3 (fun a w' => wx54 = w' ∧ Has 217 a [(27, .pointer (some ⟨b16, 0, none⟩)), (29, .pointer (some ⟨b17, 0, none⟩)), (30, .int .i64 v25.2), (207, .bool v28)]) ?_ ?_
                                                  · rintro a wx57 ⟨rfl, hax19⟩
                                                    refine rw_apply hax19 ?_
                                                    refine r_move rfl rfl rfl ?_
                                                    obtain ⟨v29, hb26, hm⟩ := bind_some hm
                                                    refine r_mid 3 (fun a w' => wx54 = w' ∧ Has 217 a [(27, .pointer (some ⟨b16, 0, none⟩)), (29, .pointer (some ⟨b17, 0, none⟩)), (211, .bool v29)]) ?_ ?_
                                                    · rintro a wx58 ⟨rfl, hax20⟩
                                                      refine rw_apply hax20 ?_
                                                      refine r_move rfl rfl rfl ?_
                                                      obtain ⟨v30, hb27, hm⟩ := bind_some hm
                                                      refine r_mid 4 (fun a w' => ∃ (Fx21 : Frz), Frz.le Fx20 Fx21 ∧ HS F w [] Fx21 [.box b17 24 [.int .i64 f4, .slice as17 ns17 cs17], .box b16 24 [.int .i64 v24.1.Sign, .slice as15 ns15 cs15], .box b15 24 [.int .i64 v23.1.Sign, .slice as14 ns14 cs14], .box b14 24 [.int .i64 v22.1.Sign, .slice as13 ns13 cs13], .box b13 24 [.int .i64 v19.1.Sign, .slice as12 ns12 cs12], .box b12 24 [.int .i64 v18.2.1.Sign, .slice as11 ns11 cs11], .box b11 24 [.int .i64 v18.1.Sign, .slice as10 ns10 cs10], .box b10 24 [.int .i64 v14.2.1.Sign, .slice as9 ns9 cs9], .box b9 24 [.int .i64 v14.1.Sign, .slice as8 ns8 cs8], .box b8 24 [.int .i64 v13.2.1.Sign, .slice as7 ns7 cs7], .box b7 24 [.int .i64 v13.1.Sign, .slice as6 ns6 cs6], .box b6 24 [.int .i64 f1, .slice as5 ns5 cs5], .box b5 24 [.int .i64 v8.1.Sign, .slice as4 ns4 cs4], .box b4 24 [.int .i64 c1.Sign, .slice as3 ns3 cs3], .box b3 24 [.int .i64 b1.Sign, .slice as2 ns2 cs2], .box b2 24 [.int .i64 ax1.Sign, .slice as1 ns1 cs1]] w' ∧ Has 217 a [(216, .bool v30)]) ?_ ?_
                                                      · rintro a wx59 ⟨Fx21, hF21, hx48, hax21⟩
                                                        refine rw_apply hax21 ?_
                                                        refine r_assign rfl rfl rfl ?_
                                                        refine r_nil ?_
                                                        refine q_then ?_
                                                        refine c_ret ?_
                                                        refine b_ret1 rfl rfl ?_
                                                        obtain rfl := Option.some.inj hm
                                                        exact ⟨_, _, _, rfl, hx48.pick [] (by decide) rfl, rfl, rfl⟩
                                                      · clear hm
                                                        rcases cond_some hb27 with ⟨hb28, hb27⟩ | ⟨hb28, hb27⟩
                                                        · refine r_lit 212 rfl hb28 ?_
                                                          refine r_loadBA (cs' := [.int .i64 v24.1.Sign, .slice as15 ns15 cs15]) ag24 sz24 rfl rfl hx47 rfl (i := 1) rfl rfl rfl ?_
                                                          refine r_loadBA (cs' := [.int .i64 f4, .slice as17 ns17 cs17]) ag24 sz24 rfl rfl hx47 rfl (i := 0) rfl rfl rfl ?_
                                                          obtain ⟨v31, hv12, hb27⟩ := bind_some hb27
                                                          refine r_callG0 ent14 rfl rfl rfl rfl hx47 (big_Same_ok _ _ _ _ hv12 hx47.sat ((hs15.mono hF19).mono hF20) hs17) ?_
                                                          rintro _ Fx22 _ wx60 hF22 hx49 ⟨rfl, rfl⟩
                                                          refine r_pick_true rfl rfl rfl rfl ?_
                                                          refine r_nil ?_
                                                          refine q_next (fun a ha => ?_)
                                                          cases hb27
                                                          exact ⟨_, hF22, hx49.pick [0, 1, 2, 3, 4, 5, 6, 7, 8, 9, 10, 11, 12, 13, 14, 15] (by decide) rfl, ha.cut (l := [216]) rfl⟩
                                                        · refine r_lit 212 rfl hb28 ?_
                                                          refine r_off rfl (by decide) rfl ?_
                                                          refine r_off rfl (by decide) rfl ?_
                                                          refine r_off rfl (by decide) rfl ?_
                                                          refine r_pick_false rfl rfl rfl rfl ?_
                                                          refine r_nil ?_
                                                          refine q_next (fun a ha => ?_)
                                                          cases hb27
                                                          exact ⟨_, Frz.refl _, hx47.pick [0, 1, 2, 3, 4, 5, 6, 7, 8, 9, 10, 11, 12, 13, 14, 15] (by decide) rfl, ha.cut (l := [216]) rfl⟩
                                                    · clear hm
                                                      rcases cond_some hb26 with ⟨hb29, hb26⟩ | ⟨hb29, hb26⟩
                                                      · refine r_lit 208 rfl hb29 ?_
                                                        refine r_move rfl rfl rfl ?_
                                                        refine r_bin rfl rfl rfl rfl rfl ?_
                                                        refine r_pick_true rfl rfl rfl rfl ?_
                                                        refine r_nil ?_
                                                        refine q_next (fun a ha => ?_)
                                                        cases hb26
                                                        exact ⟨rfl, ha.cut (l := [27, 29, 211]) rfl⟩
                                                      · refine r_lit 208 rfl hb29 ?_
                                                        refine r_off rfl (by decide) rfl ?_
                                                        refine r_off rfl (by decide) rfl ?_
                                                        refine r_pick_false rfl rfl rfl rfl ?_
                                                        refine r_nil ?_
                                                        refine q_next (fun a ha => ?_)
                                                        cases hb26
                                                        exact ⟨rfl, ha.cut (l := [27, 29, 211]) rfl⟩
                                                  · clear hm
                                                    rcases cond_some hb25 with ⟨hb30, hb25⟩ | ⟨hb30, hb25⟩
                                                    · refine r_lit 204 rfl hb30 ?_
                                                      refine r_move rfl rfl rfl ?_
                                                      refine r_bin rfl rfl rfl rfl rfl ?_
                                                      refine r_pick_true rfl rfl rfl rfl ?_
                                                      refine r_nil ?_
                                                      refine q_next (fun a ha => ?_)
                                                      cases hb25
                                                      exact ⟨rfl, ha.cut (l := [27, 29, 30, 207]) rfl⟩
                                                    · refine r_lit 204 rfl hb30 ?_
                                                      refine r_off rfl (by decide) rfl ?_
                                                      refine r_off rfl (by decide) rfl ?_
                                                      refine r_pick_false rfl rfl rfl rfl ?_
                                                      refine r_nil ?_
                                                      refine q_next (fun a ha => ?_)
                                                      cases hb25
                                                      exact ⟨rfl, ha.cut (l := [27, 29, 30, 207]) rfl⟩
                                                · clear hm
                                                  rcases cond_some hb24 with ⟨hb31, hb24⟩ | ⟨hb31, hb24⟩
                                                  · refine r_lit 200 rfl hb31 ?_
                                                    refine r_move rfl rfl rfl ?_
                                                    refine r_bin rfl rfl rfl rfl rfl ?_
                                                    refine r_pick_true rfl rfl rfl rfl ?_
                                                    refine r_nil ?_
                                                    refine q_next (fun a ha => ?_)
                                                    cases hb24
                                                    exact ⟨rfl, ha.cut (l := [27, 28, 29, 30, 203]) rfl⟩
                                                  · refine r_lit 200 rfl hb31 ?_
                                                    refine r_off rfl (by decide) rfl ?_
                                                    refine r_off rfl (by decide) rfl ?_
                                                    refine r_pick_false rfl rfl rfl rfl ?_
                                                    refine r_nil ?_
                                                    refine q_next (fun a ha => ?_)
                                                    cases hb24
                                                    exact ⟨rfl, ha.cut (l := [27, 28, 29, 30, 203]) rfl⟩
                                              · clear hm
                                                rcases cond_some hb23 with ⟨hb32, hb23⟩ | ⟨hb32, hb23⟩
                                                · refine r_lit 196 rfl hb32 ?_
                                                  refine r_move rfl rfl rfl ?_
                                                  refine r_bin rfl rfl rfl rfl rfl ?_
                                                  refine r_pick_true rfl rfl rfl rfl ?_
                                                  refine r_nil ?_
                                                  refine q_next (fun a ha => ?_)
                                                  cases hb23
                                                  exact ⟨rfl, ha.cut (l := [26, 27, 28, 29, 30, 199]) rfl⟩
                                                · refine r_lit 196 rfl hb32 ?_
                                                  refine r_off rfl (by decide) rfl ?_
                                                  refine r_off rfl (by decide) rfl ?_
                                                  refine r_pick_false rfl rfl rfl rfl ?_
                                                  refine r_nil ?_
                                                  refine q_next (fun a ha => ?_)
                                                  cases hb23
                                                  exact ⟨rfl, ha.cut (l := [26, 27, 28, 29, 30, 199]) rfl⟩
                                            · clear hm
                                              rcases cond_some hb22 with ⟨hb33, hb22⟩ | ⟨hb33, hb22⟩
                                              · refine c_lit 192 rfl hb33 ?_
                                                refine c_true rfl ?_
                                                refine c_region ?_
                                                refine r_loadBA (cs' := [.int .i64 v25.1.Sign, .slice as16 ns16 cs16]) ag24 sz24 rfl rfl hx46 rfl (i := 0) rfl rfl rfl ?_
                                                obtain ⟨v32, hv13, hb22⟩ := bind_some hb22
                                                refine r_callG0 ent13 rfl rfl rfl rfl hx46 (big_Neg_ok _ _ _ hv13 hx46.sat hs16) ?_
                                                rintro _ Fx23 _ wx61 hF23 hx50 ⟨as18, ns18, cs18, rfl, rfl, hs18⟩
                                                refine r_store sz24 rfl hx50 rfl rfl rfl rfl (i := 0) rfl rfl rfl rfl ?_
                                                intro wx62 hx51
                                                refine r_nil ?_
                                                refine q_next (fun a ha => ?_)
                                                cases hb22
                                                exact ⟨_, as18, ns18, cs18, hF23, hx51.pick [0, 1, 2, 3, 4, 5, 6, 7, 8, 9, 10, 11, 12, 13, 14, 15] (by decide) rfl, hs18, ha.cut (l := [7, 24, 26, 27, 28, 29, 30]) rfl⟩
                                              · refine c_lit 192 rfl hb33 ?_
                                                refine c_false rfl ?_
                                                refine c_skip ?_
                                                refine q_next (fun a ha => ?_)
                                                cases hb22
                                                exact ⟨_, as16, ns16, cs16, Frz.refl _, hx46.pick [0, 1, 2, 3, 4, 5, 6, 7, 8, 9, 10, 11, 12, 13, 14, 15] (by decide) rfl, hs16, ha.cut (l := [7, 24, 26, 27, 28, 29, 30]) rfl⟩
                                        · clear hm
                                          rcases cond_some hb20 with ⟨hb34, hb20⟩ | ⟨hb34, hb20⟩
                                          · refine r_lit 160 rfl hb34 ?_
                                            refine r_off rfl (by decide) rfl ?_
                                            refine r_off rfl (by decide) rfl ?_
                                            refine r_off rfl (by decide) rfl ?_
                                            refine r_off rfl (by decide) rfl ?_
                                            refine r_pick_true rfl rfl rfl rfl ?_
                                            refine r_nil ?_
                                            refine q_next (fun a ha => ?_)
                                            cases hb20
                                            exact ⟨_, Frz.refl _, hx33.pick [0, 1, 2, 3, 4, 5, 6, 7, 8, 9, 10, 11] (by decide) rfl, ha.cut (l := [3, 4, 5, 7, 8, 165]) rfl⟩
                                          · refine r_lit 160 rfl hb34 ?_
                                            refine r_loadBA (cs' := [.int .i64 v19.1.Sign, .slice as12 ns12 cs12]) ag24 sz24 rfl rfl hx33 rfl (i := 0) rfl rfl rfl ?_
                                            refine r_loadBA (cs' := [.int .i64 v8.1.Sign, .slice as4 ns4 cs4]) ag24 sz24 rfl rfl hx33 rfl (i := 8) rfl rfl rfl ?_
                                            obtain ⟨v33, hv14, hb20⟩ := bind_some hb20
                                            refine r_callG0 ent14 rfl rfl rfl rfl hx33 (big_Same_ok _ _ _ _ hv14 hx33.sat hs12 ((((((hs4.mono hF9).mono hF10).mono hF11).mono hF12).mono hF13).mono hF14)) ?_
                                            rintro _ Fx24 _ wx63 hF24 hx52 ⟨rfl, rfl⟩
                                            refine r_not rfl rfl rfl ?_
                                            refine r_pick_false rfl rfl rfl rfl ?_
                                            refine r_nil ?_
                                            refine q_next (fun a ha => ?_)
                                            cases hb20
                                            exact ⟨_, hF24, hx52.pick [0, 1, 2, 3, 4, 5, 6, 7, 8, 9, 10, 11] (by decide) rfl, ha.cut (l := [3, 4, 5, 7, 8, 165]) rfl⟩
                                      · clear hm
                                        rcases cond_some hb19 with ⟨hb35, hb19⟩ | ⟨hb35, hb19⟩
                                        · refine r_lit 156 rfl hb35 ?_
                                          refine r_off rfl (by decide) rfl ?_
                                          refine r_off rfl (by decide) rfl ?_
                                          refine r_pick_true rfl rfl rfl rfl ?_
                                          refine r_nil ?_
                                          refine q_next (fun a ha => ?_)
                                          cases hb19
                                          exact ⟨rfl, ha.cut (l := [3, 4, 5, 7, 8, 21, 159]) rfl⟩
                                        · refine r_lit 156 rfl hb35 ?_
                                          refine r_move rfl rfl rfl ?_
                                          refine r_bin rfl rfl rfl rfl rfl ?_
                                          refine r_pick_false rfl rfl rfl rfl ?_
                                          refine r_nil ?_
                                          refine q_next (fun a ha => ?_)
                                          cases hb19
                                          exact ⟨rfl, ha.cut (l := [3, 4, 5, 7, 8, 21, 159]) rfl⟩
                                    · refine c_lit 140 rfl hb18 ?_
                                      refine c_false rfl ?_
                                      refine c_skip ?_
                                      refine q_then ?_
                                      refine c_seq ?_
                                      refine c_region ?_
                                      refine r_loadBA (cs' := [.int .i64 ax1.Sign, .slice as1 ns1 cs1]) ag24 sz24 rfl rfl hx25 rfl (i := 8) rfl rfl rfl ?_
                                      refine r_loadBA (cs' := [.int .i64 c1.Sign, .slice as3 ns3 cs3]) ag24 sz24 rfl rfl hx25 rfl (i := 6) rfl rfl rfl ?_
                                      obtain ⟨v34, hv15, hm⟩ := bind_some hm
                                      refine r_callG0 ent16 rfl rfl rfl rfl hx25 (big_Mul_ok _ _ _ _ hv15 hx25.sat ((((((((((((hs1.mono hF1).mono hF2).mono hF3).mono hF4).mono hF5).mono hF6).mono hF7).mono hF8).mono hF9).mono hF10).mono hF11).mono hF12) ((((((((((((hs3.mono hF1).mono hF2).mono hF3).mono hF4).mono hF5).mono hF6).mono hF7).mono hF8).mono hF9).mono hF10).mono hF11).mono hF12)) ?_
                                      rintro _ Fx25 _ wx64 hF25 hx53 ⟨as19, ns19, cs19, rfl, rfl, hs19⟩
                                      refine r_move rfl rfl rfl ?_
                                      refine r_extract rfl rfl rfl rfl ?_
                                      refine r_extract rfl rfl rfl rfl ?_
                                      refine r_alloc ze24 rfl rfl rfl hx53 ?_
                                      intro b18 wx65 hx54
                                      refine r_store sz24 rfl hx54 rfl rfl rfl rfl (i := 0) rfl rfl rfl rfl ?_
                                      intro wx66 hx55
                                      refine r_assign rfl rfl rfl ?_
                                      refine r_nil ?_
                                      refine q_then ?_
                                      refine c_seq ?_
                                      refine c_region ?_
                                      refine r_loadBA (cs' := [.int .i64 b1.Sign, .slice as2 ns2 cs2]) ag24 sz24 rfl rfl hx55 rfl (i := 8) rfl rfl rfl ?_
                                      refine r_loadBA (cs' := [.int .i64 c1.Sign, .slice as3 ns3 cs3]) ag24 sz24 rfl rfl hx55 rfl (i := 7) rfl rfl rfl ?_
                                      obtain ⟨v35, hv16, hm⟩ := bind_some hm
                                      refine r_callG0 ent16 rfl rfl rfl rfl hx55 (big_Mul_ok _ _ _ _ hv16 hx55.sat (((((((((((((hs2.mono hF1).mono hF2).mono hF3).mono hF4).mono hF5).mono hF6).mono hF7).mono hF8).mono hF9).mono hF10).mono hF11).mono hF12).mono hF25) (((((((((((((hs3.mono hF1).mono hF2).mono hF3).mono hF4).mono hF5).mono hF6).mono hF7).mono hF8).mono hF9).mono hF10).mono hF11).mono hF12).mono hF25)) ?_
                                      rintro _ Fx26 _ wx67 hF26 hx56 ⟨as20, ns20, cs20, rfl, rfl, hs20⟩
                                      refine r_move rfl rfl rfl ?_
                                      refine r_extract rfl rfl rfl rfl ?_
                                      refine r_extract rfl rfl rfl rfl ?_
                                      refine r_alloc ze24 rfl rfl rfl hx56 ?_
                                      intro b19 wx68 hx57
                                      refine r_store sz24 rfl hx57 rfl rfl rfl rfl (i := 0) rfl rfl rfl rfl ?_
                                      intro wx69 hx58
                                      refine r_assign rfl rfl rfl ?_
                                      refine r_nil ?_
                                      refine q_then ?_
                                      refine c_seq ?_
                                      refine c_region ?_
                                      refine r_loadBA (cs' := [.int .i64 v34.1.Sign, .slice as19 ns19 cs19]) ag24 sz24 rfl rfl hx58 rfl (i := 1) rfl rfl rfl ?_
                                      refine r_loadBA (cs' := [.int .i64 v35.1.Sign, .slice as20 ns20 cs20]) ag24 sz24 rfl rfl hx58 rfl (i := 0) rfl rfl rfl ?_
                                      obtain ⟨v36, hv17, hm⟩ := bind_some hm
                                      refine r_callG0 ent12 rfl rfl rfl rfl hx58 (big_Gcd_ok _ _ _ _ hv17 hx58.sat (hs19.mono hF26) hs20) ?_
                                      rintro _ Fx27 _ wx70 hF27 hx59 ⟨as21, ns21, cs21, rfl, rfl, hs21⟩
                                      refine r_move rfl rfl rfl ?_
                                      refine r_extract rfl rfl rfl rfl ?_
                                      refine r_extract rfl rfl rfl rfl ?_
                                      refine r_alloc ze24 rfl rfl rfl hx59 ?_
                                      intro b20 wx71 hx60
                                      refine r_store sz24 rfl hx60 rfl rfl rfl rfl (i := 0) rfl rfl rfl rfl ?_
                                      intro wx72 hx61
                                      refine r_assign rfl rfl rfl ?_
                                      refine r_nil ?_
                                      refine q_then ?_
                                      refine c_seq ?_
                                      refine c_region ?_
                                      refine r_loadBA (cs' := [.int .i64 v8.1.Sign, .slice as4 ns4 cs4]) ag24 sz24 rfl rfl hx61 rfl (i := 8) rfl rfl rfl ?_
                                      refine r_loadBA (cs' := [.int .i64 c1.Sign, .slice as3 ns3 cs3]) ag24 sz24 rfl rfl hx61 rfl (i := 9) rfl rfl rfl ?_
                                      obtain ⟨v37, hv18, hm⟩ := bind_some hm
                                      refine r_callG0 ent16 rfl rfl rfl rfl hx61 (big_Mul_ok _ _ _ _ hv18 hx61.sat (((((((hs4.mono hF9).mono hF10).mono hF11).mono hF12).mono hF25).mono hF26).mono hF27) (((((((((((((((hs3.mono hF1).mono hF2).mono hF3).mono hF4).mono hF5).mono hF6).mono hF7).mono hF8).mono hF9).mono hF10).mono hF11).mono hF12).mono hF25).mono hF26).mono hF27)) ?_
                                      rintro _ Fx28 _ wx73 hF28 hx62 ⟨as22, ns22, cs22, rfl, rfl, hs22⟩
                                      refine r_move rfl rfl rfl ?_
                                      refine r_extract rfl rfl rfl rfl ?_
                                      refine r_extract rfl rfl rfl rfl ?_
                                      refine r_alloc ze24 rfl rfl rfl hx62 ?_
                                      intro b21 wx74 hx63
                                      refine r_store sz24 rfl hx63 rfl rfl rfl rfl (i := 0) rfl rfl rfl rfl ?_
                                      intro wx75 hx64
                                      refine r_assign rfl rfl rfl ?_
                                      refine r_nil ?_
                                      refine q_then ?_
                                      refine c_seq ?_
                                      refine c_seq ?_
                                      refine c_region ?_
                                      refine r_fieldAddr fa24_0 rfl rfl rfl ?_
                                      refine r_loadB1 ag3 rfl rfl hx64 rfl (i := 10) rfl rfl ?_
                                      refine r_bin rfl rfl rfl rfl rfl ?_
                                      refine r_nil ?_
                                      refine q_then ?_
                                      obtain ⟨⟨f6, f7⟩, hb36, hm⟩ := bind_some hm
                                      refine c_midT (fun a w' => ∃ (Fx29 : Frz) (as23 : Option Addr) (ns23 : Nat) (cs23 : Nat), Frz.le Fx28 Fx29 ∧ HS F w [] Fx29 [.box b21 24 [.int .i64 f6, .slice as23 ns23 cs23], .box b20 24 [.int .i64 v36.1.Sign, .slice as21 ns21 cs21], .box b19 24 [.int .i64 v35.1.Sign, .slice as20 ns20 cs20], .box b18 24 [.int .i64 v34.1.Sign, .slice as19 ns19 cs19], .box b10 24 [.int .i64 v14.2.1.Sign, .slice as9 ns9 cs9], .box b9 24 [.int .i64 v14.1.Sign, .slice as8 ns8 cs8], .box b8 24 [.int .i64 v13.2.1.Sign, .slice as7 ns7 cs7], .box b7 24 [.int .i64 v13.1.Sign, .slice as6 ns6 cs6], .box b6 24 [.int .i64 f1, .slice as5 ns5 cs5], .box b5 24 [.int .i64 v8.1.Sign, .slice as4 ns4 cs4], .box b4 24 [.int .i64 c1.Sign, .slice as3 ns3 cs3], .box b3 24 [.int .i64 b1.Sign, .slice as2 ns2 cs2], .box b2 24 [.int .i64 ax1.Sign, .slice as1 ns1 cs1]] w' ∧ (SlR (Rp.int .i64) Fx29 as23 ns23 cs23 f7) ∧ Has 217 a [(7, .bool v1), (24, .int .i64 v34.2), (26, .int .i64 v35.2), (27, .pointer (some ⟨b20, 0, none⟩)), (28, .int .i64 v36.2), (29, .pointer (some ⟨b21, 0, none⟩)), (30, .int .i64 v37.2)]) ?_ ?_
                                      · rintro a wx76 ⟨Fx29, as23, ns23, cs23, hF29, hx65, hs23, hax22⟩
                                        refine cw_apply hax22 ?_
                                        refine c_seq ?_
                                        refine c_region ?_
                                        refine r_move rfl rfl rfl ?_
                                        refine r_move rfl rfl rfl ?_
                                        obtain ⟨v38, hb37, hm⟩ := bind_some hm
                                        refine r_mid 3 (fun a w' => wx76 = w' ∧ Has 217 a [(26, .int .i64 v35.2), (27, .pointer (some ⟨b20, 0, none⟩)), (28, .int .i64 v36.2), (29, .pointer (some ⟨b21, 0, none⟩)), (30, .int .i64 v37.2), (199, .bool v38)]) ?_ ?_
                                        · rintro a wx77 ⟨rfl, hax23⟩
                                          refine rw_apply hax23 ?_
                                          refine r_move rfl rfl rfl ?_
                                          obtain ⟨v39, hb38, hm⟩ := bind_some hm
                                          refine r_mid 3 (fun a w' => wx76 = w' ∧ Has 217 a [(27, .pointer (some ⟨b20, 0, none⟩)), (28, .int .i64 v36.2), (29, .pointer (some ⟨b21, 0, none⟩)), (30, .int .i64 v37.2), (203, .bool v39)]) ?_ ?_
                                          · rintro a wx78 ⟨rfl, hax24⟩
                                            refine rw_apply hax24 ?_
                                            refine r_move rfl rfl rfl ?_
                                            obtain ⟨v40, hb39, hm⟩ := bind_some hm
                                            refine r_mid 3 (fun a w' => wx76 = w' ∧ Has 217 a [(27, .pointer (some ⟨b20, 0, none⟩)), (29, .pointer (some ⟨b21, 0, none⟩)), (30, .int .i64 v37.2), (207, .bool v40)]) ?_ ?_
                                            · rintro a wx79 ⟨rfl, hax25⟩
                                              refine rw_apply hax25 ?_
                                              refine r_move rfl rfl rfl ?_
                                              obtain ⟨v41, hb40, hm⟩ := bind_some hm
                                              refine r_mid 3 (fun a w' => wx76 = w' ∧ Has 217 a [(27, .pointer (some ⟨b20, 0, none⟩)), (29, .pointer (some ⟨b21, 0, none⟩)), (211, .bool v41)]) ?_ ?_
                                              · rintro a wx80 ⟨rfl, hax26⟩
                                                refine rw_apply hax26 ?_
                                                refine r_move rfl rfl rfl ?_
                                                obtain ⟨v42, hb41, hm⟩ := bind_some hm
                                                refine r_mid 4 (fun a w' => ∃ (Fx30 : Frz), Frz.le Fx29 Fx30 ∧ HS F w [] Fx30 [.box b21 24 [.int .i64 f6, .slice as23 ns23 cs23], .box b20 24 [.int .i64 v36.1.Sign, .slice as21 ns21 cs21], .box b19 24 [.int .i64 v35.1.Sign, .slice as20 ns20 cs20], .box b18 24 [.int .i64 v34.1.Sign, .slice as19 ns19 cs19], .box b10 24 [.int .i64 v14.2.1.Sign, .slice as9 ns9 cs9], .box b9 24 [.int .i64 v14.1.Sign, .slice as8 ns8 cs8], .box b8 24 [.int .i64 v13.2.1.Sign, .slice as7 ns7 cs7], .box b7 24 [.int .i64 v13.1.Sign, .slice as6 ns6 cs6], .box b6 24 [.int .i64 f1, .slice as5 ns5 cs5], .box b5 24 [.int .i64 v8.1.Sign, .slice as4 ns4 cs4], .box b4 24 [.int .i64 c1.Sign, .slice as3 ns3 cs3], .box b3 24 [.int .i64 b1.Sign, .slice as2 ns2 cs2], .box b2 24 [.int .i64 ax1.Sign, .slice as1 ns1 cs1]] w' ∧ Has 217 a [(216, .bool v42)]) ?_ ?_
                                                · rintro a wx81 ⟨Fx30, hF30, hx66, hax27⟩
                                                  refine rw_apply hax27 ?_
                                                  refine r_assign rfl rfl rfl ?_
                                                  refine r_nil ?_
                                                  refine q_then ?_
                                                  refine c_ret ?_
                                                  refine b_ret1 rfl rfl ?_
                                                  obtain rfl := Option.some.inj hm
                                                  exact ⟨_, _, _, rfl, hx66.pick [] (by decide) rfl, rfl, rfl⟩
                                                · clear hm
                                                  rcases cond_some hb41 with ⟨hb42, hb41⟩ | ⟨hb42, hb41⟩
                                                  · refine r_lit 212 rfl hb42 ?_
                                                    refine r_loadBA (cs' := [.int .i64 v36.1.Sign, .slice as21 ns21 cs21]) ag24 sz24 rfl rfl hx65 rfl (i := 1) rfl rfl rfl ?_
                                                    refine r_loadBA (cs' := [.int .i64 f6, .slice as23 ns23 cs23]) ag24 sz24 rfl rfl hx65 rfl (i := 0) rfl rfl rfl ?_
                                                    obtain ⟨v43, hv19, hb41⟩ := bind_some hb41
                                                    refine r_callG0 ent14 rfl rfl rfl rfl hx65 (big_Same_ok _ _ _ _ hv19 hx65.sat ((hs21.mono hF28).mono hF29) hs23) ?_
                                                    rintro _ Fx31 _ wx82 hF31 hx67 ⟨rfl, rfl⟩
                                                    refine r_pick_true rfl rfl rfl rfl ?_
                                                    refine r_nil ?_
                                                    refine q_next (fun a ha => ?_)
                                                    cases hb41
                                                    exact ⟨_, hF31, hx67.pick [0, 1, 2, 3, 4, 5, 6, 7, 8, 9, 10, 11, 12] (by decide) rfl, ha.cut (l := [216]) rfl⟩
                                                  · refine r_lit 212 rfl hb42 ?_
                                                    refine r_off rfl (by decide) rfl ?_
                                                    refine r_off rfl (by decide) rfl ?_
                                                    refine r_off rfl (by decide) rfl ?_
                                                    refine r_pick_false rfl rfl rfl rfl ?_
                                                    refine r_nil ?_
                                                    refine q_next (fun a ha => ?_)
                                                    cases hb41
                                                    exact ⟨_, Frz.refl _, hx65.pick [0, 1, 2, 3, 4, 5, 6, 7, 8, 9, 10, 11, 12] (by decide) rfl, ha.cut (l := [216]) rfl⟩
                                              · clear hm
                                                rcases cond_some hb40 with ⟨hb43, hb40⟩ | ⟨hb43, hb40⟩
                                                · refine r_lit 208 rfl hb43 ?_
                                                  refine r_move rfl rfl rfl ?_
                                                  refine r_bin rfl rfl rfl rfl rfl ?_
                                                  refine r_pick_true rfl rfl rfl rfl ?_
                                                  refine r_nil ?_
                                                  refine q_next (fun a ha => ?_)
                                                  cases hb40
                                                  exact ⟨rfl, ha.cut (l := [27, 29, 211]) rfl⟩
                                                · refine r_lit 208 rfl hb43 ?_
                                                  refine r_off rfl (by decide) rfl ?_
                                                  refine r_off rfl (by decide) rfl ?_
                                                  refine r_pick_false rfl rfl rfl rfl ?_
                                                  refine r_nil ?_
                                                  refine q_next (fun a ha => ?_)
                                                  cases hb40
                                                  exact ⟨rfl, ha.cut (l := [27, 29, 211]) rfl⟩
                                            · clear hm
                                              rcases cond_some hb39 with ⟨hb44, hb39⟩ | ⟨hb44, hb39⟩
                                              · refine r_lit 204 rfl hb44 ?_
                                                refine r_move rfl rfl rfl ?_
                                                refine r_bin rfl rfl rfl rfl rfl ?_
                                                refine r_pick_true rfl rfl rfl rfl ?_
                                                refine r_nil ?_
                                                refine q_next (fun a ha => ?_)
                                                cases hb39
                                                exact ⟨rfl, ha.cut (l := [27, 29, 30, 207]) rfl⟩
                                              · refine r_lit 204 rfl hb44 ?_
                                                refine r_off rfl (by decide) rfl ?_
                                                refine r_off rfl (by decide) rfl ?_
                                                refine r_pick_false rfl rfl rfl rfl ?_
                                                refine r_nil ?_
                                                refine q_next (fun a ha => ?_)
                                                cases hb39
                                                exact ⟨rfl, ha.cut (l := [27, 29, 30, 207]) rfl⟩
                                          · clear hm
                                            rcases cond_some hb38 with ⟨hb45, hb38⟩ | ⟨hb45, hb38⟩
                                            · refine r_lit 200 rfl hb45 ?_
                                              refine r_move rfl rfl rfl ?_
                                              refine r_bin rfl rfl rfl rfl rfl ?_
                                              refine r_pick_true rfl rfl rfl rfl ?_
                                              refine r_nil ?_
                                              refine q_next (fun a ha => ?_)
                                              cases hb38
                                              exact ⟨rfl, ha.cut (l := [27, 28, 29, 30, 203]) rfl⟩
                                            · refine r_lit 200 rfl hb45 ?_
                                              refine r_off rfl (by decide) rfl ?_
                                              refine r_off rfl (by decide) rfl ?_
                                              refine r_pick_false rfl rfl rfl rfl ?_
                                              refine r_nil ?_
                                              refine q_next (fun a ha => ?_)
                                              cases hb38
                                              exact ⟨rfl, ha.cut (l := [27, 28, 29, 30, 203]) rfl⟩
                                        · clear hm
                                          rcases cond_some hb37 with ⟨hb46, hb37⟩ | ⟨hb46, hb37⟩
                                          · refine r_lit 196 rfl hb46 ?_
                                            refine r_move rfl rfl rfl ?_
                                            refine r_bin rfl rfl rfl rfl rfl ?_
                                            refine r_pick_true rfl rfl rfl rfl ?_
                                            refine r_nil ?_
                                            refine q_next (fun a ha => ?_)
                                            cases hb37
                                            exact ⟨rfl, ha.cut (l := [26, 27, 28, 29, 30, 199]) rfl⟩
                                          · refine r_lit 196 rfl hb46 ?_
                                            refine r_off rfl (by decide) rfl ?_
                                            refine r_off rfl (by decide) rfl ?_
                                            refine r_pick_false rfl rfl rfl rfl ?_
                                            refine r_nil ?_
                                            refine q_next (fun a ha => ?_)
                                            cases hb37
                                            exact ⟨rfl, ha.cut (l := [26, 27, 28, 29, 30, 199]) rfl⟩
                                      · clear hm
                                        rcases cond_some hb36 with ⟨hb47, hb36⟩ | ⟨hb47, hb36⟩
                                        · refine c_lit 192 rfl hb47 ?_
                                          refine c_true rfl ?_
                                          refine c_region ?_
                                          refine r_loadBA (cs' := [.int .i64 v37.1.Sign, .slice as22 ns22 cs22]) ag24 sz24 rfl rfl hx64 rfl (i := 0) rfl rfl rfl ?_
                                          obtain ⟨v44, hv20, hb36⟩ := bind_some hb36
                                          refine r_callG0 ent13 rfl rfl rfl rfl hx64 (big_Neg_ok _ _ _ hv20 hx64.sat hs22) ?_
                                          rintro _ Fx32 _ wx83 hF32 hx68 ⟨as24, ns24, cs24, rfl, rfl, hs24⟩
                                          refine r_store sz24 rfl hx68 rfl rfl rfl rfl (i := 0) rfl rfl rfl rfl ?_
                                          intro wx84 hx69
                                          refine r_nil ?_
                                          refine q_next (fun a ha => ?_)
                                          cases hb36
                                          exact ⟨_, as24, ns24, cs24, hF32, hx69.pick [0, 1, 2, 3, 4, 5, 6, 7, 8, 9, 10, 11, 12] (by decide) rfl, hs24, ha.cut (l := [7, 24, 26, 27, 28, 29, 30]) rfl⟩
                                        · refine c_lit 192 rfl hb47 ?_
                                          refine c_false rfl ?_
                                          refine c_skip ?_
                                          refine q_next (fun a ha => ?_)
                                          cases hb36
                                          exact ⟨_, as22, ns22, cs22, Frz.refl _, hx64.pick [0, 1, 2, 3, 4, 5, 6, 7, 8, 9, 10, 11, 12] (by decide) rfl, hs22, ha.cut (l := [7, 24, 26, 27, 28, 29, 30]) rfl⟩
                                · clear hm
                                  rcases cond_some hb16 with ⟨hb48, hb16⟩ | ⟨hb48, hb16⟩
                                  · refine r_lit 133 rfl hb48 ?_
                                    refine r_off rfl (by decide) rfl ?_
                                    refine r_off rfl (by decide) rfl ?_
                                    refine r_off rfl (by decide) rfl ?_
                                    refine r_pick_true rfl rfl rfl rfl ?_
                                    refine r_nil ?_
                                    refine q_next (fun a ha => ?_)
                                    cases hb16
                                    exact ⟨rfl, ha.cut (l := [3, 4, 5, 7, 8, 137]) rfl⟩
                                  · refine r_lit 133 rfl hb48 ?_
                                    refine r_fieldAddr fa24_0 rfl rfl rfl ?_
                                    refine r_loadB1 ag3 rfl rfl hx25 rfl (i := 0) rfl rfl ?_
                                    refine r_bin rfl rfl rfl rfl rfl ?_
                                    refine r_pick_false rfl rfl rfl rfl ?_
                                    refine r_nil ?_
                                    refine q_next (fun a ha => ?_)
                                    cases hb16
                                    exact ⟨rfl, ha.cut (l := [3, 4, 5, 7, 8, 137]) rfl⟩
                              · clear hm
                                rcases cond_some hb15 with ⟨hb49, hb15⟩ | ⟨hb49, hb15⟩
                                · refine r_lit 128 rfl hb49 ?_
                                  refine r_off rfl (by decide) rfl ?_
                                  refine r_off rfl (by decide) rfl ?_
                                  refine r_off rfl (by decide) rfl ?_
                                  refine r_pick_true rfl rfl rfl rfl ?_
                                  refine r_nil ?_
                                  refine q_next (fun a ha => ?_)
                                  cases hb15
                                  exact ⟨rfl, ha.cut (l := [3, 4, 5, 7, 8, 16, 132]) rfl⟩
                                · refine r_lit 128 rfl hb49 ?_
                                  refine r_fieldAddr fa24_0 rfl rfl rfl ?_
                                  refine r_loadB1 ag3 rfl rfl hx25 rfl (i := 2) rfl rfl ?_
                                  refine r_bin rfl rfl rfl rfl rfl ?_
                                  refine r_pick_false rfl rfl rfl rfl ?_
                                  refine r_nil ?_
                                  refine q_next (fun a ha => ?_)
                                  cases hb15
                                  exact ⟨rfl, ha.cut (l := [3, 4, 5, 7, 8, 16, 132]) rfl⟩
                            · clear hm
                              rcases cond_some hb14 with ⟨hb50, hb14⟩ | ⟨hb50, hb14⟩
                              · refine r_lit 124 rfl hb50 ?_
                                refine r_off rfl (by decide) rfl ?_
                                refine r_off rfl (by decide) rfl ?_
                                refine r_pick_true rfl rfl rfl rfl ?_
                                refine r_nil ?_
                                refine q_next (fun a ha => ?_)
                                cases hb14
                                exact ⟨rfl, ha.cut (l := [3, 4, 5, 7, 8, 13, 16, 127]) rfl⟩
                              · refine r_lit 124 rfl hb50 ?_
                                refine r_move rfl rfl rfl ?_
                                refine r_bin rfl rfl rfl rfl rfl ?_
                                refine r_pick_false rfl rfl rfl rfl ?_
                                refine r_nil ?_
                                refine q_next (fun a ha => ?_)
                                cases hb14
                                exact ⟨rfl, ha.cut (l := [3, 4, 5, 7, 8, 13, 16, 127]) rfl⟩
                          · refine c_lit 107 rfl hb13 ?_
                            refine c_false rfl ?_
                            refine c_skip ?_
                            refine q_then ?_
                            refine c_seq ?_
                            refine c_seq ?_
                            refine c_region ?_
                            refine r_fieldAddr fa24_0 rfl rfl rfl ?_
                            refine r_loadB1 ag3 rfl rfl hx15 rfl (i := 4) rfl rfl ?_
                            refine r_bin rfl rfl rfl rfl rfl ?_
                            refine r_nil ?_
                            refine q_then ?_
                            rcases cond_some hm with ⟨hb51, hm⟩ | ⟨hb51, hm⟩
                            · refine c_lit 140 rfl hb51 ?_
                              refine c_true rfl ?_
                              refine c_seq ?_
                              refine c_region ?_
                              refine r_loadBA (cs' := [.int .i64 b1.Sign, .slice as2 ns2 cs2]) ag24 sz24 rfl rfl hx15 rfl (i := 3) rfl rfl rfl ?_
                              refine r_loadBA (cs' := [.int .i64 ax1.Sign, .slice as1 ns1 cs1]) ag24 sz24 rfl rfl hx15 rfl (i := 4) rfl rfl rfl ?_
                              obtain ⟨v45, hv21, hm⟩ := bind_some hm
                              refine r_callG0 ent15 rfl rfl rfl rfl hx15 (big_Div_ok _ _ _ _ hv21 hx15.sat ((((((((((hs2.mono hF1).mono hF2).mono hF3).mono hF4).mono hF5).mono hF6).mono hF7).mono hF8).mono hF9).mono hF10) ((((((((((hs1.mono hF1).mono hF2).mono hF3).mono hF4).mono hF5).mono hF6).mono hF7).mono hF8).mono hF9).mono hF10)) ?_
                              rintro _ Fx33 _ wx85 hF33 hx70 ⟨as25, ns25, cs25, as26, ns26, cs26, rfl, rfl, hs25, hs26⟩
                              refine r_move rfl rfl rfl ?_
                              refine r_extract rfl rfl rfl rfl ?_
                              refine r_extract rfl rfl rfl rfl ?_
                              refine r_extract rfl rfl rfl rfl ?_
                              refine r_alloc ze24 rfl rfl rfl hx70 ?_
                              intro b22 wx86 hx71
                              refine r_alloc ze24 rfl rfl rfl hx71 ?_
                              intro b23 wx87 hx72
                              refine r_store sz24 rfl hx72 rfl rfl rfl rfl (i := 1) rfl rfl rfl rfl ?_
                              intro wx88 hx73
                              refine r_store sz24 rfl hx73 rfl rfl rfl rfl (i := 0) rfl rfl rfl rfl ?_
                              intro wx89 hx74
                              refine r_assign rfl rfl rfl ?_
                              refine r_nil ?_
                              refine q_then ?_
                              refine c_seq ?_
                              refine c_region ?_
                              refine r_loadBA (cs' := [.int .i64 ax1.Sign, .slice as1 ns1 cs1]) ag24 sz24 rfl rfl hx74 rfl (i := 6) rfl rfl rfl ?_
                              refine r_loadBA (cs' := [.int .i64 v45.2.1.Sign, .slice as26 ns26 cs26]) ag24 sz24 rfl rfl hx74 rfl (i := 0) rfl rfl rfl ?_
                              obtain ⟨v46, hv22, hm⟩ := bind_some hm
                              refine r_callG0 ent12 rfl rfl rfl rfl hx74 (big_Gcd_ok _ _ _ _ hv22 hx74.sat (((((((((((hs1.mono hF1).mono hF2).mono hF3).mono hF4).mono hF5).mono hF6).mono hF7).mono hF8).mono hF9).mono hF10).mono hF33) hs26) ?_
                              rintro _ Fx34 _ wx90 hF34 hx75 ⟨as27, ns27, cs27, rfl, rfl, hs27⟩
                              refine r_move rfl rfl rfl ?_
                              refine r_extract rfl rfl rfl rfl ?_
                              refine r_extract rfl rfl rfl rfl ?_
                              refine r_alloc ze24 rfl rfl rfl hx75 ?_
                              intro b24 wx91 hx76
                              refine r_store sz24 rfl hx76 rfl rfl rfl rfl (i := 0) rfl rfl rfl rfl ?_
                              intro wx92 hx77
                              refine r_assign rfl rfl rfl ?_
                              refine r_nil ?_
                              refine q_then ?_
                              refine c_seq ?_
                              refine c_region ?_
                              refine r_move rfl rfl rfl ?_
                              refine r_bin rfl rfl rfl rfl rfl ?_
                              refine r_move rfl rfl rfl ?_
                              obtain ⟨v47, hb52, hm⟩ := bind_some hm
                              refine r_mid 3 (fun a w' => wx92 = w' ∧ Has 217 a [(3, .pointer (some ⟨b2, 0, none⟩)), (4, .pointer (some ⟨b3, 0, none⟩)), (5, .pointer (some ⟨b4, 0, none⟩)), (7, .bool v1), (8, .pointer (some ⟨b5, 0, none⟩)), (21, .pointer (some ⟨b24, 0, none⟩)), (159, .bool v47)]) ?_ ?_
                              · rintro a wx93 ⟨rfl, hax28⟩
                                refine rw_apply hax28 ?_
                                refine r_move rfl rfl rfl ?_
                                obtain ⟨v48, hb53, hm⟩ := bind_some hm
                                refine r_mid 5 (fun a w' => ∃ (Fx35 : Frz), Frz.le Fx34 Fx35 ∧ HS F w [] Fx35 [.box b24 24 [.int .i64 v46.1.Sign, .slice as27 ns27 cs27], .box b23 24 [.int .i64 v45.2.1.Sign, .slice as26 ns26 cs26], .box b22 24 [.int .i64 v45.1.Sign, .slice as25 ns25 cs25], .box b6 24 [.int .i64 f1, .slice as5 ns5 cs5], .box b5 24 [.int .i64 v8.1.Sign, .slice as4 ns4 cs4], .box b4 24 [.int .i64 c1.Sign, .slice as3 ns3 cs3], .box b3 24 [.int .i64 b1.Sign, .slice as2 ns2 cs2], .box b2 24 [.int .i64 ax1.Sign, .slice as1 ns1 cs1]] w' ∧ Has 217 a [(3, .pointer (some ⟨b2, 0, none⟩)), (4, .pointer (some ⟨b3, 0, none⟩)), (5, .pointer (some ⟨b4, 0, none⟩)), (7, .bool v1), (8, .pointer (some ⟨b5, 0, none⟩)), (165, .bool v48)]) ?_ ?_
                                · rintro a wx94 ⟨Fx35, hF35, hx78, hax29⟩
                                  refine rw_apply hax29 ?_
                                  refine r_nil ?_
                                  refine q_then ?_
                                  rcases cond_some hm with ⟨hb54, hm⟩ | ⟨hb54, hm⟩
                                  · refine c_lit 165 rfl hb54 ?_
                                    refine c_true rfl ?_
                                    refine c_seq ?_
                                    refine c_region ?_
                                    refine r_assign rfl rfl rfl ?_
                                    refine r_nil ?_
                                    refine q_then ?_
                                    refine c_ret ?_
                                    refine q_then_ret ?_
                                    refine b_ret1 rfl rfl ?_
                                    obtain rfl := Option.some.inj hm
                                    exact ⟨_, _, _, rfl, hx78.pick [] (by decide) rfl, rfl, rfl⟩
                                  · refine c_lit 165 rfl hb54 ?_
                                    refine c_false rfl ?_
                                    refine c_skip ?_
                                    refine q_then ?_
                                    refine c_seq ?_
                                    refine c_region ?_
                                    refine r_loadBA (cs' := [.int .i64 ax1.Sign, .slice as1 ns1 cs1]) ag24 sz24 rfl rfl hx78 rfl (i := 7) rfl rfl rfl ?_
                                    refine r_loadBA (cs' := [.int .i64 c1.Sign, .slice as3 ns3 cs3]) ag24 sz24 rfl rfl hx78 rfl (i := 5) rfl rfl rfl ?_
                                    obtain ⟨v49, hv23, hm⟩ := bind_some hm
                                    refine r_callG0 ent16 rfl rfl rfl rfl hx78 (big_Mul_ok _ _ _ _ hv23 hx78.sat (((((((((((((hs1.mono hF1).mono hF2).mono hF3).mono hF4).mono hF5).mono hF6).mono hF7).mono hF8).mono hF9).mono hF10).mono hF33).mono hF34).mono hF35) (((((((((((((hs3.mono hF1).mono hF2).mono hF3).mono hF4).mono hF5).mono hF6).mono hF7).mono hF8).mono hF9).mono hF10).mono hF33).mono hF34).mono hF35)) ?_
                                    rintro _ Fx36 _ wx95 hF36 hx79 ⟨as28, ns28, cs28, rfl, rfl, hs28⟩
                                    refine r_move rfl rfl rfl ?_
                                    refine r_extract rfl rfl rfl rfl ?_
                                    refine r_extract rfl rfl rfl rfl ?_
                                    refine r_alloc ze24 rfl rfl rfl hx79 ?_
                                    intro b25 wx96 hx80
                                    refine r_store sz24 rfl hx80 rfl rfl rfl rfl (i := 0) rfl rfl rfl rfl ?_
                                    intro wx97 hx81
                                    refine r_assign rfl rfl rfl ?_
                                    refine r_nil ?_
                                    refine q_then ?_
                                    refine c_seq ?_
                                    refine c_region ?_
                                    refine r_loadBA (cs' := [.int .i64 b1.Sign, .slice as2 ns2 cs2]) ag24 sz24 rfl rfl hx81 rfl (i := 7) rfl rfl rfl ?_
                                    refine r_loadBA (cs' := [.int .i64 c1.Sign, .slice as3 ns3 cs3]) ag24 sz24 rfl rfl hx81 rfl (i := 6) rfl rfl rfl ?_
                                    obtain ⟨v50, hv24, hm⟩ := bind_some hm
                                    refine r_callG0 ent16 rfl rfl rfl rfl hx81 (big_Mul_ok _ _ _ _ hv24 hx81.sat ((((((((((((((hs2.mono hF1).mono hF2).mono hF3).mono hF4).mono hF5).mono hF6).mono hF7).mono hF8).mono hF9).mono hF10).mono hF33).mono hF34).mono hF35).mono hF36) ((((((((((((((hs3.mono hF1).mono hF2).mono hF3).mono hF4).mono hF5).mono hF6).mono hF7).mono hF8).mono hF9).mono hF10).mono hF33).mono hF34).mono hF35).mono hF36)) ?_
                                    rintro _ Fx37 _ wx98 hF37 hx82 ⟨as29, ns29, cs29, rfl, rfl, hs29⟩
                                    refine r_move rfl rfl rfl ?_
                                    refine r_extract rfl rfl rfl rfl ?_
                                    refine r_extract rfl rfl rfl rfl ?_
                                    refine r_alloc ze24 rfl rfl rfl hx82 ?_
                                    intro b26 wx99 hx83
                                    refine r_store sz24 rfl hx83 rfl rfl rfl rfl (i := 0) rfl rfl rfl rfl ?_
                                    intro wx100 hx84
                                    refine r_assign rfl rfl rfl ?_
                                    refine r_nil ?_
                                    refine q_then ?_
                                    refine c_seq ?_
                                    refine c_region ?_
                                    refine r_loadBA (cs' := [.int .i64 v49.1.Sign, .slice as28 ns28 cs28]) ag24 sz24 rfl rfl hx84 rfl (i := 1) rfl rfl rfl ?_
                                    refine r_loadBA (cs' := [.int .i64 v50.1.Sign, .slice as29 ns29 cs29]) ag24 sz24 rfl rfl hx84 rfl (i := 0) rfl rfl rfl ?_
                                    obtain ⟨v51, hv25, hm⟩ := bind_some hm
                                    refine r_callG0 ent12 rfl rfl rfl rfl hx84 (big_Gcd_ok _ _ _ _ hv25 hx84.sat (hs28.mono hF37) hs29) ?_
                                    rintro _ Fx38 _ wx101 hF38 hx85 ⟨as30, ns30, cs30, rfl, rfl, hs30⟩
                                    refine r_move rfl rfl rfl ?_
                                    refine r_extract rfl rfl rfl rfl ?_
                                    refine r_extract rfl rfl rfl rfl ?_
                                    refine r_alloc ze24 rfl rfl rfl hx85 ?_
                                    intro b27 wx102 hx86
                                    refine r_store sz24 rfl hx86 rfl rfl rfl rfl (i := 0) rfl rfl rfl rfl ?_
                                    intro wx103 hx87
                                    refine r_assign rfl rfl rfl ?_
                                    refine r_nil ?_
                                    refine q_then ?_
                                    refine c_seq ?_
                                    refine c_region ?_
                                    refine r_loadBA (cs' := [.int .i64 v8.1.Sign, .slice as4 ns4 cs4]) ag24 sz24 rfl rfl hx87 rfl (i := 7) rfl rfl rfl ?_
                                    refine r_loadBA (cs' := [.int .i64 c1.Sign, .slice as3 ns3 cs3]) ag24 sz24 rfl rfl hx87 rfl (i := 8) rfl rfl rfl ?_
                                    obtain ⟨v52, hv26, hm⟩ := bind_some hm
                                    refine r_callG0 ent16 rfl rfl rfl rfl hx87 (big_Mul_ok _ _ _ _ hv26 hx87.sat ((((((((hs4.mono hF9).mono hF10).mono hF33).mono hF34).mono hF35).mono hF36).mono hF37).mono hF38) ((((((((((((((((hs3.mono hF1).mono hF2).mono hF3).mono hF4).mono hF5).mono hF6).mono hF7).mono hF8).mono hF9).mono hF10).mono hF33).mono hF34).mono hF35).mono hF36).mono hF37).mono hF38)) ?_
                                    rintro _ Fx39 _ wx104 hF39 hx88 ⟨as31, ns31, cs31, rfl, rfl, hs31⟩
                                    refine r_move rfl rfl rfl ?_
                                    refine r_extract rfl rfl rfl rfl ?_
                                    refine r_extract rfl rfl rfl rfl ?_
                                    refine r_alloc ze24 rfl rfl rfl hx88 ?_
                                    intro b28 wx105 hx89
                                    refine r_store sz24 rfl hx89 rfl rfl rfl rfl (i := 0) rfl rfl rfl rfl ?_
                                    intro wx106 hx90
                                    refine r_assign rfl rfl rfl ?_
                                    refine r_nil ?_
                                    refine q_then ?_
                                    refine c_seq ?_
                                    refine c_seq ?_
                                    refine c_region ?_
                                    refine r_fieldAddr fa24_0 rfl rfl rfl ?_
                                    refine r_loadB1 ag3 rfl rfl hx90 rfl (i := 9) rfl rfl ?_
                                    refine r_bin rfl rfl rfl rfl rfl ?_
                                    refine r_nil ?_
                                    refine q_then ?_
                                    obtain ⟨⟨f8, f9⟩, hb55, hm⟩ := bind_some hm
                                    refine c_midT (fun a w' => ∃ (Fx40 : Frz) (as32 : Option Addr) (ns32 : Nat) (cs32 : Nat), Frz.le Fx39 Fx40 ∧ HS F w [] Fx40 [.box b28 24 [.int .i64 f8, .slice as32 ns32 cs32], .box b27 24 [.int .i64 v51.1.Sign, .slice as30 ns30 cs30], .box b26 24 [.int .i64 v50.1.Sign, .slice as29 ns29 cs29], .box b25 24 [.int .i64 v49.1.Sign, .slice as28 ns28 cs28], .box b24 24 [.int .i64 v46.1.Sign, .slice as27 ns27 cs27], .box b23 24 [.int .i64 v45.2.1.Sign, .slice as26 ns26 cs26], .box b22 24 [.int .i64 v45.1.Sign, .slice as25 ns25 cs25], .box b6 24 [.int .i64 f1, .slice as5 ns5 cs5], .box b5 24 [.int .i64 v8.1.Sign, .slice as4 ns4 cs4], .box b4 24 [.int .i64 c1.Sign, .slice as3 ns3 cs3], .box b3 24 [.int .i64 b1.Sign, .slice as2 ns2 cs2], .box b2 24 [.int .i64 ax1.Sign, .slice as1 ns1 cs1]] w' ∧ (SlR (Rp.int .i64) Fx40 as32 ns32 cs32 f9) ∧ Has 217 a [(7, .bool v1), (24, .int .i64 v49.2), (26, .int .i64 v50.2), (27, .pointer (some ⟨b27, 0, none⟩)), (28, .int .i64 v51.2), (29, .pointer (some ⟨b28, 0, none⟩)), (30, .int .i64 v52.2)]) ?_ ?_
                                    · rintro a wx107 ⟨Fx40, as32, ns32, cs32, hF40, hx91, hs32, hax30⟩
                                      refine cw_apply hax30 ?_
                                      refine c_seq ?_
                                      refine c_region ?_
                                      refine r_move rfl rfl rfl ?_
                                      refine r_move rfl rfl rfl ?_
                                      obtain ⟨v53, hb56, hm⟩ := bind_some hm
                                      refine r_mid 3 (fun a w' => wx107 = w' ∧ Has 217 a [(26, .int .i64 v50.2), (27, .pointer (some ⟨b27, 0, none⟩)), (28, .int .i64 v51.2), (29, .pointer (some ⟨b28, 0, none⟩)), (30, .int .i64 v52.2), (199, .bool v53)]) ?_ ?_
                                      · rintro a wx108 ⟨rfl, hax31⟩
                                        refine rw_apply hax31 ?_
                                        refine r_move rfl rfl rfl ?_
                                        obtain ⟨v54, hb57, hm⟩ := bind_some hm
                                        refine r_mid 3 (fun a w' => wx107 = w' ∧ Has 217 a [(27, .pointer (some ⟨b27, 0, none⟩)), (28, .int .i64 v51.2), (29, .pointer (some ⟨b28, 0, none⟩)), (30, .int .i64 v52.2), (203, .bool v54)]) ?_ ?_
                                        · rintro a wx109 ⟨rfl, hax32⟩
                                          refine rw_apply hax32 ?_
                                          refine r_move rfl rfl rfl ?_
                                          obtain ⟨v55, hb58, hm⟩ := bind_some hm
                                          refine r_mid 3 (fun a w' => wx107 = w' ∧ Has 217 a [(27, .pointer (some ⟨b27, 0, none⟩)), (29, .pointer (some ⟨b28, 0, none⟩)), (30, .int .i64 v52.2), (207, .bool v55)]) ?_ ?_
                                          · rintro a wx110 ⟨rfl, hax33⟩
                                            refine rw_apply hax33 ?_
                                            refine r_move rfl rfl rfl ?_
                                            obtain ⟨v56, hb59, hm⟩ := bind_some hm
                                            refine r_mid 3 (fun a w' => wx107 = w' ∧ Has 217 a [(27, .pointer (some ⟨b27, 0, none⟩)), (29, .pointer (some ⟨b28, 0, none⟩)), (211, .bool v56)]) ?_ ?_
                                            · rintro a wx111 ⟨rfl, hax34⟩
                                              refine rw_apply hax34 ?_
                                              refine r_move rfl rfl rfl ?_
                                              obtain ⟨v57, hb60, hm⟩ := bind_some hm
                                              refine r_mid 4 (fun a w' => ∃ (Fx41 : Frz), Frz.le Fx40 Fx41 ∧ HS F w [] Fx41 [.box b28 24 [.int .i64 f8, .slice as32 ns32 cs32], .box b27 24 [.int .i64 v51.1.Sign, .slice as30 ns30 cs30], .box b26 24 [.int .i64 v50.1.Sign, .slice as29 ns29 cs29], .box b25 24 [.int .i64 v49.1.Sign, .slice as28 ns28 cs28], .box b24 24 [.int .i64 v46.1.Sign, .slice as27 ns27 cs27], .box b23 24 [.int .i64 v45.2.1.Sign, .slice as26 ns26 cs26], .box b22 24 [.int .i64 v45.1.Sign, .slice as25 ns25 cs25], .box b6 24 [.int .i64 f1, .slice as5 ns5 cs5], .box b5 24 [.int .i64 v8.1.Sign, .slice as4 ns4 cs4], .box b4 24 [.int .i64 c1.Sign, .slice as3 ns3 cs3], .box b3 24 [.int .i64 b1.Sign, .slice as2 ns2 cs2], .box b2 24 [.int .i64 ax1.Sign, .slice as1 ns1 cs1]] w' ∧ Has 217 a [(216, .bool v57)]) ?_ ?_
                                              · rintro a wx112 ⟨Fx41, hF41, hx92, hax35⟩
                                                refine rw_apply hax35 ?_
                                                refine r_assign rfl rfl rfl ?_
                                                refine r_nil ?_
                                                refine q_then ?_
                                                refine c_ret ?_
                                                refine b_ret1 rfl rfl ?_
                                                obtain rfl := Option.some.inj hm
                                                exact ⟨_, _, _, rfl, hx92.pick [] (by decide) rfl, rfl, rfl⟩
                                              · clear hm
                                                rcases cond_some hb60 with ⟨hb61, hb60⟩ | ⟨hb61, hb60⟩
                                                · refine r_lit 212 rfl hb61 ?_
                                                  refine r_loadBA (cs' := [.int .i64 v51.1.Sign, .slice as30 ns30 cs30]) ag24 sz24 rfl rfl hx91 rfl (i := 1) rfl rfl rfl ?_
                                                  refine r_loadBA (cs' := [.int .i64 f8, .slice as32 ns32 cs32]) ag24 sz24 rfl rfl hx91 rfl (i := 0) rfl rfl rfl ?_
                                                  obtain ⟨v58, hv27, hb60⟩ := bind_some hb60
                                                  refine r_callG0 ent14 rfl rfl rfl rfl hx91 (big_Same_ok _ _ _ _ hv27 hx91.sat ((hs30.mono hF39).mono hF40) hs32) ?_
                                                  rintro _ Fx42 _ wx113 hF42 hx93 ⟨rfl, rfl⟩
                                                  refine r_pick_true rfl rfl rfl rfl ?_
                                                  refine r_nil ?_
                                                  refine q_next (fun a ha => ?_)
                                                  cases hb60
                                                  exact ⟨_, hF42, hx93.pick [0, 1, 2, 3, 4, 5, 6, 7, 8, 9, 10, 11] (by decide) rfl, ha.cut (l := [216]) rfl⟩
                                                · refine r_lit 212 rfl hb61 ?_
                                                  refine r_off rfl (by decide) rfl ?_
                                                  refine r_off rfl (by decide) rfl ?_
                                                  refine r_off rfl (by decide) rfl ?_
                                                  refine r_pick_false rfl rfl rfl rfl ?_
                                                  refine r_nil ?_
                                                  refine q_next (fun a ha => ?_)
                                                  cases hb60
                                                  exact ⟨_, Frz.refl _, hx91.pick [0, 1, 2, 3, 4, 5, 6, 7, 8, 9, 10, 11] (by decide) rfl, ha.cut (l := [216]) rfl⟩
                                            · clear hm
                                              rcases cond_some hb59 with ⟨hb62, hb59⟩ | ⟨hb62, hb59⟩
                                              · refine r_lit 208 rfl hb62 ?_
                                                refine r_move rfl rfl rfl ?_
                                                refine r_bin rfl rfl rfl rfl rfl ?_
                                                refine r_pick_true rfl rfl rfl rfl ?_
                                                refine r_nil ?_
                                                refine q_next (fun a ha => ?_)
                                                cases hb59
                                                exact ⟨rfl, ha.cut (l := [27, 29, 211]) rfl⟩
                                              · refine r_lit 208 rfl hb62 ?_
                                                refine r_off rfl (by decide) rfl ?_
                                                refine r_off rfl (by decide) rfl ?_
                                                refine r_pick_false rfl rfl rfl rfl ?_
                                                refine r_nil ?_
                                                refine q_next (fun a ha => ?_)
                                                cases hb59
                                                exact ⟨rfl, ha.cut (l := [27, 29, 211]) rfl⟩
                                          · clear hm
                                            rcases cond_some hb58 with ⟨hb63, hb58⟩ | ⟨hb63, hb58⟩
                                            · refine r_lit 204 rfl hb63 ?_
                                              refine r_move rfl rfl rfl ?_
                                              refine r_bin rfl rfl rfl rfl rfl ?_
                                              refine r_pick_true rfl rfl rfl rfl ?_
                                              refine r_nil ?_
                                              refine q_next (fun a ha => ?_)
                                              cases hb58
                                              exact ⟨rfl, ha.cut (l := [27, 29, 30, 207]) rfl⟩
                                            · refine r_lit 204 rfl hb63 ?_
                                              refine r_off rfl (by decide) rfl ?_
                                              refine r_off rfl (by decide) rfl ?_
                                              refine r_pick_false rfl rfl rfl rfl ?_
                                              refine r_nil ?_
                                              refine q_next (fun a ha => ?_)
                                              cases hb58
                                              exact ⟨rfl, ha.cut (l := [27, 29, 30, 207]) rfl⟩
                                        · clear hm
                                          rcases cond_some hb57 with ⟨hb64, hb57⟩ | ⟨hb64, hb57⟩
                                          · refine r_lit 200 rfl hb64 ?_
                                            refine r_move rfl rfl rfl ?_
                                            refine r_bin rfl rfl rfl rfl rfl ?_
                                            refine r_pick_true rfl rfl rfl rfl ?_
                                            refine r_nil ?_
                                            refine q_next (fun a ha => ?_)
                                            cases hb57
                                            exact ⟨rfl, ha.cut (l := [27, 28, 29, 30, 203]) rfl⟩
                                          · refine r_lit 200 rfl hb64 ?_
                                            refine r_off rfl (by decide) rfl ?_
                                            refine r_off rfl (by decide) rfl ?_
                                            refine r_pick_false rfl rfl rfl rfl ?_
                                            refine r_nil ?_
                                            refine q_next (fun a ha => ?_)
                                            cases hb57
                                            exact ⟨rfl, ha.cut (l := [27, 28, 29, 30, 203]) rfl⟩
                                      · clear hm
                                        rcases cond_some hb56 with ⟨hb65, hb56⟩ | ⟨hb65, hb56⟩
                                        · refine r_lit 196 rfl hb65 ?_
                                          refine r_move rfl rfl rfl ?_
                                          refine r_bin rfl rfl rfl rfl rfl ?_
                                          refine r_pick_true rfl rfl rfl rfl ?_
                                          refine r_nil ?_
                                          refine q_next (fun a ha => ?_)
                                          cases hb56
                                          exact ⟨rfl, ha.cut (l := [26, 27, 28, 29, 30, 199]) rfl⟩
                                        · refine r_lit 196 rfl hb65 ?_
                                          refine r_off rfl (by decide) rfl ?_
                                          refine r_off rfl (by decide) rfl ?_
                                          refine r_pick_false rfl rfl rfl rfl ?_
                                          refine r_nil ?_
                                          refine q_next (fun a ha => ?_)
                                          cases hb56
                                          exact ⟨rfl, ha.cut (l := [26, 27, 28, 29, 30, 199]) rfl⟩
                                    · clear hm
                                      rcases cond_some hb55 with ⟨hb66, hb55⟩ | ⟨hb66, hb55⟩
                                      · refine c_lit 192 rfl hb66 ?_
                                        refine c_true rfl ?_
                                        refine c_region ?_
                                        refine r_loadBA (cs' := [.int .i64 v52.1.Sign, .slice as31 ns31 cs31]) ag24 sz24 rfl rfl hx90 rfl (i := 0) rfl rfl rfl ?_
                                        obtain ⟨v59, hv28, hb55⟩ := bind_some hb55
                                        refine r_callG0 ent13 rfl rfl rfl rfl hx90 (big_Neg_ok _ _ _ hv28 hx90.sat hs31) ?_
                                        rintro _ Fx43 _ wx114 hF43 hx94 ⟨as33, ns33, cs33, rfl, rfl, hs33⟩
                                        refine r_store sz24 rfl hx94 rfl rfl rfl rfl (i := 0) rfl rfl rfl rfl ?_
                                        intro wx115 hx95
                                        refine r_nil ?_
                                        refine q_next (fun a ha => ?_)
                                        cases hb55
                                        exact ⟨_, as33, ns33, cs33, hF43, hx95.pick [0, 1, 2, 3, 4, 5, 6, 7, 8, 9, 10, 11] (by decide) rfl, hs33, ha.cut (l := [7, 24, 26, 27, 28, 29, 30]) rfl⟩
                                      · refine c_lit 192 rfl hb66 ?_
                                        refine c_false rfl ?_
                                        refine c_skip ?_
                                        refine q_next (fun a ha => ?_)
                                        cases hb55
                                        exact ⟨_, as31, ns31, cs31, Frz.refl _, hx90.pick [0, 1, 2, 3, 4, 5, 6, 7, 8, 9, 10, 11] (by decide) rfl, hs31, ha.cut (l := [7, 24, 26, 27, 28, 29, 30]) rfl⟩
                                · clear hm
                                  rcases cond_some hb53 with ⟨hb67, hb53⟩ | ⟨hb67, hb53⟩
                                  · refine r_lit 160 rfl hb67 ?_
                                    refine r_off rfl (by decide) rfl ?_
                                    refine r_off rfl (by decide) rfl ?_
                                    refine r_off rfl (by decide) rfl ?_
                                    refine r_off rfl (by decide) rfl ?_
                                    refine r_pick_true rfl rfl rfl rfl ?_
                                    refine r_nil ?_
                                    refine q_next (fun a ha => ?_)
                                    cases hb53
                                    exact ⟨_, Frz.refl _, hx77.pick [0, 1, 2, 3, 4, 5, 6, 7] (by decide) rfl, ha.cut (l := [3, 4, 5, 7, 8, 165]) rfl⟩
                                  · refine r_lit 160 rfl hb67 ?_
                                    refine r_loadBA (cs' := [.int .i64 v46.1.Sign, .slice as27 ns27 cs27]) ag24 sz24 rfl rfl hx77 rfl (i := 0) rfl rfl rfl ?_
                                    refine r_loadBA (cs' := [.int .i64 v8.1.Sign, .slice as4 ns4 cs4]) ag24 sz24 rfl rfl hx77 rfl (i := 4) rfl rfl rfl ?_
                                    obtain ⟨v60, hv29, hb53⟩ := bind_some hb53
                                    refine r_callG0 ent14 rfl rfl rfl rfl hx77 (big_Same_ok _ _ _ _ hv29 hx77.sat hs27 ((((hs4.mono hF9).mono hF10).mono hF33).mono hF34)) ?_
                                    rintro _ Fx44 _ wx116 hF44 hx96 ⟨rfl, rfl⟩
                                    refine r_not rfl rfl rfl ?_
                                    refine r_pick_false rfl rfl rfl rfl ?_
                                    refine r_nil ?_
                                    refine q_next (fun a ha => ?_)
                                    cases hb53
                                    exact ⟨_, hF44, hx96.pick [0, 1, 2, 3, 4, 5, 6, 7] (by decide) rfl, ha.cut (l := [3, 4, 5, 7, 8, 165]) rfl⟩
                              · clear hm
                                rcases cond_some hb52 with ⟨hb68, hb52⟩ | ⟨hb68, hb52⟩
                                · refine r_lit 156 rfl hb68 ?_
                                  refine r_off rfl (by decide) rfl ?_
                                  refine r_off rfl (by decide) rfl ?_
                                  refine r_pick_true rfl rfl rfl rfl ?_
                                  refine r_nil ?_
                                  refine q_next (fun a ha => ?_)
                                  cases hb52
                                  exact ⟨rfl, ha.cut (l := [3, 4, 5, 7, 8, 21, 159]) rfl⟩
                                · refine r_lit 156 rfl hb68 ?_
                                  refine r_move rfl rfl rfl ?_
                                  refine r_bin rfl rfl rfl rfl rfl ?_
                                  refine r_pick_false rfl rfl rfl rfl ?_
                                  refine r_nil ?_
                                  refine q_next (fun a ha => ?_)
                                  cases hb52
                                  exact ⟨rfl, ha.cut (l := [3, 4, 5, 7, 8, 21, 159]) rfl⟩
                            · refine c_lit 140 rfl hb51 ?_
                              refine c_false rfl ?_
                              refine c_skip ?_
                              refine q_then ?_
                              refine c_seq ?_
                              refine c_region ?_
                              refine r_loadBA (cs' := [.int .i64 ax1.Sign, .slice as1 ns1 cs1]) ag24 sz24 rfl rfl hx15 rfl (i := 4) rfl rfl rfl ?_
                              refine r_loadBA (cs' := [.int .i64 c1.Sign, .slice as3 ns3 cs3]) ag24 sz24 rfl rfl hx15 rfl (i := 2) rfl rfl rfl ?_
                              obtain ⟨v61, hv30, hm⟩ := bind_some hm
                              refine r_callG0 ent16 rfl rfl rfl rfl hx15 (big_Mul_ok _ _ _ _ hv30 hx15.sat ((((((((((hs1.mono hF1).mono hF2).mono hF3).mono hF4).mono hF5).mono hF6).mono hF7).mono hF8).mono hF9).mono hF10) ((((((((((hs3.mono hF1).mono hF2).mono hF3).mono hF4).mono hF5).mono hF6).mono hF7).mono hF8).mono hF9).mono hF10)) ?_
                              rintro _ Fx45 _ wx117 hF45 hx97 ⟨as34, ns34, cs34, rfl, rfl, hs34⟩
                              refine r_move rfl rfl rfl ?_
                              refine r_extract rfl rfl rfl rfl ?_
                              refine r_extract rfl rfl rfl rfl ?_
                              refine r_alloc ze24 rfl rfl rfl hx97 ?_
                              intro b29 wx118 hx98
                              refine r_store sz24 rfl hx98 rfl rfl rfl rfl (i := 0) rfl rfl rfl rfl ?_
                              intro wx119 hx99
                              refine r_assign rfl rfl rfl ?_
                              refine r_nil ?_
                              refine q_then ?_
                              refine c_seq ?_
                              refine c_region ?_
                              refine r_loadBA (cs' := [.int .i64 b1.Sign, .slice as2 ns2 cs2]) ag24 sz24 rfl rfl hx99 rfl (i := 4) rfl rfl rfl ?_
                              refine r_loadBA (cs' := [.int .i64 c1.Sign, .slice as3 ns3 cs3]) ag24 sz24 rfl rfl hx99 rfl (i := 3) rfl rfl rfl ?_
                              obtain ⟨v62, hv31, hm⟩ := bind_some hm
                              refine r_callG0 ent16 rfl rfl rfl rfl hx99 (big_Mul_ok _ _ _ _ hv31 hx99.sat (((((((((((hs2.mono hF1).mono hF2).mono hF3).mono hF4).mono hF5).mono hF6).mono hF7).mono hF8).mono hF9).mono hF10).mono hF45) (((((((((((hs3.mono hF1).mono hF2).mono hF3).mono hF4).mono hF5).mono hF6).mono hF7).mono hF8).mono hF9).mono hF10).mono hF45)) ?_
                              rintro _ Fx46 _ wx120 hF46 hx100 ⟨as35, ns35, cs35, rfl, rfl, hs35⟩
                              refine r_move rfl rfl rfl ?_
                              refine r_extract rfl rfl rfl rfl ?_
                              refine r_extract rfl rfl rfl rfl ?_
                              refine r_alloc ze24 rfl rfl rfl hx100 ?_
                              intro b30 wx121 hx101
                              refine r_store sz24 rfl hx101 rfl rfl rfl rfl (i := 0) rfl rfl rfl rfl ?_
                              intro wx122 hx102
                              refine r_assign rfl rfl rfl ?_
                              refine r_nil ?_
                              refine q_then ?_
                              refine c_seq ?_
                              refine c_region ?_
                              refine r_loadBA (cs' := [.int .i64 v61.1.Sign, .slice as34 ns34 cs34]) ag24 sz24 rfl rfl hx102 rfl (i := 1) rfl rfl rfl ?_
                              refine r_loadBA (cs' := [.int .i64 v62.1.Sign, .slice as35 ns35 cs35]) ag24 sz24 rfl rfl hx102 rfl (i := 0) rfl rfl rfl ?_
                              obtain ⟨v63, hv32, hm⟩ := bind_some hm
                              refine r_callG0 ent12 rfl rfl rfl rfl hx102 (big_Gcd_ok _ _ _ _ hv32 hx102.sat (hs34.mono hF46) hs35) ?_
                              rintro _ Fx47 _ wx123 hF47 hx103 ⟨as36, ns36, cs36, rfl, rfl, hs36⟩
                              refine r_move rfl rfl rfl ?_
                              refine r_extract rfl rfl rfl rfl ?_
                              refine r_extract rfl rfl rfl rfl ?_
                              refine r_alloc ze24 rfl rfl rfl hx103 ?_
                              intro b31 wx124 hx104
                              refine r_store sz24 rfl hx104 rfl rfl rfl rfl (i := 0) rfl rfl rfl rfl ?_
                              intro wx125 hx105
                              refine r_assign rfl rfl rfl ?_
                              refine r_nil ?_
                              refine q_then ?_
                              refine c_seq ?_
                              refine c_region ?_
                              refine r_loadBA (cs' := [.int .i64 v8.1.Sign, .slice as4 ns4 cs4]) ag24 sz24 rfl rfl hx105 rfl (i := 4) rfl rfl rfl ?_
                              refine r_loadBA (cs' := [.int .i64 c1.Sign, .slice as3 ns3 cs3]) ag24 sz24 rfl rfl hx105 rfl (i := 5) rfl rfl rfl ?_
                              obtain ⟨v64, hv33, hm⟩ := bind_some hm
                              refine r_callG0 ent16 rfl rfl rfl rfl hx105 (big_Mul_ok _ _ _ _ hv33 hx105.sat (((((hs4.mono hF9).mono hF10).mono hF45).mono hF46).mono hF47) (((((((((((((hs3.mono hF1).mono hF2).mono hF3).mono hF4).mono hF5).mono hF6).mono hF7).mono hF8).mono hF9).mono hF10).mono hF45).mono hF46).mono hF47)) ?_
                              rintro _ Fx48 _ wx126 hF48 hx106 ⟨as37, ns37, cs37, rfl, rfl, hs37⟩
                              refine r_move rfl rfl rfl ?_
                              refine r_extract rfl rfl rfl rfl ?_
                              refine r_extract rfl rfl rfl rfl ?_
                              refine r_alloc ze24 rfl rfl rfl hx106 ?_
                              intro b32 wx127 hx107
                              refine r_store sz24 rfl hx107 rfl rfl rfl rfl (i := 0) rfl rfl rfl rfl ?_
                              intro wx128 hx108
                              refine r_assign rfl rfl rfl ?_
                              refine r_nil ?_
                              refine q_then ?_
                              refine c_seq ?_
                              refine c_seq ?_
                              refine c_region ?_
                              refine r_fieldAddr fa24_0 rfl rfl rfl ?_
                              refine r_loadB1 ag3 rfl rfl hx108 rfl (i := 6) rfl rfl ?_
                              refine r_bin rfl rfl rfl rfl rfl ?_
                              refine r_nil ?_
                              refine q_then ?_
                              obtain ⟨⟨f10, f11⟩, hb69, hm⟩ := bind_some hm
                              refine c_midT (fun a w' => ∃ (Fx49 : Frz) (as38 : Option Addr) (ns38 : Nat) (cs38 : Nat), Frz.le Fx48 Fx49 ∧ HS F w [] Fx49 [.box b32 24 [.int .i64 f10, .slice as38 ns38 cs38], .box b31 24 [.int .i64 v63.1.Sign, .slice as36 ns36 cs36], .box b30 24 [.int .i64 v62.1.Sign, .slice as35 ns35 cs35], .box b29 24 [.int .i64 v61.1.Sign, .slice as34 ns34 cs34], .box b6 24 [.int .i64 f1, .slice as5 ns5 cs5], .box b5 24 [.int .i64 v8.1.Sign, .slice as4 ns4 cs4], .box b4 24 [.int .i64 c1.Sign, .slice as3 ns3 cs3], .box b3 24 [.int .i64 b1.Sign, .slice as2 ns2 cs2], .box b2 24 [.int .i64 ax1.Sign, .slice as1 ns1 cs1]] w' ∧ (SlR (Rp.int .i64) Fx49 as38 ns38 cs38 f11) ∧ Has 217 a [(7, .bool v1), (24, .int .i64 v61.2), (26, .int .i64 v62.2), (27, .pointer (some ⟨b31, 0, none⟩)), (28, .int .i64 v63.2), (29, .pointer (some ⟨b32, 0, none⟩)), (30, .int .i64 v64.2)]) ?_ ?_
                              · rintro a wx129 ⟨Fx49, as38, ns38, cs38, hF49, hx109, hs38, hax36⟩
                                refine cw_apply hax36 ?_
                                refine c_seq ?_
                                refine c_region ?_
                                refine r_move rfl rfl rfl ?_
                                refine r_move rfl rfl rfl ?_
                                obtain ⟨v65, hb70, hm⟩ := bind_some hm
                                refine r_mid 3 (fun a w' => wx129 = w' ∧ Has 217 a [(26, .int .i64 v62.2), (27, .pointer (some ⟨b31, 0, none⟩)), (28, .int .i64 v63.2), (29, .pointer (some ⟨b32, 0, none⟩)), (30, .int .i64 v64.2), (199, .bool v65)]) ?_ ?_
                                · rintro a wx130 ⟨rfl, hax37⟩
                                  refine rw_apply hax37 ?_
                                  refine r_move rfl rfl rfl ?_
                                  obtain ⟨v66, hb71, hm⟩ := bind_some hm
                                  refine r_mid 3 (fun a w' => wx129 = w' ∧ Has 217 a [(27, .pointer (some ⟨b31, 0, none⟩)), (28, .int .i64 v63.2), (29, .pointer (some ⟨b32, 0, none⟩)), (30, .int .i64 v64.2), (203, .bool v66)]) ?_ ?_
                                  · rintro a wx131 ⟨rfl, hax38⟩
                                    refine rw_apply hax38 ?_
                                    refine r_move rfl rfl rfl ?_
                                    obtain ⟨v67, hb72, hm⟩ := bind_some hm
                                    refine r_mid 3 (fun a w' => wx129 = w' ∧ Has 217 a [(27, .pointer (some ⟨b31, 0, none⟩)), (29, .pointer (some ⟨b32, 0, none⟩)), (30, .int .i64 v64.2), (207, .bool v67)]) ?_ ?_
                                    · rintro a wx132 ⟨rfl, hax39⟩
                                      refine rw_apply hax39 ?_
                                      refine r_move rfl rfl rfl ?_
                                      obtain ⟨v68, hb73, hm⟩ := bind_some hm
                                      refine r_mid 3 (fun a w' => wx129 = w' ∧ Has 217 a [(27, .pointer (some ⟨b31, 0, none⟩)), (29, .pointer (some ⟨b32, 0, none⟩)), (211, .bool v68)]) ?_ ?_
                                      · rintro a wx133 ⟨rfl, hax40⟩
                                        refine rw_apply hax40 ?_
                                        refine r_move rfl rfl rfl ?_
                                        obtain ⟨v69, hb74, hm⟩ := bind_some hm
                                        refine r_mid 4 (fun a w' => ∃ (Fx50 : Frz), Frz.le Fx49 Fx50 ∧ HS F w [] Fx50 [.box b32 24 [.int .i64 f10, .slice as38 ns38 cs38], .box b31 24 [.int .i64 v63.1.Sign, .slice as36 ns36 cs36], .box b30 24 [.int .i64 v62.1.Sign, .slice as35 ns35 cs35], .box b29 24 [.int .i64 v61.1.Sign, .slice as34 ns34 cs34], .box b6 24 [.int .i64 f1, .slice as5 ns5 cs5], .box b5 24 [.int .i64 v8.1.Sign, .slice as4 ns4 cs4], .box b4 24 [.int .i64 c1.Sign, .slice as3 ns3 cs3], .box b3 24 [.int .i64 b1.Sign, .slice as2 ns2 cs2], .box b2 24 [.int .i64 ax1.Sign, .slice as1 ns1 cs1]] w' ∧ Has 217 a [(216, .bool v69)]) ?_ ?_
                                        · rintro a wx134 ⟨Fx50, hF50, hx110, hax41⟩
                                          refine rw_apply hax41 ?_
                                          refine r_assign rfl rfl rfl ?_
                                          refine r_nil ?_
                                          refine q_then ?_
                                          refine c_ret ?_
                                          refine b_ret1 rfl rfl ?_
                                          obtain rfl := Option.some.inj hm
                                          exact ⟨_, _, _, rfl, hx110.pick [] (by decide) rfl, rfl, rfl⟩
                                        · clear hm
                                          rcases cond_some hb74 with ⟨hb75, hb74⟩ | ⟨hb75, hb74⟩
                                          · refine r_lit 212 rfl hb75 ?_
                                            refine r_loadBA (cs' := [.int .i64 v63.1.Sign, .slice as36 ns36 cs36]) ag24 sz24 rfl rfl hx109 rfl (i := 1) rfl rfl rfl ?_
                                            refine r_loadBA (cs' := [.int .i64 f10, .slice as38 ns38 cs38]) ag24 sz24 rfl rfl hx109 rfl (i := 0) rfl rfl rfl ?_
                                            obtain ⟨v70, hv34, hb74⟩ := bind_some hb74
                                            refine r_callG0 ent14 rfl rfl rfl rfl hx109 (big_Same_ok _ _ _ _ hv34 hx109.sat ((hs36.mono hF48).mono hF49) hs38) ?_
                                            rintro _ Fx51 _ wx135 hF51 hx111 ⟨rfl, rfl⟩
                                            refine r_pick_true rfl rfl rfl rfl ?_
                                            refine r_nil ?_
                                            refine q_next (fun a ha => ?_)
                                            cases hb74
                                            exact ⟨_, hF51, hx111.pick [0, 1, 2, 3, 4, 5, 6, 7, 8] (by decide) rfl, ha.cut (l := [216]) rfl⟩
                                          · refine r_lit 212 rfl hb75 ?_
                                            refine r_off rfl (by decide) rfl ?_
                                            refine r_off rfl (by decide) rfl ?_
                                            refine r_off rfl (by decide) rfl ?_
                                            refine r_pick_false rfl rfl rfl rfl ?_
                                            refine r_nil ?_
                                            refine q_next (fun a ha => ?_)
                                            cases hb74
                                            exact ⟨_, Frz.refl _, hx109.pick [0, 1, 2, 3, 4, 5, 6, 7, 8] (by decide) rfl, ha.cut (l := [216]) rfl⟩
                                      · clear hm
                                        rcases cond_some hb73 with ⟨hb76, hb73⟩ | ⟨hb76, hb73⟩
                                        · refine r_lit 208 rfl hb76 ?_
                                          refine r_move rfl rfl rfl ?_
                                          refine r_bin rfl rfl rfl rfl rfl ?_
                                          refine r_pick_true rfl rfl rfl rfl ?_
                                          refine r_nil ?_
                                          refine q_next (fun a ha => ?_)
                                          cases hb73
                                          exact ⟨rfl, ha.cut (l := [27, 29, 211]) rfl⟩
                                        · refine r_lit 208 rfl hb76 ?_
                                          refine r_off rfl (by decide) rfl ?_
                                          refine r_off rfl (by decide) rfl ?_
                                          refine r_pick_false rfl rfl rfl rfl ?_
                                          refine r_nil ?_
                                          refine q_next (fun a ha => ?_)
                                          cases hb73
                                          exact ⟨rfl, ha.cut (l := [27, 29, 211]) rfl⟩
                                    · clear hm
                                      rcases cond_some hb72 with ⟨hb77, hb72⟩ | ⟨hb77, hb72⟩
                                      · refine r_lit 204 rfl hb77 ?_
                                        refine r_move rfl rfl rfl ?_
                                        refine r_bin rfl rfl rfl rfl rfl ?_
                                        refine r_pick_true rfl rfl rfl rfl ?_
                                        refine r_nil ?_
                                        refine q_next (fun a ha => ?_)
                                        cases hb72
                                        exact ⟨rfl, ha.cut (l := [27, 29, 30, 207]) rfl⟩
                                      · refine r_lit 204 rfl hb77 ?_
                                        refine r_off rfl (by decide) rfl ?_
                                        refine r_off rfl (by decide) rfl ?_
                                        refine r_pick_false rfl rfl rfl rfl ?_
                                        refine r_nil ?_
                                        refine q_next (fun a ha => ?_)
                                        cases hb72
                                        exact ⟨rfl, ha.cut (l := [27, 29, 30, 207]) rfl⟩
                                  · clear hm
                                    rcases cond_some hb71 with ⟨hb78, hb71⟩ | ⟨hb78, hb71⟩
                                    · refine r_lit 200 rfl hb78 ?_
                                      refine r_move rfl rfl rfl ?_
                                      refine r_bin rfl rfl rfl rfl rfl ?_
                                      refine r_pick_true rfl rfl rfl rfl ?_
                                      refine r_nil ?_
                                      refine q_next (fun a ha => ?_)
                                      cases hb71
                                      exact ⟨rfl, ha.cut (l := [27, 28, 29, 30, 203]) rfl⟩
                                    · refine r_lit 200 rfl hb78 ?_
                                      refine r_off rfl (by decide) rfl ?_
                                      refine r_off rfl (by decide) rfl ?_
                                      refine r_pick_false rfl rfl rfl rfl ?_
                                      refine r_nil ?_
                                      refine q_next (fun a ha => ?_)
                                      cases hb71
                                      exact ⟨rfl, ha.cut (l := [27, 28, 29, 30, 203]) rfl⟩
                                · clear hm
                                  rcases cond_some hb70 with ⟨hb79, hb70⟩ | ⟨hb79, hb70⟩
                                  · refine r_lit 196 rfl hb79 ?_
                                    refine r_move rfl rfl rfl ?_
                                    refine r_bin rfl rfl rfl rfl rfl ?_
                                    refine r_pick_true rfl rfl rfl rfl ?_
                                    refine r_nil ?_
                                    refine q_next (fun a ha => ?_)
                                    cases hb70
                                    exact ⟨rfl, ha.cut (l := [26, 27, 28, 29, 30, 199]) rfl⟩
                                  · refine r_lit 196 rfl hb79 ?_
                                    refine r_off rfl (by decide) rfl ?_
                                    refine r_off rfl (by decide) rfl ?_
                                    refine r_pick_false rfl rfl rfl rfl ?_
                                    refine r_nil ?_
                                    refine q_next (fun a ha => ?_)
                                    cases hb70
                                    exact ⟨rfl, ha.cut (l := [26, 27, 28, 29, 30, 199]) rfl⟩
                              · clear hm
                                rcases cond_some hb69 with ⟨hb80, hb69⟩ | ⟨hb80, hb69⟩
                                · refine c_lit 192 rfl hb80 ?_
                                  refine c_true rfl ?_
                                  refine c_region ?_
                                  refine r_loadBA (cs' := [.int .i64 v64.1.Sign, .slice as37 ns37 cs37]) ag24 sz24 rfl rfl hx108 rfl (i := 0) rfl rfl rfl ?_
                                  obtain ⟨v71, hv35, hb69⟩ := bind_some hb69
                                  refine r_callG0 ent13 rfl rfl rfl rfl hx108 (big_Neg_ok _ _ _ hv35 hx108.sat hs37) ?_
                                  rintro _ Fx52 _ wx136 hF52 hx112 ⟨as39, ns39, cs39, rfl, rfl, hs39⟩
                                  refine r_store sz24 rfl hx112 rfl rfl rfl rfl (i := 0) rfl rfl rfl rfl ?_
                                  intro wx137 hx113
                                  refine r_nil ?_
                                  refine q_next (fun a ha => ?_)
                                  cases hb69
                                  exact ⟨_, as39, ns39, cs39, hF52, hx113.pick [0, 1, 2, 3, 4, 5, 6, 7, 8] (by decide) rfl, hs39, ha.cut (l := [7, 24, 26, 27, 28, 29, 30]) rfl⟩
                                · refine c_lit 192 rfl hb80 ?_
                                  refine c_false rfl ?_
                                  refine c_skip ?_
                                  refine q_next (fun a ha => ?_)
                                  cases hb69
                                  exact ⟨_, as37, ns37, cs37, Frz.refl _, hx108.pick [0, 1, 2, 3, 4, 5, 6, 7, 8] (by decide) rfl, hs37, ha.cut (l := [7, 24, 26, 27, 28, 29, 30]) rfl⟩
                      · clear hm
                        rcases cond_some hb11 with ⟨hb81, hb11⟩ | ⟨hb81, hb11⟩
                        · refine r_lit 91 rfl hb81 ?_
                          refine r_off rfl (by decide) rfl ?_
                          refine r_off rfl (by decide) rfl ?_
                          refine r_off rfl (by decide) rfl ?_
                          refine r_off rfl (by decide) rfl ?_
                          refine r_off rfl (by decide) rfl ?_
                          refine r_off rfl (by decide) rfl ?_
                          refine r_off rfl (by decide) rfl ?_
                          refine r_off rfl (by decide) rfl ?_
                          refine r_off rfl (by decide) rfl ?_
                          refine r_off rfl (by decide) rfl ?_
                          refine r_off rfl (by decide) rfl ?_
                          refine r_off rfl (by decide) rfl ?_
                          refine r_pick_true rfl rfl rfl rfl ?_
                          refine r_nil ?_
                          refine q_next (fun a ha => ?_)
                          cases hb11
                          exact ⟨rfl, ha.cut (l := [3, 4, 5, 7, 8, 104]) rfl⟩
                        · refine r_lit 91 rfl hb81 ?_
                          refine r_fieldAddr fa24_0 rfl rfl rfl ?_
                          refine r_loadB1 ag3 rfl rfl hx15 rfl (i := 1) rfl rfl ?_
                          refine r_bin rfl rfl rfl rfl rfl ?_
                          refine r_fieldAddr fa24_0 rfl rfl rfl ?_
                          refine r_loadB1 ag3 rfl rfl hx15 rfl (i := 4) rfl rfl ?_
                          refine r_bin rfl rfl rfl rfl rfl ?_
                          refine r_move rfl rfl rfl ?_
                          obtain ⟨v72, hb82, hb11⟩ := bind_some hb11
                          refine r_mid 4 (fun a w' => wx17 = w' ∧ Has 217 a [(3, .pointer (some ⟨b2, 0, none⟩)), (4, .pointer (some ⟨b3, 0, none⟩)), (5, .pointer (some ⟨b4, 0, none⟩)), (7, .bool v1), (8, .pointer (some ⟨b5, 0, none⟩)), (91, .bool false), (94, .bool (v8.1.Sign == 0)), (102, .bool v72)]) ?_ ?_
                          · rintro a wx138 ⟨rfl, hax42⟩
                            refine rw_apply hax42 ?_
                            refine r_bne u4 rfl rfl rfl rfl ?_
                            refine r_pick_false rfl rfl rfl rfl ?_
                            refine r_nil ?_
                            refine q_next (fun a ha => ?_)
                            cases hb11
                            exact ⟨rfl, ha.cut (l := [3, 4, 5, 7, 8, 104]) rfl⟩
                          · clear hb11
                            rcases cond_some hb82 with ⟨hb83, hb82⟩ | ⟨hb83, hb82⟩
                            · refine r_lit 98 rfl hb83 ?_
                              refine r_fieldAddr fa24_0 rfl rfl rfl ?_
                              refine r_loadB1 ag3 rfl rfl hx15 rfl (i := 3) rfl rfl ?_
                              refine r_bin rfl rfl rfl rfl rfl ?_
                              refine r_pick_true rfl rfl rfl rfl ?_
                              refine r_nil ?_
                              refine q_next (fun a ha => ?_)
                              cases hb82
                              exact ⟨rfl, ha.cut (l := [3, 4, 5, 7, 8, 91, 94, 102]) rfl⟩
                            · refine r_lit 98 rfl hb83 ?_
                              refine r_off rfl (by decide) rfl ?_
                              refine r_off rfl (by decide) rfl ?_
                              refine r_off rfl (by decide) rfl ?_
                              refine r_pick_false rfl rfl rfl rfl ?_
                              refine r_nil ?_
                              refine q_next (fun a ha => ?_)
                              cases hb82
                              exact ⟨rfl, ha.cut (l := [3, 4, 5, 7, 8, 91, 94, 102]) rfl⟩
                    · clear hm
                      rcases cond_some hb10 with ⟨hb84, hb10⟩ | ⟨hb84, hb10⟩
                      · refine r_lit 85 rfl hb84 ?_
                        refine r_off rfl (by decide) rfl ?_
                        refine r_off rfl (by decide) rfl ?_
                        refine r_off rfl (by decide) rfl ?_
                        refine r_off rfl (by decide) rfl ?_
                        refine r_pick_true rfl rfl rfl rfl ?_
                        refine r_nil ?_
                        refine q_next (fun a ha => ?_)
                        cases hb10
                        exact ⟨_, Frz.refl _, hx14.pick [0, 1, 2, 3, 4] (by decide) rfl, ha.cut (l := [3, 4, 5, 7, 8, 90]) rfl⟩
                      · refine r_lit 85 rfl hb84 ?_
                        refine r_loadBA (cs' := [.int .i64 v8.1.Sign, .slice as4 ns4 cs4]) ag24 sz24 rfl rfl hx14 rfl (i := 1) rfl rfl rfl ?_
                        refine r_loadBA (cs' := [.int .i64 f1, .slice as5 ns5 cs5]) ag24 sz24 rfl rfl hx14 rfl (i := 0) rfl rfl rfl ?_
                        obtain ⟨v73, hv36, hb10⟩ := bind_some hb10
                        refine r_callG0 ent14 rfl rfl rfl rfl hx14 (big_Same_ok _ _ _ _ hv36 hx14.sat (hs4.mono hF9) hs5) ?_
                        rintro _ Fx53 _ wx139 hF53 hx114 ⟨rfl, rfl⟩
                        refine r_not rfl rfl rfl ?_
                        refine r_pick_false rfl rfl rfl rfl ?_
                        refine r_nil ?_
                        refine q_next (fun a ha => ?_)
                        cases hb10
                        exact ⟨_, hF53, hx114.pick [0, 1, 2, 3, 4] (by decide) rfl, ha.cut (l := [3, 4, 5, 7, 8, 90]) rfl⟩
                  · clear hm
                    rcases cond_some hb9 with ⟨hb85, hb9⟩ | ⟨hb85, hb9⟩
                    · refine r_lit 80 rfl hb85 ?_
                      refine r_off rfl (by decide) rfl ?_
                      refine r_off rfl (by decide) rfl ?_
                      refine r_off rfl (by decide) rfl ?_
                      refine r_pick_true rfl rfl rfl rfl ?_
                      refine r_nil ?_
                      refine q_next (fun a ha => ?_)
                      cases hb9
                      exact ⟨rfl, ha.cut (l := [3, 4, 5, 7, 8, 10, 84]) rfl⟩
                    · refine r_lit 80 rfl hb85 ?_
                      refine r_fieldAddr fa24_0 rfl rfl rfl ?_
                      refine r_loadB1 ag3 rfl rfl hx14 rfl (i := 1) rfl rfl ?_
                      refine r_bin rfl rfl rfl rfl rfl ?_
                      refine r_pick_false rfl rfl rfl rfl ?_
                      refine r_nil ?_
                      refine q_next (fun a ha => ?_)
                      cases hb9
                      exact ⟨rfl, ha.cut (l := [3, 4, 5, 7, 8, 10, 84]) rfl⟩
                · clear hm
                  rcases cond_some hb8 with ⟨hb86, hb8⟩ | ⟨hb86, hb8⟩
                  · refine r_lit 76 rfl hb86 ?_
                    refine r_off rfl (by decide) rfl ?_
                    refine r_off rfl (by decide) rfl ?_
                    refine r_pick_true rfl rfl rfl rfl ?_
                    refine r_nil ?_
                    refine q_next (fun a ha => ?_)
                    cases hb8
                    exact ⟨rfl, ha.cut (l := [3, 4, 5, 7, 8, 10, 79]) rfl⟩
                  · refine r_lit 76 rfl hb86 ?_
                    refine r_move rfl rfl rfl ?_
                    refine r_bin rfl rfl rfl rfl rfl ?_
                    refine r_pick_false rfl rfl rfl rfl ?_
                    refine r_nil ?_
                    refine q_next (fun a ha => ?_)
                    cases hb8
                    exact ⟨rfl, ha.cut (l := [3, 4, 5, 7, 8, 10, 79]) rfl⟩
              · clear hm
                refine c_regionH (SH Fx8 [.box b5 24 [.int .i64 v8.1.Sign, .slice as4 ns4 cs4], .box b4 24 [.int .i64 c1.Sign, .slice as3 ns3 cs3], .box b3 24 [.int .i64 b1.Sign, .slice as2 ns2 cs2], .box b2 24 [.int .i64 ax1.Sign, .slice as1 ns1 cs1]]) 10 rfl (by kernel_rfl) hx13 ?_
                intro wx140 hx115
                refine d_take 0 (v := .agg #[.int .i64 b1.Sign, .slice as2 ns2 cs2]) rfl (by kernel_rfl) (by kernel_rfl) (by kernel_rfl) rfl rfl rfl rfl (hx115.sh (Frz.refl _) [0, 1, 2, 3] (by decide) rfl) (fun _ hC => ?_) ?_
                · obtain ⟨_, _, hleq, hq⟩ := hC
                  refine r_loadBA (cs' := [.int .i64 b1.Sign, .slice as2 ns2 cs2]) ag24 sz24 rfl rfl hq rfl (i := 2) rfl rfl rfl (r_nil (qq rfl))
                refine d_take 2 (v := .agg #[.int .i64 ax1.Sign, .slice as1 ns1 cs1]) rfl (by kernel_rfl) (by kernel_rfl) (by kernel_rfl) rfl rfl rfl rfl (hx115.sh (Frz.refl _) [0, 1, 2, 3] (by decide) rfl) (fun _ hC => ?_) ?_
                · obtain ⟨_, _, hleq, hq⟩ := hC
                  refine r_loadBA (cs' := [.int .i64 ax1.Sign, .slice as1 ns1 cs1]) ag24 sz24 rfl rfl hq rfl (i := 3) rfl rfl rfl (r_nil (qq rfl))
                refine d_two 1 7 rfl rfl (by kernel_rfl) ?_ ?_
                · obtain ⟨v74, hv37, hb7⟩ := bind_some hb7
                  refine r_callG0 ent13 rfl rfl rfl rfl hx115 (big_Neg_ok _ _ _ hv37 hx115.sat ((((((((hs2.mono hF1).mono hF2).mono hF3).mono hF4).mono hF5).mono hF6).mono hF7).mono hF8)) ?_
                  rintro _ Fx54 _ wx141 hF54 hx116 ⟨as40, ns40, cs40, rfl, rfl, hs40⟩
                  refine d_next (hx116.sh hF54 [0, 1, 2, 3] (by decide) rfl) ?_
                  refine d_two 3 7 rfl rfl (by kernel_rfl) ?_ ?_
                  · obtain ⟨v75, hv38, hb7⟩ := bind_some hb7
                    refine r_callG0 ent12 rfl rfl rfl rfl hx116 (big_Gcd_ok _ _ _ _ hv38 hx116.sat hs40 (((((((((hs1.mono hF1).mono hF2).mono hF3).mono hF4).mono hF5).mono hF6).mono hF7).mono hF8).mono hF54)) ?_
                    rintro _ Fx55 _ wx142 hF55 hx117 ⟨as41, ns41, cs41, rfl, rfl, hs41⟩
                    refine d_next (hx117.sh (hF54.trans hF55) [0, 1, 2, 3] (by decide) rfl) ?_
                    refine d_take 4 (v := .tuple #[.agg #[.int .i64 v75.1.Sign, .slice as41 ns41 cs41], .int .i64 v75.2]) rfl (by kernel_rfl) (by kernel_rfl) (by kernel_rfl) rfl rfl rfl rfl (hx117.sh (hF54.trans hF55) [0, 1, 2, 3] (by decide) rfl) (fun _ hC => ?_) ?_
                    · obtain ⟨_, _, hleq, hq⟩ := hC
                      refine r_move rfl rfl rfl (r_nil (qq rfl))
                    refine d_take 5 (v := .agg #[.int .i64 v75.1.Sign, .slice as41 ns41 cs41]) rfl (by kernel_rfl) (by kernel_rfl) (by kernel_rfl) rfl rfl rfl rfl (hx117.sh (hF54.trans hF55) [0, 1, 2, 3] (by decide) rfl) (fun _ hC => ?_) ?_
                    · obtain ⟨_, _, hleq, hq⟩ := hC
                      refine r_extract rfl rfl rfl rfl (r_nil (qq rfl))
                    refine d_take 6 (v := .int .i64 v75.2) rfl (by kernel_rfl) (by kernel_rfl) (by kernel_rfl) rfl rfl rfl rfl (hx117.sh (hF54.trans hF55) [0, 1, 2, 3] (by decide) rfl) (fun _ hC => ?_) ?_
                    · obtain ⟨_, _, hleq, hq⟩ := hC
                      refine r_extract rfl rfl rfl rfl (r_nil (qq rfl))
                    refine d_step 7 rfl (by kernel_rfl) ?_
                    refine r_alloc ze24 rfl rfl rfl hx117 ?_
                    intro b33 wx143 hx118
                    refine d_next (hx118.sh (hF54.trans hF55) [1, 2, 3, 4] (by decide) rfl) ?_
                    refine d_step 8 rfl (by kernel_rfl) ?_
                    refine r_store sz24 rfl hx118 rfl rfl rfl rfl (i := 0) rfl rfl rfl rfl ?_
                    intro wx144 hx119
                    refine d_next (hx119.sh (hF54.trans hF55) [1, 2, 3, 4] (by decide) rfl) ?_
                    refine d_take 9 (v := .int .i64 v75.2) rfl (by kernel_rfl) (by kernel_rfl) (by kernel_rfl) rfl rfl rfl rfl (hx119.sh (hF54.trans hF55) [1, 2, 3, 4] (by decide) rfl) (fun _ hC => ?_) ?_
                    · obtain ⟨_, _, hleq, hq⟩ := hC
                      refine r_assign rfl rfl rfl (r_nil (qq rfl))
                    refine d_done (by kernel_rfl) ?_
                    refine q_next (fun a ha => ?_)
                    cases hb7
                    exact ⟨_, b33, as41, ns41, cs41, (hF54.trans hF55), hx119.pick [0, 1, 2, 3, 4] (by decide) rfl, hs41, ha.cut (l := [3, 4, 5, 7, 8, 9, 10, 11]) rfl⟩
                  · refine r_alloc ze24 rfl rfl rfl hx116 ?_
                    intro b33 wx142 hx117
                    refine d_next (hx117.sh hF54 [1, 2, 3, 4] (by decide) rfl) ?_
                    refine d_step 3 rfl (by kernel_rfl) ?_
                    obtain ⟨v75, hv38, hb7⟩ := bind_some hb7
                    refine r_callG0 ent12 rfl rfl rfl rfl hx117 (big_Gcd_ok _ _ _ _ hv38 hx117.sat hs40 (((((((((hs1.mono hF1).mono hF2).mono hF3).mono hF4).mono hF5).mono hF6).mono hF7).mono hF8).mono hF54)) ?_
                    rintro _ Fx55 _ wx143 hF55 hx118 ⟨as41, ns41, cs41, rfl, rfl, hs41⟩
                    refine d_next (hx118.sh (hF54.trans hF55) [1, 2, 3, 4] (by decide) rfl) ?_
                    refine d_take 4 (v := .tuple #[.agg #[.int .i64 v75.1.Sign, .slice as41 ns41 cs41], .int .i64 v75.2]) rfl (by kernel_rfl) (by kernel_rfl) (by kernel_rfl) rfl rfl rfl rfl (hx118.sh (hF54.trans hF55) [1, 2, 3, 4] (by decide) rfl) (fun _ hC => ?_) ?_
                    · obtain ⟨_, _, hleq, hq⟩ := hC
                      refine r_move rfl rfl rfl (r_nil (qq rfl))
                    refine d_take 5 (v := .agg #[.int .i64 v75.1.Sign, .slice as41 ns41 cs41]) rfl (by kernel_rfl) (by kernel_rfl) (by kernel_rfl) rfl rfl rfl rfl (hx118.sh (hF54.trans hF55) [1, 2, 3, 4] (by decide) rfl) (fun _ hC => ?_) ?_
                    · obtain ⟨_, _, hleq, hq⟩ := hC
                      refine r_extract rfl rfl rfl rfl (r_nil (qq rfl))
                    refine d_take 6 (v := .int .i64 v75.2) rfl (by kernel_rfl) (by kernel_rfl) (by kernel_rfl) rfl rfl rfl rfl (hx118.sh (hF54.trans hF55) [1, 2, 3, 4] (by decide) rfl) (fun _ hC => ?_) ?_
                    · obtain ⟨_, _, hleq, hq⟩ := hC
                      refine r_extract rfl rfl rfl rfl (r_nil (qq rfl))
                    refine d_step 8 rfl (by kernel_rfl) ?_
                    refine r_store sz24 rfl hx118 rfl rfl rfl rfl (i := 0) rfl rfl rfl rfl ?_
                    intro wx144 hx119
                    refine d_next (hx119.sh (hF54.trans hF55) [1, 2, 3, 4] (by decide) rfl) ?_
                    refine d_take 9 (v := .int .i64 v75.2) rfl (by kernel_rfl) (by kernel_rfl) (by kernel_rfl) rfl rfl rfl rfl (hx119.sh (hF54.trans hF55) [1, 2, 3, 4] (by decide) rfl) (fun _ hC => ?_) ?_
                    · obtain ⟨_, _, hleq, hq⟩ := hC
                      refine r_assign rfl rfl rfl (r_nil (qq rfl))
                    refine d_done (by kernel_rfl) ?_
                    refine q_next (fun a ha => ?_)
                    cases hb7
                    exact ⟨_, b33, as41, ns41, cs41, (hF54.trans hF55), hx119.pick [0, 1, 2, 3, 4] (by decide) rfl, hs41, ha.cut (l := [3, 4, 5, 7, 8, 9, 10, 11]) rfl⟩
                · refine r_alloc ze24 rfl rfl rfl hx115 ?_
                  intro b33 wx141 hx116
                  refine d_next (hx116.sh (Frz.refl _) [1, 2, 3, 4] (by decide) rfl) ?_
                  refine d_step 1 rfl (by kernel_rfl) ?_
                  obtain ⟨v74, hv37, hb7⟩ := bind_some hb7
                  refine r_callG0 ent13 rfl rfl rfl rfl hx116 (big_Neg_ok _ _ _ hv37 hx116.sat ((((((((hs2.mono hF1).mono hF2).mono hF3).mono hF4).mono hF5).mono hF6).mono hF7).mono hF8)) ?_
                  rintro _ Fx54 _ wx142 hF54 hx117 ⟨as40, ns40, cs40, rfl, rfl, hs40⟩
                  refine d_next (hx117.sh hF54 [1, 2, 3, 4] (by decide) rfl) ?_
                  refine d_step 3 rfl (by kernel_rfl) ?_
                  obtain ⟨v75, hv38, hb7⟩ := bind_some hb7
                  refine r_callG0 ent12 rfl rfl rfl rfl hx117 (big_Gcd_ok _ _ _ _ hv38 hx117.sat hs40 (((((((((hs1.mono hF1).mono hF2).mono hF3).mono hF4).mono hF5).mono hF6).mono hF7).mono hF8).mono hF54)) ?_
                  rintro _ Fx55 _ wx143 hF55 hx118 ⟨as41, ns41, cs41, rfl, rfl, hs41⟩
                  refine d_next (hx118.sh (hF54.trans hF55) [1, 2, 3, 4] (by decide) rfl) ?_
                  refine d_take 4 (v := .tuple #[.agg #[.int .i64 v75.1.Sign, .slice as41 ns41 cs41], .int .i64 v75.2]) rfl (by kernel_rfl) (by kernel_rfl) (by kernel_rfl) rfl rfl rfl rfl (hx118.sh (hF54.trans hF55) [1, 2, 3, 4] (by decide) rfl) (fun _ hC => ?_) ?_
                  · obtain ⟨_, _, hleq, hq⟩ := hC
                    refine r_move rfl rfl rfl (r_nil (qq rfl))
                  refine d_take 5 (v := .agg #[.int .i64 v75.1.Sign, .slice as41 ns41 cs41]) rfl (by kernel_rfl) (by kernel_rfl) (by kernel_rfl) rfl rfl rfl rfl (hx118.sh (hF54.trans hF55) [1, 2, 3, 4] (by decide) rfl) (fun _ hC => ?_) ?_
                  · obtain ⟨_, _, hleq, hq⟩ := hC
                    refine r_extract rfl rfl rfl rfl (r_nil (qq rfl))
                  refine d_take 6 (v := .int .i64 v75.2) rfl (by kernel_rfl) (by kernel_rfl) (by kernel_rfl) rfl rfl rfl rfl (hx118.sh (hF54.trans hF55) [1, 2, 3, 4] (by decide) rfl) (fun _ hC => ?_) ?_
                  · obtain ⟨_, _, hleq, hq⟩ := hC
                    refine r_extract rfl rfl rfl rfl (r_nil (qq rfl))
                  refine d_step 8 rfl (by kernel_rfl) ?_
                  refine r_store sz24 rfl hx118 rfl rfl rfl rfl (i := 0) rfl rfl rfl rfl ?_
                  intro wx144 hx119
                  refine d_next (hx119.sh (hF54.trans hF55) [1, 2, 3, 4] (by decide) rfl) ?_
                  refine d_take 9 (v := .int .i64 v75.2) rfl (by kernel_rfl) (by kernel_rfl) (by kernel_rfl) rfl rfl rfl rfl (hx119.sh (hF54.trans hF55) [1, 2, 3, 4] (by decide) rfl) (fun _ hC => ?_) ?_
                  · obtain ⟨_, _, hleq, hq⟩ := hC
                    refine r_assign rfl rfl rfl (r_nil (qq rfl))
                  refine d_done (by kernel_rfl) ?_
                  refine q_next (fun a ha => ?_)
                  cases hb7
                  exact ⟨_, b33, as41, ns41, cs41, (hF54.trans hF55), hx119.pick [0, 1, 2, 3, 4] (by decide) rfl, hs41, ha.cut (l := [3, 4, 5, 7, 8, 9, 10, 11]) rfl⟩
          · clear hm
            rcases cond_some hb5 with ⟨hb87, hb5⟩ | ⟨hb87, hb5⟩
            · refine r_lit 55 rfl hb87 ?_
              refine r_off rfl (by decide) rfl ?_
              refine r_off rfl (by decide) rfl ?_
              refine r_off rfl (by decide) rfl ?_
              refine r_pick_true rfl rfl rfl rfl ?_
              refine r_nil ?_
              refine q_next (fun a ha => ?_)
              cases hb5
              exact ⟨_, Frz.refl _, hx9.pick [0, 1, 2] (by decide) rfl, ha.cut (l := [3, 4, 5, 7, 59]) rfl⟩
            · refine r_lit 55 rfl hb87 ?_
              refine r_loadBA (cs' := [.int .i64 c1.Sign, .slice as3 ns3 cs3]) ag24 sz24 rfl rfl hx9 rfl (i := 0) rfl rfl rfl ?_
              obtain ⟨v76, hv39, hb5⟩ := bind_some hb5
              refine r_callG0 ent11 rfl rfl rfl rfl hx9 (big_Right_ok _ _ _ hv39 hx9.sat ((((((hs3.mono hF1).mono hF2).mono hF3).mono hF4).mono hF5).mono hF6)) ?_
              rintro _ Fx56 _ wx145 hF56 hx120 ⟨rfl, rfl⟩
              refine r_not rfl rfl rfl ?_
              refine r_pick_false rfl rfl rfl rfl ?_
              refine r_nil ?_
              refine q_next (fun a ha => ?_)
              cases hb5
              exact ⟨_, hF56, hx120.pick [0, 1, 2] (by decide) rfl, ha.cut (l := [3, 4, 5, 7, 59]) rfl⟩
        · clear hm
          rcases cond_some hb4 with ⟨hb88, hb4⟩ | ⟨hb88, hb4⟩
          · refine r_lit 50 rfl hb88 ?_
            refine r_off rfl (by decide) rfl ?_
            refine r_off rfl (by decide) rfl ?_
            refine r_off rfl (by decide) rfl ?_
            refine r_pick_true rfl rfl rfl rfl ?_
            refine r_nil ?_
            refine q_next (fun a ha => ?_)
            cases hb4
            exact ⟨_, Frz.refl _, hx8.pick [0, 1, 2] (by decide) rfl, ha.cut (l := [3, 4, 5, 7, 54]) rfl⟩
          · refine r_lit 50 rfl hb88 ?_
            refine r_loadBA (cs' := [.int .i64 b1.Sign, .slice as2 ns2 cs2]) ag24 sz24 rfl rfl hx8 rfl (i := 1) rfl rfl rfl ?_
            obtain ⟨v77, hv40, hb4⟩ := bind_some hb4
            refine r_callG0 ent11 rfl rfl rfl rfl hx8 (big_Right_ok _ _ _ hv40 hx8.sat (((((hs2.mono hF1).mono hF2).mono hF3).mono hF4).mono hF5)) ?_
            rintro _ Fx57 _ wx146 hF57 hx121 ⟨rfl, rfl⟩
            refine r_not rfl rfl rfl ?_
            refine r_pick_false rfl rfl rfl rfl ?_
            refine r_nil ?_
            refine q_next (fun a ha => ?_)
            cases hb4
            exact ⟨_, hF57, hx121.pick [0, 1, 2] (by decide) rfl, ha.cut (l := [3, 4, 5, 7, 54]) rfl⟩
      · clear hm
        rcases cond_some hb3 with ⟨hb89, hb3⟩ | ⟨hb89, hb3⟩
        · refine r_lit 45 rfl hb89 ?_
          refine r_off rfl (by decide) rfl ?_
          refine r_off rfl (by decide) rfl ?_
          refine r_off rfl (by decide) rfl ?_
          refine r_pick_true rfl rfl rfl rfl ?_
          refine r_nil ?_
          refine q_next (fun a ha => ?_)
          cases hb3
          exact ⟨_, Frz.refl _, hx7.pick [0, 1, 2] (by decide) rfl, ha.cut (l := [3, 4, 5, 7, 49]) rfl⟩
        · refine r_lit 45 rfl hb89 ?_
          refine r_loadBA (cs' := [.int .i64 ax1.Sign, .slice as1 ns1 cs1]) ag24 sz24 rfl rfl hx7 rfl (i := 2) rfl rfl rfl ?_
          obtain ⟨v78, hv41, hb3⟩ := bind_some hb3
          refine r_callG0 ent11 rfl rfl rfl rfl hx7 (big_Right_ok _ _ _ hv41 hx7.sat ((((hs1.mono hF1).mono hF2).mono hF3).mono hF4)) ?_
          rintro _ Fx58 _ wx147 hF58 hx122 ⟨rfl, rfl⟩
          refine r_not rfl rfl rfl ?_
          refine r_pick_false rfl rfl rfl rfl ?_
          refine r_nil ?_
          refine q_next (fun a ha => ?_)
          cases hb3
          exact ⟨_, hF58, hx122.pick [0, 1, 2] (by decide) rfl, ha.cut (l := [3, 4, 5, 7, 49]) rfl⟩
    · clear hm
      rcases cond_some hb2 with ⟨hb90, hb2⟩ | ⟨hb90, hb2⟩
      · refine r_lit 40 rfl hb90 ?_
        refine r_off rfl (by decide) rfl ?_
        refine r_off rfl (by decide) rfl ?_
        refine r_off rfl (by decide) rfl ?_
        refine r_pick_true rfl rfl rfl rfl ?_
        refine r_nil ?_
        refine q_next (fun a ha => ?_)
        cases hb2
        exact ⟨_, Frz.refl _, hx6.pick [0, 1, 2] (by decide) rfl, ha.cut (l := [3, 4, 5, 7, 44]) rfl⟩
      · refine r_lit 40 rfl hb90 ?_
        refine r_loadBA (cs' := [.int .i64 c1.Sign, .slice as3 ns3 cs3]) ag24 sz24 rfl rfl hx6 rfl (i := 0) rfl rfl rfl ?_
        obtain ⟨v79, hv42, hb2⟩ := bind_some hb2
        refine r_callG0 ent10 rfl rfl rfl rfl hx6 (law04_few_ok _ _ _ _ hv42 hx6.sat (((hs3.mono hF1).mono hF2).mono hF3)) ?_
        rintro _ Fx59 _ wx148 hF59 hx123 ⟨rfl, rfl⟩
        refine r_not rfl rfl rfl ?_
        refine r_pick_false rfl rfl rfl rfl ?_
        refine r_nil ?_
        refine q_next (fun a ha => ?_)
        cases hb2
        exact ⟨_, hF59, hx123.pick [0, 1, 2] (by decide) rfl, ha.cut (l := [3, 4, 5, 7, 44]) rfl⟩
  · clear hm
    rcases cond_some hb1 with ⟨hb91, hb1⟩ | ⟨hb91, hb1⟩
    · refine r_lit 35 rfl hb91 ?_
      refine r_off rfl (by decide) rfl ?_
      refine r_off rfl (by decide) rfl ?_
      refine r_off rfl (by decide) rfl ?_
      refine r_pick_true rfl rfl rfl rfl ?_
      refine r_nil ?_
      refine q_next (fun a ha => ?_)
      cases hb1
      exact ⟨_, Frz.refl _, hx5.pick [0, 1, 2] (by decide) rfl, ha.cut (l := [3, 4, 5, 7, 39]) rfl⟩
    · refine r_lit 35 rfl hb91 ?_
      refine r_loadBA (cs' := [.int .i64 b1.Sign, .slice as2 ns2 cs2]) ag24 sz24 rfl rfl hx5 rfl (i := 1) rfl rfl rfl ?_
      obtain ⟨v80, hv43, hb1⟩ := bind_some hb1
      refine r_callG0 ent10 rfl rfl rfl rfl hx5 (law04_few_ok _ _ _ _ hv43 hx5.sat ((hs2.mono hF1).mono hF2)) ?_
      rintro _ Fx60 _ wx149 hF60 hx124 ⟨rfl, rfl⟩
      refine r_not rfl rfl rfl ?_
      refine r_pick_false rfl rfl rfl rfl ?_
      refine r_nil ?_
      refine q_next (fun a ha => ?_)
      cases hb1
      exact ⟨_, hF60, hx124.pick [0, 1, 2] (by decide) rfl, ha.cut (l := [3, 4, 5, 7, 39]) rfl⟩


end Go.Proofs.YtaiiclbemlmmaaaDoor.M
