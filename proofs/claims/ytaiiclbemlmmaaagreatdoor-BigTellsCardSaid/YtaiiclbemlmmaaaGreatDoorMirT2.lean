/-
  THE MIRRORS of the big integers' functions, of their reference and of the laws, and that each call returns what its mirror says. Printed by gen.py.
-/
import Derived.Test.YtaiiclbemlmmaaaGreatDoorRows
import Derived.Test.YtaiiclbemlmmaaaGreatDoorTrim
import Derived.Test.YtaiiclbemlmmaaaGreatDoorRtX
import Derived.Test.YtaiiclbemlmmaaaGreatDoorMirR
namespace Go.Proofs.YtaiiclbemlmmaaaGreatDoor.M
open Go Go.RowKit Rt

theorem ent4 : Ent Tryz.prog 4 := fun _ _ => by kernel_rfl

theorem ent5 : Ent Tryz.prog 5 := fun _ _ => by kernel_rfl

theorem ent8 : Ent Tryz.prog 8 := fun _ _ => by kernel_rfl

theorem ent9 : Ent Tryz.prog 9 := fun _ _ => by kernel_rfl

theorem ent11 : Ent Tryz.prog 11 := fun _ _ => by kernel_rfl

theorem ent14 : Ent Tryz.prog 14 := fun _ _ => by kernel_rfl

theorem ent16 : Ent Tryz.prog 16 := fun _ _ => by kernel_rfl

theorem ent18 : Ent Tryz.prog 18 := fun _ _ => by kernel_rfl

theorem ent20 : Ent Tryz.prog 20 := fun _ _ => by kernel_rfl

theorem ent27 : Ent Tryz.prog 27 := fun _ _ => by kernel_rfl

theorem ent23 : Ent Tryz.prog 23 := fun _ _ => by kernel_rfl

def law04_BigTells (n : Nat) (ax1 : Big) (b1 : Big) (nx1 : Int) (s3 : Bs) : Option Bool :=
 (law04_small n).bind fun v1 =>
 (law04_few n (⟨ax1.Sign, ax1.Digits⟩ : Big) 62).bind fun v2 =>
 (bif !v2 then
  some true
 else
  (law04_few n (⟨b1.Sign, b1.Digits⟩ : Big) 62).bind fun v81 =>
  some (!v81)).bind fun v3 =>
 (bif v3 then
  some true
 else
  some (decide (400 < (s3.length : Int)))).bind fun v4 =>
 bif v4 then
  some v1
 else
  (big_Add n (⟨ax1.Sign, ax1.Digits⟩ : Big) (⟨b1.Sign, b1.Digits⟩ : Big)).bind fun v5 =>
  (ref04_Add n (⟨ax1.Sign, ax1.Digits⟩ : Big) (⟨b1.Sign, b1.Digits⟩ : Big)).bind fun v6 =>
  (big_Sub n (⟨ax1.Sign, ax1.Digits⟩ : Big) (⟨b1.Sign, b1.Digits⟩ : Big)).bind fun v7 =>
  (ref04_Sub n (⟨ax1.Sign, ax1.Digits⟩ : Big) (⟨b1.Sign, b1.Digits⟩ : Big)).bind fun v8 =>
  (big_Mul n (⟨ax1.Sign, ax1.Digits⟩ : Big) (⟨b1.Sign, b1.Digits⟩ : Big)).bind fun v9 =>
  (ref04_Mul n (⟨ax1.Sign, ax1.Digits⟩ : Big) (⟨b1.Sign, b1.Digits⟩ : Big)).bind fun v10 =>
  (bif v5.2 != v6.2 then
   some true
  else
   some (v7.2 != v8.2)).bind fun v11 =>
  (bif v11 then
   some true
  else
   some (v9.2 != v10.2)).bind fun v12 =>
  (bif v12 then
   some true
  else
   (ref04_Same n (⟨v5.1.Sign, v5.1.Digits⟩ : Big) (⟨v6.1.Sign, v6.1.Digits⟩ : Big)).bind fun v80 =>
   some (!v80)).bind fun v13 =>
  (bif v13 then
   some true
  else
   (ref04_Same n (⟨v7.1.Sign, v7.1.Digits⟩ : Big) (⟨v8.1.Sign, v8.1.Digits⟩ : Big)).bind fun v79 =>
   some (!v79)).bind fun v14 =>
  (bif v14 then
   some true
  else
   (ref04_Same n (⟨v9.1.Sign, v9.1.Digits⟩ : Big) (⟨v10.1.Sign, v10.1.Digits⟩ : Big)).bind fun v78 =>
   some (!v78)).bind fun v15 =>
  bif v15 then
   some false
  else
   (big_Div n (⟨ax1.Sign, ax1.Digits⟩ : Big) (⟨b1.Sign, b1.Digits⟩ : Big)).bind fun v16 =>
   (ref04_Div n (⟨ax1.Sign, ax1.Digits⟩ : Big) (⟨b1.Sign, b1.Digits⟩ : Big)).bind fun v17 =>
   (big_Int n (⟨ax1.Sign, ax1.Digits⟩ : Big)).bind fun v18 =>
   (ref04_Int n (⟨ax1.Sign, ax1.Digits⟩ : Big)).bind fun v19 =>
   (big_Read n s3).bind fun v20 =>
   (ref04_Read n s3).bind fun v21 =>
   (bif v16.2.2 != v17.2.2 then
    some true
   else
    (ref04_Same n (⟨v16.1.Sign, v16.1.Digits⟩ : Big) (⟨v17.1.Sign, v17.1.Digits⟩ : Big)).bind fun v77 =>
    some (!v77)).bind fun v22 =>
   (bif v22 then
    some true
   else
    (ref04_Same n (⟨v16.2.1.Sign, v16.2.1.Digits⟩ : Big) (⟨v17.2.1.Sign, v17.2.1.Digits⟩ : Big)).bind fun v76 =>
    some (!v76)).bind fun v23 =>
   (bif v23 then
    some true
   else
    some (v18.1 != v19.1)).bind fun v24 =>
   (bif v24 then
    some true
   else
    some (!(v18.2 == v19.2))).bind fun v25 =>
   (bif v25 then
    some true
   else
    some (v20.2 != v21.2)).bind fun v26 =>
   (bif v26 then
    some true
   else
    (ref04_Same n (⟨v20.1.Sign, v20.1.Digits⟩ : Big) (⟨v21.1.Sign, v21.1.Digits⟩ : Big)).bind fun v75 =>
    some (!v75)).bind fun v27 =>
   bif v27 then
    some false
   else
    (law04_few n (⟨ax1.Sign, ax1.Digits⟩ : Big) 16).bind fun v28 =>
    (bif v28 then
     (law04_few n (⟨b1.Sign, b1.Digits⟩ : Big) 16).bind fun v74 =>
     some v74
    else
     some false).bind fun v29 =>
    bif v29 then
     (big_Gcd n (⟨ax1.Sign, ax1.Digits⟩ : Big) (⟨b1.Sign, b1.Digits⟩ : Big)).bind fun v30 =>
     (ref04_Gcd n (⟨ax1.Sign, ax1.Digits⟩ : Big) (⟨b1.Sign, b1.Digits⟩ : Big)).bind fun v31 =>
     (bif v30.2 != v31.2 then
      some true
     else
      (ref04_Same n (⟨v30.1.Sign, v30.1.Digits⟩ : Big) (⟨v31.1.Sign, v31.1.Digits⟩ : Big)).bind fun v53 =>
      some (!v53)).bind fun v32 =>
     bif v32 then
      some false
     else
      (big_Right n (⟨ax1.Sign, ax1.Digits⟩ : Big)).bind fun v33 =>
      (ref04_Right n (⟨ax1.Sign, ax1.Digits⟩ : Big)).bind fun v34 =>
      (bif v33 == v34 then
       (big_Compare n (⟨ax1.Sign, ax1.Digits⟩ : Big) (⟨b1.Sign, b1.Digits⟩ : Big)).bind fun v51 =>
       (ref04_Compare n (⟨ax1.Sign, ax1.Digits⟩ : Big) (⟨b1.Sign, b1.Digits⟩ : Big)).bind fun v52 =>
       some (v51 == v52)
      else
       some false).bind fun v35 =>
      (bif v35 then
       (big_Same n (⟨ax1.Sign, ax1.Digits⟩ : Big) (⟨b1.Sign, b1.Digits⟩ : Big)).bind fun v49 =>
       (ref04_Same n (⟨ax1.Sign, ax1.Digits⟩ : Big) (⟨b1.Sign, b1.Digits⟩ : Big)).bind fun v50 =>
       some (v49 == v50)
      else
       some false).bind fun v36 =>
      (bif v36 then
       (big_Text n (⟨ax1.Sign, ax1.Digits⟩ : Big)).bind fun v47 =>
       (ref04_Text n (⟨ax1.Sign, ax1.Digits⟩ : Big)).bind fun v48 =>
       some (v47 == v48)
      else
       some false).bind fun v37 =>
      (bif v1 then
       some v37
      else
       some false).bind fun v38 =>
      (bif v38 then
       (big_Neg n (⟨ax1.Sign, ax1.Digits⟩ : Big)).bind fun v44 =>
       (ref04_Neg n (⟨ax1.Sign, ax1.Digits⟩ : Big)).bind fun v45 =>
       (ref04_Same n v44 v45).bind fun v46 =>
       some v46
      else
       some false).bind fun v39 =>
      (bif v39 then
       (big_Of n nx1).bind fun v41 =>
       (ref04_Of n nx1).bind fun v42 =>
       (ref04_Same n v41 v42).bind fun v43 =>
       some v43
      else
       some false).bind fun v40 =>
      some v40
    else
     (big_Right n (⟨ax1.Sign, ax1.Digits⟩ : Big)).bind fun v54 =>
     (ref04_Right n (⟨ax1.Sign, ax1.Digits⟩ : Big)).bind fun v55 =>
     (bif v54 == v55 then
      (big_Compare n (⟨ax1.Sign, ax1.Digits⟩ : Big) (⟨b1.Sign, b1.Digits⟩ : Big)).bind fun v72 =>
      (ref04_Compare n (⟨ax1.Sign, ax1.Digits⟩ : Big) (⟨b1.Sign, b1.Digits⟩ : Big)).bind fun v73 =>
      some (v72 == v73)
     else
      some false).bind fun v56 =>
     (bif v56 then
      (big_Same n (⟨ax1.Sign, ax1.Digits⟩ : Big) (⟨b1.Sign, b1.Digits⟩ : Big)).bind fun v70 =>
      (ref04_Same n (⟨ax1.Sign, ax1.Digits⟩ : Big) (⟨b1.Sign, b1.Digits⟩ : Big)).bind fun v71 =>
      some (v70 == v71)
     else
      some false).bind fun v57 =>
     (bif v57 then
      (big_Text n (⟨ax1.Sign, ax1.Digits⟩ : Big)).bind fun v68 =>
      (ref04_Text n (⟨ax1.Sign, ax1.Digits⟩ : Big)).bind fun v69 =>
      some (v68 == v69)
     else
      some false).bind fun v58 =>
     (bif v1 then
      some v58
     else
      some false).bind fun v59 =>
     (bif v59 then
      (big_Neg n (⟨ax1.Sign, ax1.Digits⟩ : Big)).bind fun v65 =>
      (ref04_Neg n (⟨ax1.Sign, ax1.Digits⟩ : Big)).bind fun v66 =>
      (ref04_Same n v65 v66).bind fun v67 =>
      some v67
     else
      some false).bind fun v60 =>
     (bif v60 then
      (big_Of n nx1).bind fun v62 =>
      (ref04_Of n nx1).bind fun v63 =>
      (ref04_Same n v62 v63).bind fun v64 =>
      some v64
     else
      some false).bind fun v61 =>
     some v61

set_option maxHeartbeats 1000000 in
set_option maxRecDepth 1000000 in
theorem law04_BigTells_ok (n : Nat) (ax1 : Big) (b1 : Big) (nx1 : Int) (s3 : Bs) (r : Bool) (hm : law04_BigTells n ax1 b1 nx1 s3 = some r) {w : World} {F : Frz} (hs : Sat F w) {as1 : Option Addr} {ns1 : Nat} {cs1 : Nat} {as2 : Option Addr} {ns2 : Nat} {cs2 : Nat} (hs1 : SlR (Rp.int .i64) F as1 ns1 cs1 ax1.Digits) (hs2 : SlR (Rp.int .i64) F as2 ns2 cs2 b1.Digits) (hg2 : FX F 2 (Lib.pow10Tab.map (Value.int .u64))) :
  Calls Tryz.prog 3 #[.agg #[.int .i64 ax1.Sign, .slice as1 ns1 cs1], .agg #[.int .i64 b1.Sign, .slice as2 ns2 cs2], .int .i64 nx1, vs s3] w fun e w' => ∃ v F' O', e = .returned v ∧ HS F w [] F' O' w' ∧ (v = .bool r ∧ O' = []) := by
 unfold law04_BigTells at hm
 have h := HS.init hs
 refine calls_of (args := [.agg #[.int .i64 ax1.Sign, .slice as1 ns1 cs1], .agg #[.int .i64 b1.Sign, .slice as2 ns2 cs2], .int .i64 nx1, vs s3]) 262 Tryz.func3 rfl rfl rfl ?_
 refine c_seq (c_region ?_)
 refine r_box rfl rfl rfl rfl h ?_
 intro b2 wx1 hx1
 refine r_box rfl rfl rfl rfl hx1 ?_
 intro b3 wx2 hx2
 refine r_assign rfl rfl rfl (r_nil (q_then (c_seq (c_region ?_))))
 obtain ⟨v1, hv1, hm⟩ := bind_some hm
 refine r_callG0 ent4 rfl rfl rfl rfl hx2 (law04_small_ok _ _ hv1 hx2.sat hg2) ?_
 rintro _ Fx1 _ wx3 hF1 hx3 ⟨rfl, rfl⟩
 refine r_assign rfl rfl rfl (r_nil (q_then (c_seq (c_seq (c_region ?_)))))
 refine r_loadBA (cs' := [.int .i64 ax1.Sign, .slice as1 ns1 cs1]) ag24 sz24 rfl rfl hx3 rfl (i := 1) rfl rfl rfl ?_
 obtain ⟨v2, hv2, hm⟩ := bind_some hm
 refine r_callG0 ent5 rfl rfl rfl rfl hx3 (law04_few_ok _ _ _ _ hv2 hx3.sat (hs1.mono hF1)) ?_
 rintro _ Fx2 _ wx4 hF2 hx4 ⟨rfl, rfl⟩
 refine r_not rfl rfl rfl (r_move rfl rfl rfl ?_)
 obtain ⟨v3, hb1, hm⟩ := bind_some hm
 refine r_mid 4 (fun a w' => ∃ (Fx3 : Frz), Frz.le Fx2 Fx3 ∧ HS F w [] Fx3 [.box b3 24 [.int .i64 b1.Sign, .slice as2 ns2 cs2], .box b2 24 [.int .i64 ax1.Sign, .slice as1 ns1 cs1]] w' ∧ Has 262 a [(2, .int .i64 nx1), (3, vs s3), (4, .pointer (some ⟨b2, 0, none⟩)), (5, .pointer (some ⟨b3, 0, none⟩)), (9, .bool v1), (43, .bool v3)]) ?_ ?_
 ·rintro a wx5 ⟨Fx3, hF3, hx5, hax1⟩
  refine rw_apply hax1 ?_
  refine r_move rfl rfl rfl ?_
  obtain ⟨v4, hb2, hm⟩ := bind_some hm
  refine r_mid 4 (fun a w' => wx5 = w' ∧ Has 262 a [(2, .int .i64 nx1), (3, vs s3), (4, .pointer (some ⟨b2, 0, none⟩)), (5, .pointer (some ⟨b3, 0, none⟩)), (9, .bool v1), (48, .bool v4)]) ?_ ?_
  ·rintro a wx6 ⟨rfl, hax2⟩
   refine rw_apply hax2 ?_
   refine r_nil (q_then ?_)
   rcases cond_some hm with ⟨hb3, hm⟩ | ⟨hb3, hm⟩
   ·refine c_lit 48 rfl hb3 ?_
    refine c_true rfl (c_seq (c_region (r_move rfl rfl rfl (r_assign rfl rfl rfl (r_nil (q_then (c_ret (q_then_ret ?_))))))))
    refine b_ret1 rfl rfl ?_
    obtain rfl := Option.some.inj hm
    exact ⟨_, _, _, rfl, hx5.pick [] (by decide) rfl, rfl, rfl⟩
   ·refine c_lit 48 rfl hb3 ?_
    refine c_false rfl (c_skip (q_then (c_seq (c_region ?_))))
    refine r_loadBA (cs' := [.int .i64 ax1.Sign, .slice as1 ns1 cs1]) ag24 sz24 rfl rfl hx5 rfl (i := 1) rfl rfl rfl ?_
    refine r_loadBA (cs' := [.int .i64 b1.Sign, .slice as2 ns2 cs2]) ag24 sz24 rfl rfl hx5 rfl (i := 0) rfl rfl rfl ?_
    obtain ⟨v5, hv3, hm⟩ := bind_some hm
    refine r_callG0 ent6 rfl rfl rfl rfl hx5 (big_Add_ok _ _ _ _ hv3 hx5.sat (((hs1.mono hF1).mono hF2).mono hF3) (((hs2.mono hF1).mono hF2).mono hF3)) ?_
    rintro _ Fx4 _ wx7 hF4 hx6 ⟨as4, ns4, cs4, rfl, rfl, hs4⟩
    refine r_move rfl rfl rfl (r_extract rfl rfl rfl rfl (r_extract rfl rfl rfl rfl ?_))
    refine r_alloc ze24 rfl rfl rfl hx6 ?_
    intro b4 wx8 hx7
    refine r_store sz24 rfl hx7 rfl rfl rfl rfl (i := 0) rfl rfl rfl rfl ?_
    intro wx9 hx8
    refine r_assign rfl rfl rfl (r_nil (q_then (c_seq (c_region ?_))))
    refine r_loadBA (cs' := [.int .i64 ax1.Sign, .slice as1 ns1 cs1]) ag24 sz24 rfl rfl hx8 rfl (i := 2) rfl rfl rfl ?_
    refine r_loadBA (cs' := [.int .i64 b1.Sign, .slice as2 ns2 cs2]) ag24 sz24 rfl rfl hx8 rfl (i := 1) rfl rfl rfl ?_
    obtain ⟨v6, hv4, hm⟩ := bind_some hm
    refine r_callG0 ent7 rfl rfl rfl rfl hx8 (ref04_Add_ok _ _ _ _ hv4 hx8.sat ((((hs1.mono hF1).mono hF2).mono hF3).mono hF4) ((((hs2.mono hF1).mono hF2).mono hF3).mono hF4)) ?_
    rintro _ Fx5 _ wx10 hF5 hx9 ⟨as5, ns5, cs5, rfl, rfl, hs5⟩
    refine r_move rfl rfl rfl (r_extract rfl rfl rfl rfl (r_extract rfl rfl rfl rfl ?_))
    refine r_alloc ze24 rfl rfl rfl hx9 ?_
    intro b5 wx11 hx10
    refine r_store sz24 rfl hx10 rfl rfl rfl rfl (i := 0) rfl rfl rfl rfl ?_
    intro wx12 hx11
    refine r_assign rfl rfl rfl (r_nil (q_then (c_seq (c_region ?_))))
    refine r_loadBA (cs' := [.int .i64 ax1.Sign, .slice as1 ns1 cs1]) ag24 sz24 rfl rfl hx11 rfl (i := 3) rfl rfl rfl ?_
    refine r_loadBA (cs' := [.int .i64 b1.Sign, .slice as2 ns2 cs2]) ag24 sz24 rfl rfl hx11 rfl (i := 2) rfl rfl rfl ?_
    obtain ⟨v7, hv5, hm⟩ := bind_some hm
    refine r_callG0 ent8 rfl rfl rfl rfl hx11 (big_Sub_ok _ _ _ _ hv5 hx11.sat (((((hs1.mono hF1).mono hF2).mono hF3).mono hF4).mono hF5) (((((hs2.mono hF1).mono hF2).mono hF3).mono hF4).mono hF5)) ?_
    rintro _ Fx6 _ wx13 hF6 hx12 ⟨as6, ns6, cs6, rfl, rfl, hs6⟩
    refine r_move rfl rfl rfl (r_extract rfl rfl rfl rfl (r_extract rfl rfl rfl rfl ?_))
    refine r_alloc ze24 rfl rfl rfl hx12 ?_
    intro b6 wx14 hx13
    refine r_store sz24 rfl hx13 rfl rfl rfl rfl (i := 0) rfl rfl rfl rfl ?_
    intro wx15 hx14
    refine r_assign rfl rfl rfl (r_nil (q_then (c_seq (c_region ?_))))
    refine r_loadBA (cs' := [.int .i64 ax1.Sign, .slice as1 ns1 cs1]) ag24 sz24 rfl rfl hx14 rfl (i := 4) rfl rfl rfl ?_
    refine r_loadBA (cs' := [.int .i64 b1.Sign, .slice as2 ns2 cs2]) ag24 sz24 rfl rfl hx14 rfl (i := 3) rfl rfl rfl ?_
    obtain ⟨v8, hv6, hm⟩ := bind_some hm
    refine r_callG0 ent9 rfl rfl rfl rfl hx14 (ref04_Sub_ok _ _ _ _ hv6 hx14.sat ((((((hs1.mono hF1).mono hF2).mono hF3).mono hF4).mono hF5).mono hF6) ((((((hs2.mono hF1).mono hF2).mono hF3).mono hF4).mono hF5).mono hF6)) ?_
    rintro _ Fx7 _ wx16 hF7 hx15 ⟨as7, ns7, cs7, rfl, rfl, hs7⟩
    refine r_move rfl rfl rfl (r_extract rfl rfl rfl rfl (r_extract rfl rfl rfl rfl ?_))
    refine r_alloc ze24 rfl rfl rfl hx15 ?_
    intro b7 wx17 hx16
    refine r_store sz24 rfl hx16 rfl rfl rfl rfl (i := 0) rfl rfl rfl rfl ?_
    intro wx18 hx17
    refine r_assign rfl rfl rfl (r_nil (q_then (c_seq (c_region ?_))))
    refine r_loadBA (cs' := [.int .i64 ax1.Sign, .slice as1 ns1 cs1]) ag24 sz24 rfl rfl hx17 rfl (i := 5) rfl rfl rfl ?_
    refine r_loadBA (cs' := [.int .i64 b1.Sign, .slice as2 ns2 cs2]) ag24 sz24 rfl rfl hx17 rfl (i := 4) rfl rfl rfl ?_
    obtain ⟨v9, hv7, hm⟩ := bind_some hm
    refine r_callG0 ent10 rfl rfl rfl rfl hx17 (big_Mul_ok _ _ _ _ hv7 hx17.sat (((((((hs1.mono hF1).mono hF2).mono hF3).mono hF4).mono hF5).mono hF6).mono hF7) (((((((hs2.mono hF1).mono hF2).mono hF3).mono hF4).mono hF5).mono hF6).mono hF7)) ?_
    rintro _ Fx8 _ wx19 hF8 hx18 ⟨as8, ns8, cs8, rfl, rfl, hs8⟩
    refine r_move rfl rfl rfl (r_extract rfl rfl rfl rfl (r_extract rfl rfl rfl rfl ?_))
    refine r_alloc ze24 rfl rfl rfl hx18 ?_
    intro b8 wx20 hx19
    refine r_store sz24 rfl hx19 rfl rfl rfl rfl (i := 0) rfl rfl rfl rfl ?_
    intro wx21 hx20
    refine r_assign rfl rfl rfl (r_nil (q_then (c_seq (c_region ?_))))
    refine r_loadBA (cs' := [.int .i64 ax1.Sign, .slice as1 ns1 cs1]) ag24 sz24 rfl rfl hx20 rfl (i := 6) rfl rfl rfl ?_
    refine r_loadBA (cs' := [.int .i64 b1.Sign, .slice as2 ns2 cs2]) ag24 sz24 rfl rfl hx20 rfl (i := 5) rfl rfl rfl ?_
    obtain ⟨v10, hv8, hm⟩ := bind_some hm
    refine r_callG0 ent11 rfl rfl rfl rfl hx20 (ref04_Mul_ok _ _ _ _ hv8 hx20.sat ((((((((hs1.mono hF1).mono hF2).mono hF3).mono hF4).mono hF5).mono hF6).mono hF7).mono hF8) ((((((((hs2.mono hF1).mono hF2).mono hF3).mono hF4).mono hF5).mono hF6).mono hF7).mono hF8)) ?_
    rintro _ Fx9 _ wx22 hF9 hx21 ⟨as9, ns9, cs9, rfl, rfl, hs9⟩
    refine r_move rfl rfl rfl (r_extract rfl rfl rfl rfl (r_extract rfl rfl rfl rfl ?_))
    refine r_alloc ze24 rfl rfl rfl hx21 ?_
    intro b9 wx23 hx22
    refine r_store sz24 rfl hx22 rfl rfl rfl rfl (i := 0) rfl rfl rfl rfl ?_
    intro wx24 hx23
    refine r_assign rfl rfl rfl (r_nil (q_then (c_seq (c_seq (c_region (r_move rfl rfl rfl (r_move rfl rfl rfl ?_)))))))
    refine r_bin rfl rfl rfl rfl rfl ?_
    refine r_move rfl rfl rfl ?_
    obtain ⟨v11, hb4, hm⟩ := bind_some hm
    refine r_mid 4 (fun a w' => wx24 = w' ∧ Has 262 a [(2, .int .i64 nx1), (3, vs s3), (4, .pointer (some ⟨b2, 0, none⟩)), (5, .pointer (some ⟨b3, 0, none⟩)), (9, .bool v1), (10, .pointer (some ⟨b4, 0, none⟩)), (12, .pointer (some ⟨b5, 0, none⟩)), (14, .pointer (some ⟨b6, 0, none⟩)), (16, .pointer (some ⟨b7, 0, none⟩)), (18, .pointer (some ⟨b8, 0, none⟩)), (19, .int .i64 v9.2), (20, .pointer (some ⟨b9, 0, none⟩)), (21, .int .i64 v10.2), (93, .bool v11)]) ?_ ?_
    ·rintro a wx25 ⟨rfl, hax3⟩
     refine rw_apply hax3 ?_
     refine r_move rfl rfl rfl ?_
     obtain ⟨v12, hb5, hm⟩ := bind_some hm
     refine r_mid 4 (fun a w' => wx24 = w' ∧ Has 262 a [(2, .int .i64 nx1), (3, vs s3), (4, .pointer (some ⟨b2, 0, none⟩)), (5, .pointer (some ⟨b3, 0, none⟩)), (9, .bool v1), (10, .pointer (some ⟨b4, 0, none⟩)), (12, .pointer (some ⟨b5, 0, none⟩)), (14, .pointer (some ⟨b6, 0, none⟩)), (16, .pointer (some ⟨b7, 0, none⟩)), (18, .pointer (some ⟨b8, 0, none⟩)), (20, .pointer (some ⟨b9, 0, none⟩)), (98, .bool v12)]) ?_ ?_
     ·rintro a wx26 ⟨rfl, hax4⟩
      refine rw_apply hax4 ?_
      refine r_move rfl rfl rfl ?_
      obtain ⟨v13, hb6, hm⟩ := bind_some hm
      refine r_mid 5 (fun a w' => ∃ (Fx10 : Frz), Frz.le Fx9 Fx10 ∧ HS F w [] Fx10 [.box b9 24 [.int .i64 v10.1.Sign, .slice as9 ns9 cs9], .box b8 24 [.int .i64 v9.1.Sign, .slice as8 ns8 cs8], .box b7 24 [.int .i64 v8.1.Sign, .slice as7 ns7 cs7], .box b6 24 [.int .i64 v7.1.Sign, .slice as6 ns6 cs6], .box b5 24 [.int .i64 v6.1.Sign, .slice as5 ns5 cs5], .box b4 24 [.int .i64 v5.1.Sign, .slice as4 ns4 cs4], .box b3 24 [.int .i64 b1.Sign, .slice as2 ns2 cs2], .box b2 24 [.int .i64 ax1.Sign, .slice as1 ns1 cs1]] w' ∧ Has 262 a [(2, .int .i64 nx1), (3, vs s3), (4, .pointer (some ⟨b2, 0, none⟩)), (5, .pointer (some ⟨b3, 0, none⟩)), (9, .bool v1), (10, .pointer (some ⟨b4, 0, none⟩)), (12, .pointer (some ⟨b5, 0, none⟩)), (14, .pointer (some ⟨b6, 0, none⟩)), (16, .pointer (some ⟨b7, 0, none⟩)), (18, .pointer (some ⟨b8, 0, none⟩)), (20, .pointer (some ⟨b9, 0, none⟩)), (104, .bool v13)]) ?_ ?_
      ·rintro a wx27 ⟨Fx10, hF10, hx24, hax5⟩
       refine rw_apply hax5 ?_
       refine r_move rfl rfl rfl ?_
       obtain ⟨v14, hb7, hm⟩ := bind_some hm
       refine r_mid 5 (fun a w' => ∃ (Fx11 : Frz), Frz.le Fx10 Fx11 ∧ HS F w [] Fx11 [.box b9 24 [.int .i64 v10.1.Sign, .slice as9 ns9 cs9], .box b8 24 [.int .i64 v9.1.Sign, .slice as8 ns8 cs8], .box b7 24 [.int .i64 v8.1.Sign, .slice as7 ns7 cs7], .box b6 24 [.int .i64 v7.1.Sign, .slice as6 ns6 cs6], .box b5 24 [.int .i64 v6.1.Sign, .slice as5 ns5 cs5], .box b4 24 [.int .i64 v5.1.Sign, .slice as4 ns4 cs4], .box b3 24 [.int .i64 b1.Sign, .slice as2 ns2 cs2], .box b2 24 [.int .i64 ax1.Sign, .slice as1 ns1 cs1]] w' ∧ Has 262 a [(2, .int .i64 nx1), (3, vs s3), (4, .pointer (some ⟨b2, 0, none⟩)), (5, .pointer (some ⟨b3, 0, none⟩)), (9, .bool v1), (10, .pointer (some ⟨b4, 0, none⟩)), (12, .pointer (some ⟨b5, 0, none⟩)), (14, .pointer (some ⟨b6, 0, none⟩)), (16, .pointer (some ⟨b7, 0, none⟩)), (18, .pointer (some ⟨b8, 0, none⟩)), (20, .pointer (some ⟨b9, 0, none⟩)), (110, .bool v14)]) ?_ ?_
       ·rintro a wx28 ⟨Fx11, hF11, hx25, hax6⟩
        refine rw_apply hax6 ?_
        refine r_move rfl rfl rfl ?_
        obtain ⟨v15, hb8, hm⟩ := bind_some hm
        refine r_mid 5 (fun a w' => ∃ (Fx12 : Frz), Frz.le Fx11 Fx12 ∧ HS F w [] Fx12 [.box b9 24 [.int .i64 v10.1.Sign, .slice as9 ns9 cs9], .box b8 24 [.int .i64 v9.1.Sign, .slice as8 ns8 cs8], .box b7 24 [.int .i64 v8.1.Sign, .slice as7 ns7 cs7], .box b6 24 [.int .i64 v7.1.Sign, .slice as6 ns6 cs6], .box b5 24 [.int .i64 v6.1.Sign, .slice as5 ns5 cs5], .box b4 24 [.int .i64 v5.1.Sign, .slice as4 ns4 cs4], .box b3 24 [.int .i64 b1.Sign, .slice as2 ns2 cs2], .box b2 24 [.int .i64 ax1.Sign, .slice as1 ns1 cs1]] w' ∧ Has 262 a [(2, .int .i64 nx1), (3, vs s3), (4, .pointer (some ⟨b2, 0, none⟩)), (5, .pointer (some ⟨b3, 0, none⟩)), (9, .bool v1), (10, .pointer (some ⟨b4, 0, none⟩)), (12, .pointer (some ⟨b5, 0, none⟩)), (14, .pointer (some ⟨b6, 0, none⟩)), (16, .pointer (some ⟨b7, 0, none⟩)), (116, .bool v15)]) ?_ ?_
        ·rintro a wx29 ⟨Fx12, hF12, hx26, hax7⟩
         refine rw_apply hax7 ?_
         refine r_nil (q_then ?_)
         rcases cond_some hm with ⟨hb9, hm⟩ | ⟨hb9, hm⟩
         ·refine c_lit 116 rfl hb9 ?_
          refine c_true rfl (c_seq (c_region (r_assign rfl rfl rfl (r_nil (q_then (c_ret (q_then_ret ?_)))))))
          refine b_ret1 rfl rfl ?_
          obtain rfl := Option.some.inj hm
          exact ⟨_, _, _, rfl, hx26.pick [] (by decide) rfl, rfl, rfl⟩
         ·refine c_lit 116 rfl hb9 ?_
          refine c_false rfl (c_skip (q_then (c_seq (c_region ?_))))
          refine r_loadBA (cs' := [.int .i64 ax1.Sign, .slice as1 ns1 cs1]) ag24 sz24 rfl rfl hx26 rfl (i := 7) rfl rfl rfl ?_
          refine r_loadBA (cs' := [.int .i64 b1.Sign, .slice as2 ns2 cs2]) ag24 sz24 rfl rfl hx26 rfl (i := 6) rfl rfl rfl ?_
          obtain ⟨v16, hv9, hm⟩ := bind_some hm
          refine r_callG0 ent13 rfl rfl rfl rfl hx26 (big_Div_ok _ _ _ _ hv9 hx26.sat ((((((((((((hs1.mono hF1).mono hF2).mono hF3).mono hF4).mono hF5).mono hF6).mono hF7).mono hF8).mono hF9).mono hF10).mono hF11).mono hF12) ((((((((((((hs2.mono hF1).mono hF2).mono hF3).mono hF4).mono hF5).mono hF6).mono hF7).mono hF8).mono hF9).mono hF10).mono hF11).mono hF12)) ?_
          rintro _ Fx13 _ wx30 hF13 hx27 ⟨as10, ns10, cs10, as11, ns11, cs11, rfl, rfl, hs10, hs11⟩
          refine r_move rfl rfl rfl (r_extract rfl rfl rfl rfl (r_extract rfl rfl rfl rfl (r_extract rfl rfl rfl rfl ?_)))
          refine r_store sz24 rfl hx27 rfl rfl rfl rfl (i := 5) rfl rfl rfl rfl ?_
          intro wx31 hx28
          refine r_store sz24 rfl hx28 rfl rfl rfl rfl (i := 4) rfl rfl rfl rfl ?_
          intro wx32 hx29
          refine r_assign rfl rfl rfl (r_nil (q_then (c_seq (c_region ?_))))
          refine r_loadBA (cs' := [.int .i64 ax1.Sign, .slice as1 ns1 cs1]) ag24 sz24 rfl rfl hx29 rfl (i := 7) rfl rfl rfl ?_
          refine r_loadBA (cs' := [.int .i64 b1.Sign, .slice as2 ns2 cs2]) ag24 sz24 rfl rfl hx29 rfl (i := 6) rfl rfl rfl ?_
          obtain ⟨v17, hv10, hm⟩ := bind_some hm
          refine r_callG0 ent14 rfl rfl rfl rfl hx29 (ref04_Div_ok _ _ _ _ hv10 hx29.sat (((((((((((((hs1.mono hF1).mono hF2).mono hF3).mono hF4).mono hF5).mono hF6).mono hF7).mono hF8).mono hF9).mono hF10).mono hF11).mono hF12).mono hF13) (((((((((((((hs2.mono hF1).mono hF2).mono hF3).mono hF4).mono hF5).mono hF6).mono hF7).mono hF8).mono hF9).mono hF10).mono hF11).mono hF12).mono hF13)) ?_
          rintro _ Fx14 _ wx33 hF14 hx30 ⟨as12, ns12, cs12, as13, ns13, cs13, rfl, rfl, hs12, hs13⟩
          refine r_move rfl rfl rfl (r_extract rfl rfl rfl rfl (r_extract rfl rfl rfl rfl (r_extract rfl rfl rfl rfl ?_)))
          refine r_store sz24 rfl hx30 rfl rfl rfl rfl (i := 3) rfl rfl rfl rfl ?_
          intro wx34 hx31
          refine r_store sz24 rfl hx31 rfl rfl rfl rfl (i := 2) rfl rfl rfl rfl ?_
          intro wx35 hx32
          refine r_assign rfl rfl rfl (r_nil (q_then (c_seq (c_region ?_))))
          refine r_loadBA (cs' := [.int .i64 ax1.Sign, .slice as1 ns1 cs1]) ag24 sz24 rfl rfl hx32 rfl (i := 7) rfl rfl rfl ?_
          obtain ⟨v18, hv11, hm⟩ := bind_some hm
          refine r_callG0 ent15 rfl rfl rfl rfl hx32 (big_Int_ok _ _ _ hv11 hx32.sat ((((((((((((((hs1.mono hF1).mono hF2).mono hF3).mono hF4).mono hF5).mono hF6).mono hF7).mono hF8).mono hF9).mono hF10).mono hF11).mono hF12).mono hF13).mono hF14)) ?_
          rintro _ Fx15 _ wx36 hF15 hx33 ⟨rfl, rfl⟩
          refine r_move rfl rfl rfl (r_extract rfl rfl rfl rfl (r_extract rfl rfl rfl rfl (r_assign rfl rfl rfl (r_assign rfl rfl rfl (r_nil (q_then (c_seq (c_region ?_))))))))
          refine r_loadBA (cs' := [.int .i64 ax1.Sign, .slice as1 ns1 cs1]) ag24 sz24 rfl rfl hx33 rfl (i := 7) rfl rfl rfl ?_
          obtain ⟨v19, hv12, hm⟩ := bind_some hm
          refine r_callG0 ent16 rfl rfl rfl rfl hx33 (ref04_Int_ok _ _ _ hv12 hx33.sat (((((((((((((((hs1.mono hF1).mono hF2).mono hF3).mono hF4).mono hF5).mono hF6).mono hF7).mono hF8).mono hF9).mono hF10).mono hF11).mono hF12).mono hF13).mono hF14).mono hF15)) ?_
          rintro _ Fx16 _ wx37 hF16 hx34 ⟨rfl, rfl⟩
          refine r_move rfl rfl rfl (r_extract rfl rfl rfl rfl (r_extract rfl rfl rfl rfl (r_assign rfl rfl rfl (r_assign rfl rfl rfl (r_nil (q_then (c_seq (c_region (r_move rfl rfl rfl ?_)))))))))
          obtain ⟨v20, hv13, hm⟩ := bind_some hm
          refine r_callG0 ent17 rfl rfl rfl rfl hx34 (big_Read_ok _ _ _ hv13 hx34.sat) ?_
          rintro _ Fx17 _ wx38 hF17 hx35 ⟨as14, ns14, cs14, rfl, rfl, hs14⟩
          refine r_move rfl rfl rfl (r_extract rfl rfl rfl rfl (r_extract rfl rfl rfl rfl ?_))
          refine r_alloc ze24 rfl rfl rfl hx35 ?_
          intro b10 wx39 hx36
          refine r_store sz24 rfl hx36 rfl rfl rfl rfl (i := 0) rfl rfl rfl rfl ?_
          intro wx40 hx37
          refine r_assign rfl rfl rfl (r_nil (q_then (c_seq (c_region (r_move rfl rfl rfl ?_)))))
          obtain ⟨v21, hv14, hm⟩ := bind_some hm
          refine r_callG0 ent18 rfl rfl rfl rfl hx37 (ref04_Read_ok _ _ _ hv14 hx37.sat) ?_
          rintro _ Fx18 _ wx41 hF18 hx38 ⟨as15, ns15, cs15, rfl, rfl, hs15⟩
          refine r_move rfl rfl rfl (r_extract rfl rfl rfl rfl (r_extract rfl rfl rfl rfl ?_))
          refine r_alloc ze24 rfl rfl rfl hx38 ?_
          intro b11 wx42 hx39
          refine r_store sz24 rfl hx39 rfl rfl rfl rfl (i := 0) rfl rfl rfl rfl ?_
          intro wx43 hx40
          refine r_assign rfl rfl rfl (r_nil (q_then (c_seq (c_seq (c_region (r_move rfl rfl rfl (r_move rfl rfl rfl ?_)))))))
          refine r_bin rfl rfl rfl rfl rfl ?_
          refine r_move rfl rfl rfl ?_
          obtain ⟨v22, hb10, hm⟩ := bind_some hm
          refine r_mid 5 (fun a w' => ∃ (Fx19 : Frz), Frz.le Fx18 Fx19 ∧ HS F w [] Fx19 [.box b11 24 [.int .i64 v21.1.Sign, .slice as15 ns15 cs15], .box b10 24 [.int .i64 v20.1.Sign, .slice as14 ns14 cs14], .box b9 24 [.int .i64 v10.1.Sign, .slice as9 ns9 cs9], .box b8 24 [.int .i64 v9.1.Sign, .slice as8 ns8 cs8], .box b7 24 [.int .i64 v17.2.1.Sign, .slice as13 ns13 cs13], .box b6 24 [.int .i64 v17.1.Sign, .slice as12 ns12 cs12], .box b5 24 [.int .i64 v16.2.1.Sign, .slice as11 ns11 cs11], .box b4 24 [.int .i64 v16.1.Sign, .slice as10 ns10 cs10], .box b3 24 [.int .i64 b1.Sign, .slice as2 ns2 cs2], .box b2 24 [.int .i64 ax1.Sign, .slice as1 ns1 cs1]] w' ∧ Has 262 a [(2, .int .i64 nx1), (4, .pointer (some ⟨b2, 0, none⟩)), (5, .pointer (some ⟨b3, 0, none⟩)), (9, .bool v1), (12, .pointer (some ⟨b5, 0, none⟩)), (16, .pointer (some ⟨b7, 0, none⟩)), (22, .int .i64 v18.1), (23, .bool v18.2), (24, .int .i64 v19.1), (25, .bool v19.2), (26, .pointer (some ⟨b10, 0, none⟩)), (27, .int .i64 v20.2), (28, .pointer (some ⟨b11, 0, none⟩)), (29, .int .i64 v21.2), (159, .bool v22)]) ?_ ?_
          ·rintro a wx44 ⟨Fx19, hF19, hx41, hax8⟩
           refine rw_apply hax8 ?_
           refine r_move rfl rfl rfl ?_
           obtain ⟨v23, hb11, hm⟩ := bind_some hm
           refine r_mid 5 (fun a w' => ∃ (Fx20 : Frz), Frz.le Fx19 Fx20 ∧ HS F w [] Fx20 [.box b11 24 [.int .i64 v21.1.Sign, .slice as15 ns15 cs15], .box b10 24 [.int .i64 v20.1.Sign, .slice as14 ns14 cs14], .box b9 24 [.int .i64 v10.1.Sign, .slice as9 ns9 cs9], .box b8 24 [.int .i64 v9.1.Sign, .slice as8 ns8 cs8], .box b7 24 [.int .i64 v17.2.1.Sign, .slice as13 ns13 cs13], .box b6 24 [.int .i64 v17.1.Sign, .slice as12 ns12 cs12], .box b5 24 [.int .i64 v16.2.1.Sign, .slice as11 ns11 cs11], .box b4 24 [.int .i64 v16.1.Sign, .slice as10 ns10 cs10], .box b3 24 [.int .i64 b1.Sign, .slice as2 ns2 cs2], .box b2 24 [.int .i64 ax1.Sign, .slice as1 ns1 cs1]] w' ∧ Has 262 a [(2, .int .i64 nx1), (4, .pointer (some ⟨b2, 0, none⟩)), (5, .pointer (some ⟨b3, 0, none⟩)), (9, .bool v1), (22, .int .i64 v18.1), (23, .bool v18.2), (24, .int .i64 v19.1), (25, .bool v19.2), (26, .pointer (some ⟨b10, 0, none⟩)), (27, .int .i64 v20.2), (28, .pointer (some ⟨b11, 0, none⟩)), (29, .int .i64 v21.2), (165, .bool v23)]) ?_ ?_
           ·rintro a wx45 ⟨Fx20, hF20, hx42, hax9⟩
            refine rw_apply hax9 ?_
            refine r_move rfl rfl rfl ?_
            obtain ⟨v24, hb12, hm⟩ := bind_some hm
            refine r_mid 4 (fun a w' => wx45 = w' ∧ Has 262 a [(2, .int .i64 nx1), (4, .pointer (some ⟨b2, 0, none⟩)), (5, .pointer (some ⟨b3, 0, none⟩)), (9, .bool v1), (23, .bool v18.2), (25, .bool v19.2), (26, .pointer (some ⟨b10, 0, none⟩)), (27, .int .i64 v20.2), (28, .pointer (some ⟨b11, 0, none⟩)), (29, .int .i64 v21.2), (170, .bool v24)]) ?_ ?_
            ·rintro a wx46 ⟨rfl, hax10⟩
             refine rw_apply hax10 ?_
             refine r_move rfl rfl rfl ?_
             obtain ⟨v25, hb13, hm⟩ := bind_some hm
             refine r_mid 4 (fun a w' => wx45 = w' ∧ Has 262 a [(2, .int .i64 nx1), (4, .pointer (some ⟨b2, 0, none⟩)), (5, .pointer (some ⟨b3, 0, none⟩)), (9, .bool v1), (26, .pointer (some ⟨b10, 0, none⟩)), (27, .int .i64 v20.2), (28, .pointer (some ⟨b11, 0, none⟩)), (29, .int .i64 v21.2), (175, .bool v25)]) ?_ ?_
             ·rintro a wx47 ⟨rfl, hax11⟩
              refine rw_apply hax11 ?_
              refine r_move rfl rfl rfl ?_
              obtain ⟨v26, hb14, hm⟩ := bind_some hm
              refine r_mid 4 (fun a w' => wx45 = w' ∧ Has 262 a [(2, .int .i64 nx1), (4, .pointer (some ⟨b2, 0, none⟩)), (5, .pointer (some ⟨b3, 0, none⟩)), (9, .bool v1), (26, .pointer (some ⟨b10, 0, none⟩)), (28, .pointer (some ⟨b11, 0, none⟩)), (180, .bool v26)]) ?_ ?_
              ·rintro a wx48 ⟨rfl, hax12⟩
               refine rw_apply hax12 ?_
               refine r_move rfl rfl rfl ?_
               obtain ⟨v27, hb15, hm⟩ := bind_some hm
               refine r_mid 5 (fun a w' => ∃ (Fx21 : Frz), Frz.le Fx20 Fx21 ∧ HS F w [] Fx21 [.box b11 24 [.int .i64 v21.1.Sign, .slice as15 ns15 cs15], .box b10 24 [.int .i64 v20.1.Sign, .slice as14 ns14 cs14], .box b9 24 [.int .i64 v10.1.Sign, .slice as9 ns9 cs9], .box b8 24 [.int .i64 v9.1.Sign, .slice as8 ns8 cs8], .box b7 24 [.int .i64 v17.2.1.Sign, .slice as13 ns13 cs13], .box b6 24 [.int .i64 v17.1.Sign, .slice as12 ns12 cs12], .box b5 24 [.int .i64 v16.2.1.Sign, .slice as11 ns11 cs11], .box b4 24 [.int .i64 v16.1.Sign, .slice as10 ns10 cs10], .box b3 24 [.int .i64 b1.Sign, .slice as2 ns2 cs2], .box b2 24 [.int .i64 ax1.Sign, .slice as1 ns1 cs1]] w' ∧ Has 262 a [(2, .int .i64 nx1), (4, .pointer (some ⟨b2, 0, none⟩)), (5, .pointer (some ⟨b3, 0, none⟩)), (9, .bool v1), (186, .bool v27)]) ?_ ?_
               ·rintro a wx49 ⟨Fx21, hF21, hx43, hax13⟩
                refine rw_apply hax13 ?_
                refine r_nil (q_then ?_)
                rcases cond_some hm with ⟨hb16, hm⟩ | ⟨hb16, hm⟩
                ·refine c_lit 186 rfl hb16 ?_
                 refine c_true rfl (c_seq (c_region (r_assign rfl rfl rfl (r_nil (q_then (c_ret (q_then_ret ?_)))))))
                 refine b_ret1 rfl rfl ?_
                 obtain rfl := Option.some.inj hm
                 exact ⟨_, _, _, rfl, hx43.pick [] (by decide) rfl, rfl, rfl⟩
                ·refine c_lit 186 rfl hb16 ?_
                 refine c_false rfl (c_skip (q_then (c_seq (c_seq (c_region ?_)))))
                 refine r_loadBA (cs' := [.int .i64 ax1.Sign, .slice as1 ns1 cs1]) ag24 sz24 rfl rfl hx43 rfl (i := 9) rfl rfl rfl ?_
                 obtain ⟨v28, hv15, hm⟩ := bind_some hm
                 refine r_callG0 ent5 rfl rfl rfl rfl hx43 (law04_few_ok _ _ _ _ hv15 hx43.sat (((((((((((((((((((((hs1.mono hF1).mono hF2).mono hF3).mono hF4).mono hF5).mono hF6).mono hF7).mono hF8).mono hF9).mono hF10).mono hF11).mono hF12).mono hF13).mono hF14).mono hF15).mono hF16).mono hF17).mono hF18).mono hF19).mono hF20).mono hF21)) ?_
                 rintro _ Fx22 _ wx50 hF22 hx44 ⟨rfl, rfl⟩
                 refine r_move rfl rfl rfl ?_
                 obtain ⟨v29, hb17, hm⟩ := bind_some hm
                 refine r_mid 3 (fun a w' => ∃ (Fx23 : Frz), Frz.le Fx22 Fx23 ∧ HS F w [] Fx23 [.box b11 24 [.int .i64 v21.1.Sign, .slice as15 ns15 cs15], .box b10 24 [.int .i64 v20.1.Sign, .slice as14 ns14 cs14], .box b9 24 [.int .i64 v10.1.Sign, .slice as9 ns9 cs9], .box b8 24 [.int .i64 v9.1.Sign, .slice as8 ns8 cs8], .box b7 24 [.int .i64 v17.2.1.Sign, .slice as13 ns13 cs13], .box b6 24 [.int .i64 v17.1.Sign, .slice as12 ns12 cs12], .box b5 24 [.int .i64 v16.2.1.Sign, .slice as11 ns11 cs11], .box b4 24 [.int .i64 v16.1.Sign, .slice as10 ns10 cs10], .box b3 24 [.int .i64 b1.Sign, .slice as2 ns2 cs2], .box b2 24 [.int .i64 ax1.Sign, .slice as1 ns1 cs1]] w' ∧ Has 262 a [(2, .int .i64 nx1), (4, .pointer (some ⟨b2, 0, none⟩)), (5, .pointer (some ⟨b3, 0, none⟩)), (9, .bool v1), (192, .bool v29)]) ?_ ?_
                 ·rintro a wx51 ⟨Fx23, hF23, hx45, hax14⟩
                  refine rw_apply hax14 ?_
                  refine r_nil (q_then ?_)
                  rcases cond_some hm with ⟨hb18, hm⟩ | ⟨hb18, hm⟩
                  ·refine c_lit 192 rfl hb18 ?_
                   refine c_true rfl (c_seq (c_region ?_))
                   refine r_loadBA (cs' := [.int .i64 ax1.Sign, .slice as1 ns1 cs1]) ag24 sz24 rfl rfl hx45 rfl (i := 9) rfl rfl rfl ?_
                   refine r_loadBA (cs' := [.int .i64 b1.Sign, .slice as2 ns2 cs2]) ag24 sz24 rfl rfl hx45 rfl (i := 8) rfl rfl rfl ?_
                   obtain ⟨v30, hv16, hm⟩ := bind_some hm
                   refine r_callG0 ent19 rfl rfl rfl rfl hx45 (big_Gcd_ok _ _ _ _ hv16 hx45.sat (((((((((((((((((((((((hs1.mono hF1).mono hF2).mono hF3).mono hF4).mono hF5).mono hF6).mono hF7).mono hF8).mono hF9).mono hF10).mono hF11).mono hF12).mono hF13).mono hF14).mono hF15).mono hF16).mono hF17).mono hF18).mono hF19).mono hF20).mono hF21).mono hF22).mono hF23) (((((((((((((((((((((((hs2.mono hF1).mono hF2).mono hF3).mono hF4).mono hF5).mono hF6).mono hF7).mono hF8).mono hF9).mono hF10).mono hF11).mono hF12).mono hF13).mono hF14).mono hF15).mono hF16).mono hF17).mono hF18).mono hF19).mono hF20).mono hF21).mono hF22).mono hF23)) ?_
                   rintro _ Fx24 _ wx52 hF24 hx46 ⟨as16, ns16, cs16, rfl, rfl, hs16⟩
                   refine r_move rfl rfl rfl (r_extract rfl rfl rfl rfl (r_extract rfl rfl rfl rfl ?_))
                   refine r_alloc ze24 rfl rfl rfl hx46 ?_
                   intro b12 wx53 hx47
                   refine r_store sz24 rfl hx47 rfl rfl rfl rfl (i := 0) rfl rfl rfl rfl ?_
                   intro wx54 hx48
                   refine r_assign rfl rfl rfl (r_nil (q_then (c_seq (c_region ?_))))
                   refine r_loadBA (cs' := [.int .i64 ax1.Sign, .slice as1 ns1 cs1]) ag24 sz24 rfl rfl hx48 rfl (i := 10) rfl rfl rfl ?_
                   refine r_loadBA (cs' := [.int .i64 b1.Sign, .slice as2 ns2 cs2]) ag24 sz24 rfl rfl hx48 rfl (i := 9) rfl rfl rfl ?_
                   obtain ⟨v31, hv17, hm⟩ := bind_some hm
                   refine r_callG0 ent20 rfl rfl rfl rfl hx48 (ref04_Gcd_ok _ _ _ _ hv17 hx48.sat ((((((((((((((((((((((((hs1.mono hF1).mono hF2).mono hF3).mono hF4).mono hF5).mono hF6).mono hF7).mono hF8).mono hF9).mono hF10).mono hF11).mono hF12).mono hF13).mono hF14).mono hF15).mono hF16).mono hF17).mono hF18).mono hF19).mono hF20).mono hF21).mono hF22).mono hF23).mono hF24) ((((((((((((((((((((((((hs2.mono hF1).mono hF2).mono hF3).mono hF4).mono hF5).mono hF6).mono hF7).mono hF8).mono hF9).mono hF10).mono hF11).mono hF12).mono hF13).mono hF14).mono hF15).mono hF16).mono hF17).mono hF18).mono hF19).mono hF20).mono hF21).mono hF22).mono hF23).mono hF24)) ?_
                   rintro _ Fx25 _ wx55 hF25 hx49 ⟨as17, ns17, cs17, rfl, rfl, hs17⟩
                   refine r_move rfl rfl rfl (r_extract rfl rfl rfl rfl (r_extract rfl rfl rfl rfl ?_))
                   refine r_alloc ze24 rfl rfl rfl hx49 ?_
                   intro b13 wx56 hx50
                   refine r_store sz24 rfl hx50 rfl rfl rfl rfl (i := 0) rfl rfl rfl rfl ?_
                   intro wx57 hx51
                   refine r_assign rfl rfl rfl (r_nil (q_then (c_seq (c_region (r_move rfl rfl rfl (r_move rfl rfl rfl ?_))))))
                   refine r_bin rfl rfl rfl rfl rfl ?_
                   refine r_move rfl rfl rfl ?_
                   obtain ⟨v32, hb19, hm⟩ := bind_some hm
                   refine r_mid 5 (fun a w' => ∃ (Fx26 : Frz), Frz.le Fx25 Fx26 ∧ HS F w [] Fx26 [.box b13 24 [.int .i64 v31.1.Sign, .slice as17 ns17 cs17], .box b12 24 [.int .i64 v30.1.Sign, .slice as16 ns16 cs16], .box b11 24 [.int .i64 v21.1.Sign, .slice as15 ns15 cs15], .box b10 24 [.int .i64 v20.1.Sign, .slice as14 ns14 cs14], .box b9 24 [.int .i64 v10.1.Sign, .slice as9 ns9 cs9], .box b8 24 [.int .i64 v9.1.Sign, .slice as8 ns8 cs8], .box b7 24 [.int .i64 v17.2.1.Sign, .slice as13 ns13 cs13], .box b6 24 [.int .i64 v17.1.Sign, .slice as12 ns12 cs12], .box b5 24 [.int .i64 v16.2.1.Sign, .slice as11 ns11 cs11], .box b4 24 [.int .i64 v16.1.Sign, .slice as10 ns10 cs10], .box b3 24 [.int .i64 b1.Sign, .slice as2 ns2 cs2], .box b2 24 [.int .i64 ax1.Sign, .slice as1 ns1 cs1]] w' ∧ Has 262 a [(2, .int .i64 nx1), (4, .pointer (some ⟨b2, 0, none⟩)), (5, .pointer (some ⟨b3, 0, none⟩)), (9, .bool v1), (213, .bool v32)]) ?_ ?_
                   ·rintro a wx58 ⟨Fx26, hF26, hx52, hax15⟩
                    refine rw_apply hax15 ?_
                    refine r_nil (q_then ?_)
                    rcases cond_some hm with ⟨hb20, hm⟩ | ⟨hb20, hm⟩
                    ·refine c_lit 213 rfl hb20 ?_
                     refine c_true rfl (c_seq (c_region (r_assign rfl rfl rfl (r_nil (q_then (c_ret (q_then_ret ?_)))))))
                     refine b_ret1 rfl rfl ?_
                     obtain rfl := Option.some.inj hm
                     exact ⟨_, _, _, rfl, hx52.pick [] (by decide) rfl, rfl, rfl⟩
                    ·refine c_lit 213 rfl hb20 ?_
                     refine c_false rfl (c_skip (q_then (c_seq ?_)))
                     refine c_regionD (by kernel_rfl) (by kernel_rfl) hx52 ?_
                     refine q_step (v := .agg #[.int .i64 ax1.Sign, .slice as1 ns1 cs1]) rfl rfl rfl rfl (fun _ hC => ?_) ?_
                     ·obtain ⟨_, hleq, hq⟩ := hC
                      refine r_loadBA (cs' := [.int .i64 ax1.Sign, .slice as1 ns1 cs1]) ag24 sz24 rfl rfl hq rfl (i := 11) rfl rfl rfl (r_nil (qq rfl))
                     obtain ⟨v33, hv18, hm⟩ := bind_some hm
                     refine q_callG0 ent21 rfl rfl rfl rfl (fun _ _ hleq hq => big_Right_ok _ _ _ hv18 hq.sat (((((((((((((((((((((((((((hs1.mono hF1).mono hF2).mono hF3).mono hF4).mono hF5).mono hF6).mono hF7).mono hF8).mono hF9).mono hF10).mono hF11).mono hF12).mono hF13).mono hF14).mono hF15).mono hF16).mono hF17).mono hF18).mono hF19).mono hF20).mono hF21).mono hF22).mono hF23).mono hF24).mono hF25).mono hF26).mono hleq)) ?_
                     refine q_step (v := .agg #[.int .i64 ax1.Sign, .slice as1 ns1 cs1]) rfl rfl rfl rfl (fun _ hC => ?_) ?_
                     ·obtain ⟨_, hleq, hq⟩ := hC
                      refine r_loadBA (cs' := [.int .i64 ax1.Sign, .slice as1 ns1 cs1]) ag24 sz24 rfl rfl hq rfl (i := 11) rfl rfl rfl (r_nil (qq rfl))
                     obtain ⟨v34, hv19, hm⟩ := bind_some hm
                     refine q_callG0 ent22 rfl rfl rfl rfl (fun _ _ hleq hq => ref04_Right_ok _ _ _ hv19 hq.sat (((((((((((((((((((((((((((hs1.mono hF1).mono hF2).mono hF3).mono hF4).mono hF5).mono hF6).mono hF7).mono hF8).mono hF9).mono hF10).mono hF11).mono hF12).mono hF13).mono hF14).mono hF15).mono hF16).mono hF17).mono hF18).mono hF19).mono hF20).mono hF21).mono hF22).mono hF23).mono hF24).mono hF25).mono hF26).mono hleq)) ?_
                     refine q_step (v := .bool (v33 == v34)) rfl rfl rfl rfl (fun _ hC => ?_) ?_
                     ·obtain ⟨_, hleq, hq⟩ := hC
                      refine r_beq u4 rfl rfl rfl rfl (r_nil (qq rfl))
                     refine q_step (v := .bool (v33 == v34)) rfl rfl rfl rfl (fun _ hC => ?_) ?_
                     ·obtain ⟨_, hleq, hq⟩ := hC
                      refine r_move rfl rfl rfl (r_nil (qq rfl))
                     obtain ⟨v35, hb21, hm⟩ := bind_some hm
                     refine q_mid 8 (fun a => Has 262 a [(2, .int .i64 nx1), (4, .pointer (some ⟨b2, 0, none⟩)), (5, .pointer (some ⟨b3, 0, none⟩)), (9, .bool v1), (227, .bool v35)]) ?_ ?_
                     ·intro a hax16
                      refine qr_apply hax16 ?_
                      refine q_step (v := .bool v35) rfl rfl rfl rfl (fun _ hC => ?_) ?_
                      ·obtain ⟨_, hleq, hq⟩ := hC
                       refine r_move rfl rfl rfl (r_nil (qq rfl))
                      obtain ⟨v36, hb22, hm⟩ := bind_some hm
                      refine q_mid 8 (fun a => Has 262 a [(2, .int .i64 nx1), (4, .pointer (some ⟨b2, 0, none⟩)), (9, .bool v1), (236, .bool v36)]) ?_ ?_
                      ·intro a hax17
                       refine qr_apply hax17 ?_
                       refine q_step (v := .bool v36) rfl rfl rfl rfl (fun _ hC => ?_) ?_
                       ·obtain ⟨_, hleq, hq⟩ := hC
                        refine r_move rfl rfl rfl (r_nil (qq rfl))
                       obtain ⟨v37, hb23, hm⟩ := bind_some hm
                       refine q_mid 6 (fun a => Has 262 a [(2, .int .i64 nx1), (4, .pointer (some ⟨b2, 0, none⟩)), (9, .bool v1), (243, .bool v37)]) ?_ ?_
                       ·intro a hax18
                        refine qr_apply hax18 ?_
                        refine q_step (v := .bool v37) rfl rfl rfl rfl (fun _ hC => ?_) ?_
                        ·obtain ⟨_, hleq, hq⟩ := hC
                         refine r_assign rfl rfl rfl (r_nil (qq rfl))
                        refine q_end ?_
                        rintro wx62 ⟨Fx27, hF27, hx53⟩
                        refine q_then (c_seq ?_)
                        refine c_regionH (SH Fx27 [.box b13 24 [.int .i64 v31.1.Sign, .slice as17 ns17 cs17], .box b12 24 [.int .i64 v30.1.Sign, .slice as16 ns16 cs16], .box b11 24 [.int .i64 v21.1.Sign, .slice as15 ns15 cs15], .box b10 24 [.int .i64 v20.1.Sign, .slice as14 ns14 cs14], .box b9 24 [.int .i64 v10.1.Sign, .slice as9 ns9 cs9], .box b8 24 [.int .i64 v9.1.Sign, .slice as8 ns8 cs8], .box b7 24 [.int .i64 v17.2.1.Sign, .slice as13 ns13 cs13], .box b6 24 [.int .i64 v17.1.Sign, .slice as12 ns12 cs12], .box b5 24 [.int .i64 v16.2.1.Sign, .slice as11 ns11 cs11], .box b4 24 [.int .i64 v16.1.Sign, .slice as10 ns10 cs10], .box b3 24 [.int .i64 b1.Sign, .slice as2 ns2 cs2], .box b2 24 [.int .i64 ax1.Sign, .slice as1 ns1 cs1]]) 19 rfl (by kernel_rfl) hx53 ?_
                        intro wx63 hx54
                        refine d_take 0 (v := .bool v1) rfl (by kernel_rfl) (by kernel_rfl) (by kernel_rfl) rfl rfl rfl rfl (hx54.sh (Frz.refl _) [0, 1, 2, 3, 4, 5, 6, 7, 8, 9, 10, 11] (by decide) rfl) (fun _ hC => ?_) ?_
                        ·obtain ⟨_, _, hleq, hq⟩ := hC
                         refine r_move rfl rfl rfl (r_nil (qq rfl))
                        refine d_take 1 (v := .bool v1) rfl (by kernel_rfl) (by kernel_rfl) (by kernel_rfl) rfl rfl rfl rfl (hx54.sh (Frz.refl _) [0, 1, 2, 3, 4, 5, 6, 7, 8, 9, 10, 11] (by decide) rfl) (fun _ hC => ?_) ?_
                        ·obtain ⟨_, _, hleq, hq⟩ := hC
                         refine r_move rfl rfl rfl (r_nil (qq rfl))
                        obtain ⟨v38, hb24, hm⟩ := bind_some hm
                        refine d_mid (fuel' := 15) (listed' := #[true, true, true, true, false, false, false, false, false, false, false, false, false, false, false, false, false, false, false]) (fun a w' => wx63 = w' ∧ Has 262 a [(2, .int .i64 nx1), (4, .pointer (some ⟨b2, 0, none⟩)), (247, .bool v38)]) ?_ (fun hK1 => ?_)
                        ·rintro a wx64 ⟨rfl, hax19⟩
                         refine dw_apply hax19 ?_
                         refine d_take 4 (v := .bool v38) rfl (by kernel_rfl) (by kernel_rfl) (by kernel_rfl) rfl rfl rfl rfl (hx54.sh (Frz.refl _) [0, 1, 2, 3, 4, 5, 6, 7, 8, 9, 10, 11] (by decide) rfl) (fun _ hC => ?_) ?_
                         ·obtain ⟨_, _, hleq, hq⟩ := hC
                          refine r_move rfl rfl rfl (r_nil (qq rfl))
                         obtain ⟨v39, hb25, hm⟩ := bind_some hm
                         refine d_mid (fuel' := 8) (listed' := #[true, true, true, true, true, true, true, true, true, true, true, false, false, false, false, false, false, false, false]) (fun a w' => ∃ (Fx28 : Frz), Frz.le Fx27 Fx28 ∧ HS F w [] Fx28 [.box b13 24 [.int .i64 v31.1.Sign, .slice as17 ns17 cs17], .box b12 24 [.int .i64 v30.1.Sign, .slice as16 ns16 cs16], .box b11 24 [.int .i64 v21.1.Sign, .slice as15 ns15 cs15], .box b10 24 [.int .i64 v20.1.Sign, .slice as14 ns14 cs14], .box b9 24 [.int .i64 v10.1.Sign, .slice as9 ns9 cs9], .box b8 24 [.int .i64 v9.1.Sign, .slice as8 ns8 cs8], .box b7 24 [.int .i64 v17.2.1.Sign, .slice as13 ns13 cs13], .box b6 24 [.int .i64 v17.1.Sign, .slice as12 ns12 cs12], .box b5 24 [.int .i64 v16.2.1.Sign, .slice as11 ns11 cs11], .box b4 24 [.int .i64 v16.1.Sign, .slice as10 ns10 cs10], .box b3 24 [.int .i64 b1.Sign, .slice as2 ns2 cs2], .box b2 24 [.int .i64 ax1.Sign, .slice as1 ns1 cs1]] w' ∧ Has 262 a [(2, .int .i64 nx1), (254, .bool v39)]) ?_ (fun hK2 => ?_)
                         ·rintro a wx65 ⟨Fx28, hF28, hx55, hax20⟩
                          refine dw_apply hax20 ?_
                          refine d_take 11 (v := .bool v39) rfl (by kernel_rfl) (by kernel_rfl) (by kernel_rfl) rfl rfl rfl rfl (hx55.sh hF28 [0, 1, 2, 3, 4, 5, 6, 7, 8, 9, 10, 11] (by decide) rfl) (fun _ hC => ?_) ?_
                          ·obtain ⟨_, _, hleq, hq⟩ := hC
                           refine r_move rfl rfl rfl (r_nil (qq rfl))
                          obtain ⟨v40, hb26, hm⟩ := bind_some hm
                          refine d_mid (fuel' := 1) (listed' := #[true, true, true, true, true, true, true, true, true, true, true, true, true, true, true, true, true, true, false]) (fun a w' => ∃ (Fx29 : Frz), Frz.le Fx28 Fx29 ∧ HS F w [] Fx29 [.box b13 24 [.int .i64 v31.1.Sign, .slice as17 ns17 cs17], .box b12 24 [.int .i64 v30.1.Sign, .slice as16 ns16 cs16], .box b11 24 [.int .i64 v21.1.Sign, .slice as15 ns15 cs15], .box b10 24 [.int .i64 v20.1.Sign, .slice as14 ns14 cs14], .box b9 24 [.int .i64 v10.1.Sign, .slice as9 ns9 cs9], .box b8 24 [.int .i64 v9.1.Sign, .slice as8 ns8 cs8], .box b7 24 [.int .i64 v17.2.1.Sign, .slice as13 ns13 cs13], .box b6 24 [.int .i64 v17.1.Sign, .slice as12 ns12 cs12], .box b5 24 [.int .i64 v16.2.1.Sign, .slice as11 ns11 cs11], .box b4 24 [.int .i64 v16.1.Sign, .slice as10 ns10 cs10], .box b3 24 [.int .i64 b1.Sign, .slice as2 ns2 cs2], .box b2 24 [.int .i64 ax1.Sign, .slice as1 ns1 cs1]] w' ∧ Has 262 a [(261, .bool v40)]) ?_ (fun hK3 => ?_)
                          ·rintro a wx66 ⟨Fx29, hF29, hx56, hax21⟩
                           refine dw_apply hax21 ?_
                           refine d_take 18 (v := .bool v40) rfl (by kernel_rfl) (by kernel_rfl) (by kernel_rfl) rfl rfl rfl rfl (hx56.sh (hF28.trans hF29) [0, 1, 2, 3, 4, 5, 6, 7, 8, 9, 10, 11] (by decide) rfl) (fun _ hC => ?_) ?_
                           ·obtain ⟨_, _, hleq, hq⟩ := hC
                            refine r_assign rfl rfl rfl (r_nil (qq rfl))
                           refine d_done (by kernel_rfl) ?_
                           refine q_then (c_ret ?_)
                           refine b_ret1 rfl rfl ?_
                           obtain rfl := Option.some.inj hm
                           exact ⟨_, _, _, rfl, hx56.pick [] (by decide) rfl, rfl, rfl⟩
                          ·clear hm
                           rcases cond_some hb26 with ⟨hb27, hb26⟩ | ⟨hb27, hb26⟩
                           ·refine d_lit 255 rfl hb27 ?_
                            refine d_take 12 (v := .int .i64 nx1) rfl (by kernel_rfl) (by kernel_rfl) (by kernel_rfl) rfl rfl rfl rfl (hx55.sh hF28 [0, 1, 2, 3, 4, 5, 6, 7, 8, 9, 10, 11] (by decide) rfl) (fun _ hC => ?_) ?_
                            ·obtain ⟨_, _, hleq, hq⟩ := hC
                             refine r_move rfl rfl rfl (r_nil (qq rfl))
                            refine d_take 14 (v := .int .i64 nx1) rfl (by kernel_rfl) (by kernel_rfl) (by kernel_rfl) rfl rfl rfl rfl (hx55.sh hF28 [0, 1, 2, 3, 4, 5, 6, 7, 8, 9, 10, 11] (by decide) rfl) (fun _ hC => ?_) ?_
                            ·obtain ⟨_, _, hleq, hq⟩ := hC
                             refine r_move rfl rfl rfl (r_nil (qq rfl))
                            refine d_step 13 rfl (by kernel_rfl) ?_
                            obtain ⟨v41, hv20, hb26⟩ := bind_some hb26
                            refine r_callG0 ent30 rfl rfl rfl rfl hx55 (big_Of_ok _ _ _ hv20 hx55.sat) ?_
                            rintro _ Fx30 _ wx67 hF30 hx57 ⟨as18, ns18, cs18, rfl, rfl, hs18⟩
                            refine d_next (hx57.sh (hF28.trans hF30) [0, 1, 2, 3, 4, 5, 6, 7, 8, 9, 10, 11] (by decide) rfl) ?_
                            refine d_step 15 rfl (by kernel_rfl) ?_
                            obtain ⟨v42, hv21, hb26⟩ := bind_some hb26
                            refine r_callG0 ent31 rfl rfl rfl rfl hx57 (ref04_Of_ok _ _ _ hv21 hx57.sat) ?_
                            rintro _ Fx31 _ wx68 hF31 hx58 ⟨as19, ns19, cs19, rfl, rfl, hs19⟩
                            refine d_next (hx58.sh ((hF28.trans hF30).trans hF31) [0, 1, 2, 3, 4, 5, 6, 7, 8, 9, 10, 11] (by decide) rfl) ?_
                            refine d_step 16 rfl (by kernel_rfl) ?_
                            obtain ⟨v43, hv22, hb26⟩ := bind_some hb26
                            refine r_callG0 ent12 rfl rfl rfl rfl hx58 (ref04_Same_ok _ _ _ _ hv22 hx58.sat (hs18.mono hF31) hs19) ?_
                            rintro _ Fx32 _ wx69 hF32 hx59 ⟨rfl, rfl⟩
                            refine d_next (hx59.sh (((hF28.trans hF30).trans hF31).trans hF32) [0, 1, 2, 3, 4, 5, 6, 7, 8, 9, 10, 11] (by decide) rfl) ?_
                            refine d_take 17 (v := .bool v43) rfl (by kernel_rfl) (by kernel_rfl) (by kernel_rfl) rfl rfl rfl rfl (hx59.sh (((hF28.trans hF30).trans hF31).trans hF32) [0, 1, 2, 3, 4, 5, 6, 7, 8, 9, 10, 11] (by decide) rfl) (fun _ hC => ?_) ?_
                            ·obtain ⟨_, _, hleq, hq⟩ := hC
                             refine r_pick_true rfl rfl rfl rfl (r_nil (qq rfl))
                            refine d_fin hK3 (by kernel_rfl) (fun a ha => ?_)
                            cases hb26
                            exact ⟨_, ((hF30.trans hF31).trans hF32), hx59.pick [0, 1, 2, 3, 4, 5, 6, 7, 8, 9, 10, 11] (by decide) rfl, ha.cut (l := [261]) rfl⟩
                           ·refine d_lit 255 rfl hb27 ?_
                            refine d_off 12 rfl (by kernel_rfl) (by kernel_rfl) (by kernel_rfl) rfl rfl rfl (hx55.sh hF28 [0, 1, 2, 3, 4, 5, 6, 7, 8, 9, 10, 11] (by decide) rfl) ?_
                            refine d_off 13 rfl (by kernel_rfl) (by kernel_rfl) (by kernel_rfl) rfl rfl rfl (hx55.sh hF28 [0, 1, 2, 3, 4, 5, 6, 7, 8, 9, 10, 11] (by decide) rfl) ?_
                            refine d_off 14 rfl (by kernel_rfl) (by kernel_rfl) (by kernel_rfl) rfl rfl rfl (hx55.sh hF28 [0, 1, 2, 3, 4, 5, 6, 7, 8, 9, 10, 11] (by decide) rfl) ?_
                            refine d_off 15 rfl (by kernel_rfl) (by kernel_rfl) (by kernel_rfl) rfl rfl rfl (hx55.sh hF28 [0, 1, 2, 3, 4, 5, 6, 7, 8, 9, 10, 11] (by decide) rfl) ?_
                            refine d_off 16 rfl (by kernel_rfl) (by kernel_rfl) (by kernel_rfl) rfl rfl rfl (hx55.sh hF28 [0, 1, 2, 3, 4, 5, 6, 7, 8, 9, 10, 11] (by decide) rfl) ?_
                            refine d_take 17 (v := .bool false) rfl (by kernel_rfl) (by kernel_rfl) (by kernel_rfl) rfl rfl rfl rfl (hx55.sh hF28 [0, 1, 2, 3, 4, 5, 6, 7, 8, 9, 10, 11] (by decide) rfl) (fun _ hC => ?_) ?_
                            ·obtain ⟨_, _, hleq, hq⟩ := hC
                             refine r_pick_false rfl rfl rfl rfl (r_nil (qq rfl))
                            refine d_fin hK3 (by kernel_rfl) (fun a ha => ?_)
                            cases hb26
                            exact ⟨_, Frz.refl _, hx55.pick [0, 1, 2, 3, 4, 5, 6, 7, 8, 9, 10, 11] (by decide) rfl, ha.cut (l := [261]) rfl⟩
                         ·clear hm
                          rcases cond_some hb25 with ⟨hb28, hb25⟩ | ⟨hb28, hb25⟩
                          ·refine d_lit 248 rfl hb28 ?_
                           refine d_take 5 (v := .agg #[.int .i64 ax1.Sign, .slice as1 ns1 cs1]) rfl (by kernel_rfl) (by kernel_rfl) (by kernel_rfl) rfl rfl rfl rfl (hx54.sh (Frz.refl _) [0, 1, 2, 3, 4, 5, 6, 7, 8, 9, 10, 11] (by decide) rfl) (fun _ hC => ?_) ?_
                           ·obtain ⟨_, _, hleq, hq⟩ := hC
                            refine r_loadBA (cs' := [.int .i64 ax1.Sign, .slice as1 ns1 cs1]) ag24 sz24 rfl rfl hq rfl (i := 11) rfl rfl rfl (r_nil (qq rfl))
                           refine d_take 7 (v := .agg #[.int .i64 ax1.Sign, .slice as1 ns1 cs1]) rfl (by kernel_rfl) (by kernel_rfl) (by kernel_rfl) rfl rfl rfl rfl (hx54.sh (Frz.refl _) [0, 1, 2, 3, 4, 5, 6, 7, 8, 9, 10, 11] (by decide) rfl) (fun _ hC => ?_) ?_
                           ·obtain ⟨_, _, hleq, hq⟩ := hC
                            refine r_loadBA (cs' := [.int .i64 ax1.Sign, .slice as1 ns1 cs1]) ag24 sz24 rfl rfl hq rfl (i := 11) rfl rfl rfl (r_nil (qq rfl))
                           refine d_step 6 rfl (by kernel_rfl) ?_
                           obtain ⟨v44, hv23, hb25⟩ := bind_some hb25
                           refine r_callG0 ent28 rfl rfl rfl rfl hx54 (big_Neg_ok _ _ _ hv23 hx54.sat (((((((((((((((((((((((((((hs1.mono hF1).mono hF2).mono hF3).mono hF4).mono hF5).mono hF6).mono hF7).mono hF8).mono hF9).mono hF10).mono hF11).mono hF12).mono hF13).mono hF14).mono hF15).mono hF16).mono hF17).mono hF18).mono hF19).mono hF20).mono hF21).mono hF22).mono hF23).mono hF24).mono hF25).mono hF26).mono hF27)) ?_
                           rintro _ Fx33 _ wx70 hF33 hx60 ⟨as20, ns20, cs20, rfl, rfl, hs20⟩
                           refine d_next (hx60.sh hF33 [0, 1, 2, 3, 4, 5, 6, 7, 8, 9, 10, 11] (by decide) rfl) ?_
                           refine d_step 8 rfl (by kernel_rfl) ?_
                           obtain ⟨v45, hv24, hb25⟩ := bind_some hb25
                           refine r_callG0 ent29 rfl rfl rfl rfl hx60 (ref04_Neg_ok _ _ _ hv24 hx60.sat ((((((((((((((((((((((((((((hs1.mono hF1).mono hF2).mono hF3).mono hF4).mono hF5).mono hF6).mono hF7).mono hF8).mono hF9).mono hF10).mono hF11).mono hF12).mono hF13).mono hF14).mono hF15).mono hF16).mono hF17).mono hF18).mono hF19).mono hF20).mono hF21).mono hF22).mono hF23).mono hF24).mono hF25).mono hF26).mono hF27).mono hF33)) ?_
                           rintro _ Fx34 _ wx71 hF34 hx61 ⟨as21, ns21, cs21, rfl, rfl, hs21⟩
                           refine d_next (hx61.sh (hF33.trans hF34) [0, 1, 2, 3, 4, 5, 6, 7, 8, 9, 10, 11] (by decide) rfl) ?_
                           refine d_step 9 rfl (by kernel_rfl) ?_
                           obtain ⟨v46, hv25, hb25⟩ := bind_some hb25
                           refine r_callG0 ent12 rfl rfl rfl rfl hx61 (ref04_Same_ok _ _ _ _ hv25 hx61.sat (hs20.mono hF34) hs21) ?_
                           rintro _ Fx35 _ wx72 hF35 hx62 ⟨rfl, rfl⟩
                           refine d_next (hx62.sh ((hF33.trans hF34).trans hF35) [0, 1, 2, 3, 4, 5, 6, 7, 8, 9, 10, 11] (by decide) rfl) ?_
                           refine d_take 10 (v := .bool v46) rfl (by kernel_rfl) (by kernel_rfl) (by kernel_rfl) rfl rfl rfl rfl (hx62.sh ((hF33.trans hF34).trans hF35) [0, 1, 2, 3, 4, 5, 6, 7, 8, 9, 10, 11] (by decide) rfl) (fun _ hC => ?_) ?_
                           ·obtain ⟨_, _, hleq, hq⟩ := hC
                            refine r_pick_true rfl rfl rfl rfl (r_nil (qq rfl))
                           refine d_fin hK2 (by kernel_rfl) (fun a ha => ?_)
                           cases hb25
                           exact ⟨_, ((hF33.trans hF34).trans hF35), hx62.pick [0, 1, 2, 3, 4, 5, 6, 7, 8, 9, 10, 11] (by decide) rfl, ha.cut (l := [2, 254]) rfl⟩
                          ·refine d_lit 248 rfl hb28 ?_
                           refine d_off 5 rfl (by kernel_rfl) (by kernel_rfl) (by kernel_rfl) rfl rfl rfl (hx54.sh (Frz.refl _) [0, 1, 2, 3, 4, 5, 6, 7, 8, 9, 10, 11] (by decide) rfl) ?_
                           refine d_off 6 rfl (by kernel_rfl) (by kernel_rfl) (by kernel_rfl) rfl rfl rfl (hx54.sh (Frz.refl _) [0, 1, 2, 3, 4, 5, 6, 7, 8, 9, 10, 11] (by decide) rfl) ?_
                           refine d_off 7 rfl (by kernel_rfl) (by kernel_rfl) (by kernel_rfl) rfl rfl rfl (hx54.sh (Frz.refl _) [0, 1, 2, 3, 4, 5, 6, 7, 8, 9, 10, 11] (by decide) rfl) ?_
                           refine d_off 8 rfl (by kernel_rfl) (by kernel_rfl) (by kernel_rfl) rfl rfl rfl (hx54.sh (Frz.refl _) [0, 1, 2, 3, 4, 5, 6, 7, 8, 9, 10, 11] (by decide) rfl) ?_
                           refine d_off 9 rfl (by kernel_rfl) (by kernel_rfl) (by kernel_rfl) rfl rfl rfl (hx54.sh (Frz.refl _) [0, 1, 2, 3, 4, 5, 6, 7, 8, 9, 10, 11] (by decide) rfl) ?_
                           refine d_take 10 (v := .bool false) rfl (by kernel_rfl) (by kernel_rfl) (by kernel_rfl) rfl rfl rfl rfl (hx54.sh (Frz.refl _) [0, 1, 2, 3, 4, 5, 6, 7, 8, 9, 10, 11] (by decide) rfl) (fun _ hC => ?_) ?_
                           ·obtain ⟨_, _, hleq, hq⟩ := hC
                            refine r_pick_false rfl rfl rfl rfl (r_nil (qq rfl))
                           refine d_fin hK2 (by kernel_rfl) (fun a ha => ?_)
                           cases hb25
                           exact ⟨_, Frz.refl _, hx54.pick [0, 1, 2, 3, 4, 5, 6, 7, 8, 9, 10, 11] (by decide) rfl, ha.cut (l := [2, 254]) rfl⟩
                        ·clear hm
                         rcases cond_some hb24 with ⟨hb29, hb24⟩ | ⟨hb29, hb24⟩
                         ·refine d_lit 245 rfl hb29 ?_
                          refine d_take 2 (v := .bool v37) rfl (by kernel_rfl) (by kernel_rfl) (by kernel_rfl) rfl rfl rfl rfl (hx54.sh (Frz.refl _) [0, 1, 2, 3, 4, 5, 6, 7, 8, 9, 10, 11] (by decide) rfl) (fun _ hC => ?_) ?_
                          ·obtain ⟨_, _, hleq, hq⟩ := hC
                           refine r_move rfl rfl rfl (r_nil (qq rfl))
                          refine d_take 3 (v := .bool v37) rfl (by kernel_rfl) (by kernel_rfl) (by kernel_rfl) rfl rfl rfl rfl (hx54.sh (Frz.refl _) [0, 1, 2, 3, 4, 5, 6, 7, 8, 9, 10, 11] (by decide) rfl) (fun _ hC => ?_) ?_
                          ·obtain ⟨_, _, hleq, hq⟩ := hC
                           refine r_pick_true rfl rfl rfl rfl (r_nil (qq rfl))
                          refine d_fin hK1 (by kernel_rfl) (fun a ha => ?_)
                          cases hb24
                          exact ⟨rfl, ha.cut (l := [2, 4, 247]) rfl⟩
                         ·refine d_lit 245 rfl hb29 ?_
                          refine d_off 2 rfl (by kernel_rfl) (by kernel_rfl) (by kernel_rfl) rfl rfl rfl (hx54.sh (Frz.refl _) [0, 1, 2, 3, 4, 5, 6, 7, 8, 9, 10, 11] (by decide) rfl) ?_
                          refine d_take 3 (v := .bool false) rfl (by kernel_rfl) (by kernel_rfl) (by kernel_rfl) rfl rfl rfl rfl (hx54.sh (Frz.refl _) [0, 1, 2, 3, 4, 5, 6, 7, 8, 9, 10, 11] (by decide) rfl) (fun _ hC => ?_) ?_
                          ·obtain ⟨_, _, hleq, hq⟩ := hC
                           refine r_pick_false rfl rfl rfl rfl (r_nil (qq rfl))
                          refine d_fin hK1 (by kernel_rfl) (fun a ha => ?_)
                          cases hb24
                          exact ⟨rfl, ha.cut (l := [2, 4, 247]) rfl⟩
                       ·clear hm
                        rcases cond_some hb23 with ⟨hb30, hb23⟩ | ⟨hb30, hb23⟩
                        ·refine q_lit 237 rfl hb30 ?_
                         refine q_step (v := .agg #[.int .i64 ax1.Sign, .slice as1 ns1 cs1]) rfl rfl rfl rfl (fun _ hC => ?_) ?_
                         ·obtain ⟨_, hleq, hq⟩ := hC
                          refine r_loadBA (cs' := [.int .i64 ax1.Sign, .slice as1 ns1 cs1]) ag24 sz24 rfl rfl hq rfl (i := 11) rfl rfl rfl (r_nil (qq rfl))
                         obtain ⟨v47, hv26, hb23⟩ := bind_some hb23
                         refine q_callG0 ent26 rfl rfl rfl rfl (fun _ _ hleq hq => big_Text_ok _ _ _ hv26 hq.sat (((((((((((((((((((((((((((hs1.mono hF1).mono hF2).mono hF3).mono hF4).mono hF5).mono hF6).mono hF7).mono hF8).mono hF9).mono hF10).mono hF11).mono hF12).mono hF13).mono hF14).mono hF15).mono hF16).mono hF17).mono hF18).mono hF19).mono hF20).mono hF21).mono hF22).mono hF23).mono hF24).mono hF25).mono hF26).mono hleq) (((((((((((((((((((((((((((hg2.mono hF1).mono hF2).mono hF3).mono hF4).mono hF5).mono hF6).mono hF7).mono hF8).mono hF9).mono hF10).mono hF11).mono hF12).mono hF13).mono hF14).mono hF15).mono hF16).mono hF17).mono hF18).mono hF19).mono hF20).mono hF21).mono hF22).mono hF23).mono hF24).mono hF25).mono hF26).mono hleq)) ?_
                         refine q_step (v := .agg #[.int .i64 ax1.Sign, .slice as1 ns1 cs1]) rfl rfl rfl rfl (fun _ hC => ?_) ?_
                         ·obtain ⟨_, hleq, hq⟩ := hC
                          refine r_loadBA (cs' := [.int .i64 ax1.Sign, .slice as1 ns1 cs1]) ag24 sz24 rfl rfl hq rfl (i := 11) rfl rfl rfl (r_nil (qq rfl))
                         obtain ⟨v48, hv27, hb23⟩ := bind_some hb23
                         refine q_callG0 ent27 rfl rfl rfl rfl (fun _ _ hleq hq => ref04_Text_ok _ _ _ hv27 hq.sat (((((((((((((((((((((((((((hs1.mono hF1).mono hF2).mono hF3).mono hF4).mono hF5).mono hF6).mono hF7).mono hF8).mono hF9).mono hF10).mono hF11).mono hF12).mono hF13).mono hF14).mono hF15).mono hF16).mono hF17).mono hF18).mono hF19).mono hF20).mono hF21).mono hF22).mono hF23).mono hF24).mono hF25).mono hF26).mono hleq)) ?_
                         refine q_step (v := .bool (v47 == v48)) rfl rfl rfl rfl (fun _ hC => ?_) ?_
                         ·obtain ⟨_, hleq, hq⟩ := hC
                          refine r_str rfl rfl rfl rfl rfl (r_nil (qq rfl))
                         refine q_step (v := .bool (v47 == v48)) rfl rfl rfl rfl (fun _ hC => ?_) ?_
                         ·obtain ⟨_, hleq, hq⟩ := hC
                          refine r_pick_true rfl rfl rfl rfl (r_nil (qq rfl))
                         refine q_nil (fun a ha => ?_)
                         cases hb23
                         exact ha.cut (l := [2, 4, 9, 243]) rfl
                        ·refine q_lit 237 rfl hb30 ?_
                         refine q_off rfl rfl rfl (q_off rfl rfl rfl (q_off rfl rfl rfl (q_off rfl rfl rfl (q_off rfl rfl rfl ?_))))
                         refine q_step (v := .bool false) rfl rfl rfl rfl (fun _ hC => ?_) ?_
                         ·obtain ⟨_, hleq, hq⟩ := hC
                          refine r_pick_false rfl rfl rfl rfl (r_nil (qq rfl))
                         refine q_nil (fun a ha => ?_)
                         cases hb23
                         exact ha.cut (l := [2, 4, 9, 243]) rfl
                      ·clear hm
                       rcases cond_some hb22 with ⟨hb31, hb22⟩ | ⟨hb31, hb22⟩
                       ·refine q_lit 228 rfl hb31 ?_
                        refine q_step (v := .agg #[.int .i64 ax1.Sign, .slice as1 ns1 cs1]) rfl rfl rfl rfl (fun _ hC => ?_) ?_
                        ·obtain ⟨_, hleq, hq⟩ := hC
                         refine r_loadBA (cs' := [.int .i64 ax1.Sign, .slice as1 ns1 cs1]) ag24 sz24 rfl rfl hq rfl (i := 11) rfl rfl rfl (r_nil (qq rfl))
                        refine q_step (v := .agg #[.int .i64 b1.Sign, .slice as2 ns2 cs2]) rfl rfl rfl rfl (fun _ hC => ?_) ?_
                        ·obtain ⟨_, hleq, hq⟩ := hC
                         refine r_loadBA (cs' := [.int .i64 b1.Sign, .slice as2 ns2 cs2]) ag24 sz24 rfl rfl hq rfl (i := 10) rfl rfl rfl (r_nil (qq rfl))
                        obtain ⟨v49, hv28, hb22⟩ := bind_some hb22
                        refine q_callG0 ent25 rfl rfl rfl rfl (fun _ _ hleq hq => big_Same_ok _ _ _ _ hv28 hq.sat (((((((((((((((((((((((((((hs1.mono hF1).mono hF2).mono hF3).mono hF4).mono hF5).mono hF6).mono hF7).mono hF8).mono hF9).mono hF10).mono hF11).mono hF12).mono hF13).mono hF14).mono hF15).mono hF16).mono hF17).mono hF18).mono hF19).mono hF20).mono hF21).mono hF22).mono hF23).mono hF24).mono hF25).mono hF26).mono hleq) (((((((((((((((((((((((((((hs2.mono hF1).mono hF2).mono hF3).mono hF4).mono hF5).mono hF6).mono hF7).mono hF8).mono hF9).mono hF10).mono hF11).mono hF12).mono hF13).mono hF14).mono hF15).mono hF16).mono hF17).mono hF18).mono hF19).mono hF20).mono hF21).mono hF22).mono hF23).mono hF24).mono hF25).mono hF26).mono hleq)) ?_
                        refine q_step (v := .agg #[.int .i64 ax1.Sign, .slice as1 ns1 cs1]) rfl rfl rfl rfl (fun _ hC => ?_) ?_
                        ·obtain ⟨_, hleq, hq⟩ := hC
                         refine r_loadBA (cs' := [.int .i64 ax1.Sign, .slice as1 ns1 cs1]) ag24 sz24 rfl rfl hq rfl (i := 11) rfl rfl rfl (r_nil (qq rfl))
                        refine q_step (v := .agg #[.int .i64 b1.Sign, .slice as2 ns2 cs2]) rfl rfl rfl rfl (fun _ hC => ?_) ?_
                        ·obtain ⟨_, hleq, hq⟩ := hC
                         refine r_loadBA (cs' := [.int .i64 b1.Sign, .slice as2 ns2 cs2]) ag24 sz24 rfl rfl hq rfl (i := 10) rfl rfl rfl (r_nil (qq rfl))
                        obtain ⟨v50, hv29, hb22⟩ := bind_some hb22
                        refine q_callG0 ent12 rfl rfl rfl rfl (fun _ _ hleq hq => ref04_Same_ok _ _ _ _ hv29 hq.sat (((((((((((((((((((((((((((hs1.mono hF1).mono hF2).mono hF3).mono hF4).mono hF5).mono hF6).mono hF7).mono hF8).mono hF9).mono hF10).mono hF11).mono hF12).mono hF13).mono hF14).mono hF15).mono hF16).mono hF17).mono hF18).mono hF19).mono hF20).mono hF21).mono hF22).mono hF23).mono hF24).mono hF25).mono hF26).mono hleq) (((((((((((((((((((((((((((hs2.mono hF1).mono hF2).mono hF3).mono hF4).mono hF5).mono hF6).mono hF7).mono hF8).mono hF9).mono hF10).mono hF11).mono hF12).mono hF13).mono hF14).mono hF15).mono hF16).mono hF17).mono hF18).mono hF19).mono hF20).mono hF21).mono hF22).mono hF23).mono hF24).mono hF25).mono hF26).mono hleq)) ?_
                        refine q_step (v := .bool (v49 == v50)) rfl rfl rfl rfl (fun _ hC => ?_) ?_
                        ·obtain ⟨_, hleq, hq⟩ := hC
                         refine r_beq u4 rfl rfl rfl rfl (r_nil (qq rfl))
                        refine q_step (v := .bool (v49 == v50)) rfl rfl rfl rfl (fun _ hC => ?_) ?_
                        ·obtain ⟨_, hleq, hq⟩ := hC
                         refine r_pick_true rfl rfl rfl rfl (r_nil (qq rfl))
                        refine q_nil (fun a ha => ?_)
                        cases hb22
                        exact ha.cut (l := [2, 4, 9, 236]) rfl
                       ·refine q_lit 228 rfl hb31 ?_
                        refine q_off rfl rfl rfl (q_off rfl rfl rfl (q_off rfl rfl rfl (q_off rfl rfl rfl (q_off rfl rfl rfl (q_off rfl rfl rfl (q_off rfl rfl rfl ?_))))))
                        refine q_step (v := .bool false) rfl rfl rfl rfl (fun _ hC => ?_) ?_
                        ·obtain ⟨_, hleq, hq⟩ := hC
                         refine r_pick_false rfl rfl rfl rfl (r_nil (qq rfl))
                        refine q_nil (fun a ha => ?_)
                        cases hb22
                        exact ha.cut (l := [2, 4, 9, 236]) rfl
                     ·clear hm
                      rcases cond_some hb21 with ⟨hb32, hb21⟩ | ⟨hb32, hb21⟩
                      ·refine q_lit 219 rfl hb32 ?_
                       refine q_step (v := .agg #[.int .i64 ax1.Sign, .slice as1 ns1 cs1]) rfl rfl rfl rfl (fun _ hC => ?_) ?_
                       ·obtain ⟨_, hleq, hq⟩ := hC
                        refine r_loadBA (cs' := [.int .i64 ax1.Sign, .slice as1 ns1 cs1]) ag24 sz24 rfl rfl hq rfl (i := 11) rfl rfl rfl (r_nil (qq rfl))
                       refine q_step (v := .agg #[.int .i64 b1.Sign, .slice as2 ns2 cs2]) rfl rfl rfl rfl (fun _ hC => ?_) ?_
                       ·obtain ⟨_, hleq, hq⟩ := hC
                        refine r_loadBA (cs' := [.int .i64 b1.Sign, .slice as2 ns2 cs2]) ag24 sz24 rfl rfl hq rfl (i := 10) rfl rfl rfl (r_nil (qq rfl))
                       obtain ⟨v51, hv30, hb21⟩ := bind_some hb21
                       refine q_callG0 ent23 rfl rfl rfl rfl (fun _ _ hleq hq => big_Compare_ok _ _ _ _ hv30 hq.sat (((((((((((((((((((((((((((hs1.mono hF1).mono hF2).mono hF3).mono hF4).mono hF5).mono hF6).mono hF7).mono hF8).mono hF9).mono hF10).mono hF11).mono hF12).mono hF13).mono hF14).mono hF15).mono hF16).mono hF17).mono hF18).mono hF19).mono hF20).mono hF21).mono hF22).mono hF23).mono hF24).mono hF25).mono hF26).mono hleq) (((((((((((((((((((((((((((hs2.mono hF1).mono hF2).mono hF3).mono hF4).mono hF5).mono hF6).mono hF7).mono hF8).mono hF9).mono hF10).mono hF11).mono hF12).mono hF13).mono hF14).mono hF15).mono hF16).mono hF17).mono hF18).mono hF19).mono hF20).mono hF21).mono hF22).mono hF23).mono hF24).mono hF25).mono hF26).mono hleq)) ?_
                       refine q_step (v := .agg #[.int .i64 ax1.Sign, .slice as1 ns1 cs1]) rfl rfl rfl rfl (fun _ hC => ?_) ?_
                       ·obtain ⟨_, hleq, hq⟩ := hC
                        refine r_loadBA (cs' := [.int .i64 ax1.Sign, .slice as1 ns1 cs1]) ag24 sz24 rfl rfl hq rfl (i := 11) rfl rfl rfl (r_nil (qq rfl))
                       refine q_step (v := .agg #[.int .i64 b1.Sign, .slice as2 ns2 cs2]) rfl rfl rfl rfl (fun _ hC => ?_) ?_
                       ·obtain ⟨_, hleq, hq⟩ := hC
                        refine r_loadBA (cs' := [.int .i64 b1.Sign, .slice as2 ns2 cs2]) ag24 sz24 rfl rfl hq rfl (i := 10) rfl rfl rfl (r_nil (qq rfl))
                       obtain ⟨v52, hv31, hb21⟩ := bind_some hb21
                       refine q_callG0 ent24 rfl rfl rfl rfl (fun _ _ hleq hq => ref04_Compare_ok _ _ _ _ hv31 hq.sat (((((((((((((((((((((((((((hs1.mono hF1).mono hF2).mono hF3).mono hF4).mono hF5).mono hF6).mono hF7).mono hF8).mono hF9).mono hF10).mono hF11).mono hF12).mono hF13).mono hF14).mono hF15).mono hF16).mono hF17).mono hF18).mono hF19).mono hF20).mono hF21).mono hF22).mono hF23).mono hF24).mono hF25).mono hF26).mono hleq) (((((((((((((((((((((((((((hs2.mono hF1).mono hF2).mono hF3).mono hF4).mono hF5).mono hF6).mono hF7).mono hF8).mono hF9).mono hF10).mono hF11).mono hF12).mono hF13).mono hF14).mono hF15).mono hF16).mono hF17).mono hF18).mono hF19).mono hF20).mono hF21).mono hF22).mono hF23).mono hF24).mono hF25).mono hF26).mono hleq)) ?_
                       refine q_step (v := .bool (v51 == v52)) rfl rfl rfl rfl (fun _ hC => ?_) ?_
                       ·obtain ⟨_, hleq, hq⟩ := hC
                        refine r_bin rfl rfl rfl rfl rfl (r_nil (qq rfl))
                       refine q_step (v := .bool (v51 == v52)) rfl rfl rfl rfl (fun _ hC => ?_) ?_
                       ·obtain ⟨_, hleq, hq⟩ := hC
                        refine r_pick_true rfl rfl rfl rfl (r_nil (qq rfl))
                       refine q_nil (fun a ha => ?_)
                       cases hb21
                       exact ha.cut (l := [2, 4, 5, 9, 227]) rfl
                      ·refine q_lit 219 rfl hb32 ?_
                       refine q_off rfl rfl rfl (q_off rfl rfl rfl (q_off rfl rfl rfl (q_off rfl rfl rfl (q_off rfl rfl rfl (q_off rfl rfl rfl (q_off rfl rfl rfl ?_))))))
                       refine q_step (v := .bool false) rfl rfl rfl rfl (fun _ hC => ?_) ?_
                       ·obtain ⟨_, hleq, hq⟩ := hC
                        refine r_pick_false rfl rfl rfl rfl (r_nil (qq rfl))
                       refine q_nil (fun a ha => ?_)
                       cases hb21
                       exact ha.cut (l := [2, 4, 5, 9, 227]) rfl
                   ·clear hm
                    rcases cond_some hb19 with ⟨hb33, hb19⟩ | ⟨hb33, hb19⟩
                    ·refine r_lit 208 rfl hb33 ?_
                     refine r_off rfl (by decide) rfl (r_off rfl (by decide) rfl (r_off rfl (by decide) rfl (r_off rfl (by decide) rfl (r_pick_true rfl rfl rfl rfl (r_nil ?_)))))
                     refine q_next (fun a ha => ?_)
                     cases hb19
                     exact ⟨_, Frz.refl _, hx51.pick [0, 1, 2, 3, 4, 5, 6, 7, 8, 9, 10, 11] (by decide) rfl, ha.cut (l := [2, 4, 5, 9, 213]) rfl⟩
                    ·refine r_lit 208 rfl hb33 ?_
                     refine r_loadBA (cs' := [.int .i64 v30.1.Sign, .slice as16 ns16 cs16]) ag24 sz24 rfl rfl hx51 rfl (i := 1) rfl rfl rfl ?_
                     refine r_loadBA (cs' := [.int .i64 v31.1.Sign, .slice as17 ns17 cs17]) ag24 sz24 rfl rfl hx51 rfl (i := 0) rfl rfl rfl ?_
                     obtain ⟨v53, hv32, hb19⟩ := bind_some hb19
                     refine r_callG0 ent12 rfl rfl rfl rfl hx51 (ref04_Same_ok _ _ _ _ hv32 hx51.sat (hs16.mono hF25) hs17) ?_
                     rintro _ Fx36 _ wx73 hF36 hx63 ⟨rfl, rfl⟩
                     refine r_not rfl rfl rfl (r_pick_false rfl rfl rfl rfl (r_nil ?_))
                     refine q_next (fun a ha => ?_)
                     cases hb19
                     exact ⟨_, hF36, hx63.pick [0, 1, 2, 3, 4, 5, 6, 7, 8, 9, 10, 11] (by decide) rfl, ha.cut (l := [2, 4, 5, 9, 213]) rfl⟩
                  ·refine c_lit 192 rfl hb18 ?_
                   refine c_false rfl (c_skip (q_then (c_seq ?_)))
                   refine c_regionD (by kernel_rfl) (by kernel_rfl) hx45 ?_
                   refine q_step (v := .agg #[.int .i64 ax1.Sign, .slice as1 ns1 cs1]) rfl rfl rfl rfl (fun _ hC => ?_) ?_
                   ·obtain ⟨_, hleq, hq⟩ := hC
                    refine r_loadBA (cs' := [.int .i64 ax1.Sign, .slice as1 ns1 cs1]) ag24 sz24 rfl rfl hq rfl (i := 9) rfl rfl rfl (r_nil (qq rfl))
                   obtain ⟨v54, hv33, hm⟩ := bind_some hm
                   refine q_callG0 ent21 rfl rfl rfl rfl (fun _ _ hleq hq => big_Right_ok _ _ _ hv33 hq.sat ((((((((((((((((((((((((hs1.mono hF1).mono hF2).mono hF3).mono hF4).mono hF5).mono hF6).mono hF7).mono hF8).mono hF9).mono hF10).mono hF11).mono hF12).mono hF13).mono hF14).mono hF15).mono hF16).mono hF17).mono hF18).mono hF19).mono hF20).mono hF21).mono hF22).mono hF23).mono hleq)) ?_
                   refine q_step (v := .agg #[.int .i64 ax1.Sign, .slice as1 ns1 cs1]) rfl rfl rfl rfl (fun _ hC => ?_) ?_
                   ·obtain ⟨_, hleq, hq⟩ := hC
                    refine r_loadBA (cs' := [.int .i64 ax1.Sign, .slice as1 ns1 cs1]) ag24 sz24 rfl rfl hq rfl (i := 9) rfl rfl rfl (r_nil (qq rfl))
                   obtain ⟨v55, hv34, hm⟩ := bind_some hm
                   refine q_callG0 ent22 rfl rfl rfl rfl (fun _ _ hleq hq => ref04_Right_ok _ _ _ hv34 hq.sat ((((((((((((((((((((((((hs1.mono hF1).mono hF2).mono hF3).mono hF4).mono hF5).mono hF6).mono hF7).mono hF8).mono hF9).mono hF10).mono hF11).mono hF12).mono hF13).mono hF14).mono hF15).mono hF16).mono hF17).mono hF18).mono hF19).mono hF20).mono hF21).mono hF22).mono hF23).mono hleq)) ?_
                   refine q_step (v := .bool (v54 == v55)) rfl rfl rfl rfl (fun _ hC => ?_) ?_
                   ·obtain ⟨_, hleq, hq⟩ := hC
                    refine r_beq u4 rfl rfl rfl rfl (r_nil (qq rfl))
                   refine q_step (v := .bool (v54 == v55)) rfl rfl rfl rfl (fun _ hC => ?_) ?_
                   ·obtain ⟨_, hleq, hq⟩ := hC
                    refine r_move rfl rfl rfl (r_nil (qq rfl))
                   obtain ⟨v56, hb34, hm⟩ := bind_some hm
                   refine q_mid 8 (fun a => Has 262 a [(2, .int .i64 nx1), (4, .pointer (some ⟨b2, 0, none⟩)), (5, .pointer (some ⟨b3, 0, none⟩)), (9, .bool v1), (227, .bool v56)]) ?_ ?_
                   ·intro a hax22
                    refine qr_apply hax22 ?_
                    refine q_step (v := .bool v56) rfl rfl rfl rfl (fun _ hC => ?_) ?_
                    ·obtain ⟨_, hleq, hq⟩ := hC
                     refine r_move rfl rfl rfl (r_nil (qq rfl))
                    obtain ⟨v57, hb35, hm⟩ := bind_some hm
                    refine q_mid 8 (fun a => Has 262 a [(2, .int .i64 nx1), (4, .pointer (some ⟨b2, 0, none⟩)), (9, .bool v1), (236, .bool v57)]) ?_ ?_
                    ·intro a hax23
                     refine qr_apply hax23 ?_
                     refine q_step (v := .bool v57) rfl rfl rfl rfl (fun _ hC => ?_) ?_
                     ·obtain ⟨_, hleq, hq⟩ := hC
                      refine r_move rfl rfl rfl (r_nil (qq rfl))
                     obtain ⟨v58, hb36, hm⟩ := bind_some hm
                     refine q_mid 6 (fun a => Has 262 a [(2, .int .i64 nx1), (4, .pointer (some ⟨b2, 0, none⟩)), (9, .bool v1), (243, .bool v58)]) ?_ ?_
                     ·intro a hax24
                      refine qr_apply hax24 ?_
                      refine q_step (v := .bool v58) rfl rfl rfl rfl (fun _ hC => ?_) ?_
                      ·obtain ⟨_, hleq, hq⟩ := hC
                       refine r_assign rfl rfl rfl (r_nil (qq rfl))
                      refine q_end ?_
                      rintro wx77 ⟨Fx37, hF37, hx64⟩
                      refine q_then (c_seq ?_)
                      refine c_regionH (SH Fx37 [.box b11 24 [.int .i64 v21.1.Sign, .slice as15 ns15 cs15], .box b10 24 [.int .i64 v20.1.Sign, .slice as14 ns14 cs14], .box b9 24 [.int .i64 v10.1.Sign, .slice as9 ns9 cs9], .box b8 24 [.int .i64 v9.1.Sign, .slice as8 ns8 cs8], .box b7 24 [.int .i64 v17.2.1.Sign, .slice as13 ns13 cs13], .box b6 24 [.int .i64 v17.1.Sign, .slice as12 ns12 cs12], .box b5 24 [.int .i64 v16.2.1.Sign, .slice as11 ns11 cs11], .box b4 24 [.int .i64 v16.1.Sign, .slice as10 ns10 cs10], .box b3 24 [.int .i64 b1.Sign, .slice as2 ns2 cs2], .box b2 24 [.int .i64 ax1.Sign, .slice as1 ns1 cs1]]) 19 rfl (by kernel_rfl) hx64 ?_
                      intro wx78 hx65
                      refine d_take 0 (v := .bool v1) rfl (by kernel_rfl) (by kernel_rfl) (by kernel_rfl) rfl rfl rfl rfl (hx65.sh (Frz.refl _) [0, 1, 2, 3, 4, 5, 6, 7, 8, 9] (by decide) rfl) (fun _ hC => ?_) ?_
                      ·obtain ⟨_, _, hleq, hq⟩ := hC
                       refine r_move rfl rfl rfl (r_nil (qq rfl))
                      refine d_take 1 (v := .bool v1) rfl (by kernel_rfl) (by kernel_rfl) (by kernel_rfl) rfl rfl rfl rfl (hx65.sh (Frz.refl _) [0, 1, 2, 3, 4, 5, 6, 7, 8, 9] (by decide) rfl) (fun _ hC => ?_) ?_
                      ·obtain ⟨_, _, hleq, hq⟩ := hC
                       refine r_move rfl rfl rfl (r_nil (qq rfl))
                      obtain ⟨v59, hb37, hm⟩ := bind_some hm
                      refine d_mid (fuel' := 15) (listed' := #[true, true, true, true, false, false, false, false, false, false, false, false, false, false, false, false, false, false, false]) (fun a w' => wx78 = w' ∧ Has 262 a [(2, .int .i64 nx1), (4, .pointer (some ⟨b2, 0, none⟩)), (247, .bool v59)]) ?_ (fun hK4 => ?_)
                      ·rintro a wx79 ⟨rfl, hax25⟩
                       refine dw_apply hax25 ?_
                       refine d_take 4 (v := .bool v59) rfl (by kernel_rfl) (by kernel_rfl) (by kernel_rfl) rfl rfl rfl rfl (hx65.sh (Frz.refl _) [0, 1, 2, 3, 4, 5, 6, 7, 8, 9] (by decide) rfl) (fun _ hC => ?_) ?_
                       ·obtain ⟨_, _, hleq, hq⟩ := hC
                        refine r_move rfl rfl rfl (r_nil (qq rfl))
                       obtain ⟨v60, hb38, hm⟩ := bind_some hm
                       refine d_mid (fuel' := 8) (listed' := #[true, true, true, true, true, true, true, true, true, true, true, false, false, false, false, false, false, false, false]) (fun a w' => ∃ (Fx38 : Frz), Frz.le Fx37 Fx38 ∧ HS F w [] Fx38 [.box b11 24 [.int .i64 v21.1.Sign, .slice as15 ns15 cs15], .box b10 24 [.int .i64 v20.1.Sign, .slice as14 ns14 cs14], .box b9 24 [.int .i64 v10.1.Sign, .slice as9 ns9 cs9], .box b8 24 [.int .i64 v9.1.Sign, .slice as8 ns8 cs8], .box b7 24 [.int .i64 v17.2.1.Sign, .slice as13 ns13 cs13], .box b6 24 [.int .i64 v17.1.Sign, .slice as12 ns12 cs12], .box b5 24 [.int .i64 v16.2.1.Sign, .slice as11 ns11 cs11], .box b4 24 [.int .i64 v16.1.Sign, .slice as10 ns10 cs10], .box b3 24 [.int .i64 b1.Sign, .slice as2 ns2 cs2], .box b2 24 [.int .i64 ax1.Sign, .slice as1 ns1 cs1]] w' ∧ Has 262 a [(2, .int .i64 nx1), (254, .bool v60)]) ?_ (fun hK5 => ?_)
                       ·rintro a wx80 ⟨Fx38, hF38, hx66, hax26⟩
                        refine dw_apply hax26 ?_
                        refine d_take 11 (v := .bool v60) rfl (by kernel_rfl) (by kernel_rfl) (by kernel_rfl) rfl rfl rfl rfl (hx66.sh hF38 [0, 1, 2, 3, 4, 5, 6, 7, 8, 9] (by decide) rfl) (fun _ hC => ?_) ?_
                        ·obtain ⟨_, _, hleq, hq⟩ := hC
                         refine r_move rfl rfl rfl (r_nil (qq rfl))
                        obtain ⟨v61, hb39, hm⟩ := bind_some hm
                        refine d_mid (fuel' := 1) (listed' := #[true, true, true, true, true, true, true, true, true, true, true, true, true, true, true, true, true, true, false]) (fun a w' => ∃ (Fx39 : Frz), Frz.le Fx38 Fx39 ∧ HS F w [] Fx39 [.box b11 24 [.int .i64 v21.1.Sign, .slice as15 ns15 cs15], .box b10 24 [.int .i64 v20.1.Sign, .slice as14 ns14 cs14], .box b9 24 [.int .i64 v10.1.Sign, .slice as9 ns9 cs9], .box b8 24 [.int .i64 v9.1.Sign, .slice as8 ns8 cs8], .box b7 24 [.int .i64 v17.2.1.Sign, .slice as13 ns13 cs13], .box b6 24 [.int .i64 v17.1.Sign, .slice as12 ns12 cs12], .box b5 24 [.int .i64 v16.2.1.Sign, .slice as11 ns11 cs11], .box b4 24 [.int .i64 v16.1.Sign, .slice as10 ns10 cs10], .box b3 24 [.int .i64 b1.Sign, .slice as2 ns2 cs2], .box b2 24 [.int .i64 ax1.Sign, .slice as1 ns1 cs1]] w' ∧ Has 262 a [(261, .bool v61)]) ?_ (fun hK6 => ?_)
                        ·rintro a wx81 ⟨Fx39, hF39, hx67, hax27⟩
                         refine dw_apply hax27 ?_
                         refine d_take 18 (v := .bool v61) rfl (by kernel_rfl) (by kernel_rfl) (by kernel_rfl) rfl rfl rfl rfl (hx67.sh (hF38.trans hF39) [0, 1, 2, 3, 4, 5, 6, 7, 8, 9] (by decide) rfl) (fun _ hC => ?_) ?_
                         ·obtain ⟨_, _, hleq, hq⟩ := hC
                          refine r_assign rfl rfl rfl (r_nil (qq rfl))
                         refine d_done (by kernel_rfl) ?_
                         refine q_then (c_ret ?_)
                         refine b_ret1 rfl rfl ?_
                         obtain rfl := Option.some.inj hm
                         exact ⟨_, _, _, rfl, hx67.pick [] (by decide) rfl, rfl, rfl⟩
                        ·clear hm
                         rcases cond_some hb39 with ⟨hb40, hb39⟩ | ⟨hb40, hb39⟩
                         ·refine d_lit 255 rfl hb40 ?_
                          refine d_take 12 (v := .int .i64 nx1) rfl (by kernel_rfl) (by kernel_rfl) (by kernel_rfl) rfl rfl rfl rfl (hx66.sh hF38 [0, 1, 2, 3, 4, 5, 6, 7, 8, 9] (by decide) rfl) (fun _ hC => ?_) ?_
                          ·obtain ⟨_, _, hleq, hq⟩ := hC
                           refine r_move rfl rfl rfl (r_nil (qq rfl))
                          refine d_take 14 (v := .int .i64 nx1) rfl (by kernel_rfl) (by kernel_rfl) (by kernel_rfl) rfl rfl rfl rfl (hx66.sh hF38 [0, 1, 2, 3, 4, 5, 6, 7, 8, 9] (by decide) rfl) (fun _ hC => ?_) ?_
                          ·obtain ⟨_, _, hleq, hq⟩ := hC
                           refine r_move rfl rfl rfl (r_nil (qq rfl))
                          refine d_step 13 rfl (by kernel_rfl) ?_
                          obtain ⟨v62, hv35, hb39⟩ := bind_some hb39
                          refine r_callG0 ent30 rfl rfl rfl rfl hx66 (big_Of_ok _ _ _ hv35 hx66.sat) ?_
                          rintro _ Fx40 _ wx82 hF40 hx68 ⟨as22, ns22, cs22, rfl, rfl, hs22⟩
                          refine d_next (hx68.sh (hF38.trans hF40) [0, 1, 2, 3, 4, 5, 6, 7, 8, 9] (by decide) rfl) ?_
                          refine d_step 15 rfl (by kernel_rfl) ?_
                          obtain ⟨v63, hv36, hb39⟩ := bind_some hb39
                          refine r_callG0 ent31 rfl rfl rfl rfl hx68 (ref04_Of_ok _ _ _ hv36 hx68.sat) ?_
                          rintro _ Fx41 _ wx83 hF41 hx69 ⟨as23, ns23, cs23, rfl, rfl, hs23⟩
                          refine d_next (hx69.sh ((hF38.trans hF40).trans hF41) [0, 1, 2, 3, 4, 5, 6, 7, 8, 9] (by decide) rfl) ?_
                          refine d_step 16 rfl (by kernel_rfl) ?_
                          obtain ⟨v64, hv37, hb39⟩ := bind_some hb39
                          refine r_callG0 ent12 rfl rfl rfl rfl hx69 (ref04_Same_ok _ _ _ _ hv37 hx69.sat (hs22.mono hF41) hs23) ?_
                          rintro _ Fx42 _ wx84 hF42 hx70 ⟨rfl, rfl⟩
                          refine d_next (hx70.sh (((hF38.trans hF40).trans hF41).trans hF42) [0, 1, 2, 3, 4, 5, 6, 7, 8, 9] (by decide) rfl) ?_
                          refine d_take 17 (v := .bool v64) rfl (by kernel_rfl) (by kernel_rfl) (by kernel_rfl) rfl rfl rfl rfl (hx70.sh (((hF38.trans hF40).trans hF41).trans hF42) [0, 1, 2, 3, 4, 5, 6, 7, 8, 9] (by decide) rfl) (fun _ hC => ?_) ?_
                          ·obtain ⟨_, _, hleq, hq⟩ := hC
                           refine r_pick_true rfl rfl rfl rfl (r_nil (qq rfl))
                          refine d_fin hK6 (by kernel_rfl) (fun a ha => ?_)
                          cases hb39
                          exact ⟨_, ((hF40.trans hF41).trans hF42), hx70.pick [0, 1, 2, 3, 4, 5, 6, 7, 8, 9] (by decide) rfl, ha.cut (l := [261]) rfl⟩
                         ·refine d_lit 255 rfl hb40 ?_
                          refine d_off 12 rfl (by kernel_rfl) (by kernel_rfl) (by kernel_rfl) rfl rfl rfl (hx66.sh hF38 [0, 1, 2, 3, 4, 5, 6, 7, 8, 9] (by decide) rfl) ?_
                          refine d_off 13 rfl (by kernel_rfl) (by kernel_rfl) (by kernel_rfl) rfl rfl rfl (hx66.sh hF38 [0, 1, 2, 3, 4, 5, 6, 7, 8, 9] (by decide) rfl) ?_
                          refine d_off 14 rfl (by kernel_rfl) (by kernel_rfl) (by kernel_rfl) rfl rfl rfl (hx66.sh hF38 [0, 1, 2, 3, 4, 5, 6, 7, 8, 9] (by decide) rfl) ?_
                          refine d_off 15 rfl (by kernel_rfl) (by kernel_rfl) (by kernel_rfl) rfl rfl rfl (hx66.sh hF38 [0, 1, 2, 3, 4, 5, 6, 7, 8, 9] (by decide) rfl) ?_
                          refine d_off 16 rfl (by kernel_rfl) (by kernel_rfl) (by kernel_rfl) rfl rfl rfl (hx66.sh hF38 [0, 1, 2, 3, 4, 5, 6, 7, 8, 9] (by decide) rfl) ?_
                          refine d_take 17 (v := .bool false) rfl (by kernel_rfl) (by kernel_rfl) (by kernel_rfl) rfl rfl rfl rfl (hx66.sh hF38 [0, 1, 2, 3, 4, 5, 6, 7, 8, 9] (by decide) rfl) (fun _ hC => ?_) ?_
                          ·obtain ⟨_, _, hleq, hq⟩ := hC
                           refine r_pick_false rfl rfl rfl rfl (r_nil (qq rfl))
                          refine d_fin hK6 (by kernel_rfl) (fun a ha => ?_)
                          cases hb39
                          exact ⟨_, Frz.refl _, hx66.pick [0, 1, 2, 3, 4, 5, 6, 7, 8, 9] (by decide) rfl, ha.cut (l := [261]) rfl⟩
                       ·clear hm
                        rcases cond_some hb38 with ⟨hb41, hb38⟩ | ⟨hb41, hb38⟩
                        ·refine d_lit 248 rfl hb41 ?_
                         refine d_take 5 (v := .agg #[.int .i64 ax1.Sign, .slice as1 ns1 cs1]) rfl (by kernel_rfl) (by kernel_rfl) (by kernel_rfl) rfl rfl rfl rfl (hx65.sh (Frz.refl _) [0, 1, 2, 3, 4, 5, 6, 7, 8, 9] (by decide) rfl) (fun _ hC => ?_) ?_
                         ·obtain ⟨_, _, hleq, hq⟩ := hC
                          refine r_loadBA (cs' := [.int .i64 ax1.Sign, .slice as1 ns1 cs1]) ag24 sz24 rfl rfl hq rfl (i := 9) rfl rfl rfl (r_nil (qq rfl))
                         refine d_take 7 (v := .agg #[.int .i64 ax1.Sign, .slice as1 ns1 cs1]) rfl (by kernel_rfl) (by kernel_rfl) (by kernel_rfl) rfl rfl rfl rfl (hx65.sh (Frz.refl _) [0, 1, 2, 3, 4, 5, 6, 7, 8, 9] (by decide) rfl) (fun _ hC => ?_) ?_
                         ·obtain ⟨_, _, hleq, hq⟩ := hC
                          refine r_loadBA (cs' := [.int .i64 ax1.Sign, .slice as1 ns1 cs1]) ag24 sz24 rfl rfl hq rfl (i := 9) rfl rfl rfl (r_nil (qq rfl))
                         refine d_step 6 rfl (by kernel_rfl) ?_
                         obtain ⟨v65, hv38, hb38⟩ := bind_some hb38
                         refine r_callG0 ent28 rfl rfl rfl rfl hx65 (big_Neg_ok _ _ _ hv38 hx65.sat ((((((((((((((((((((((((hs1.mono hF1).mono hF2).mono hF3).mono hF4).mono hF5).mono hF6).mono hF7).mono hF8).mono hF9).mono hF10).mono hF11).mono hF12).mono hF13).mono hF14).mono hF15).mono hF16).mono hF17).mono hF18).mono hF19).mono hF20).mono hF21).mono hF22).mono hF23).mono hF37)) ?_
                         rintro _ Fx43 _ wx85 hF43 hx71 ⟨as24, ns24, cs24, rfl, rfl, hs24⟩
                         refine d_next (hx71.sh hF43 [0, 1, 2, 3, 4, 5, 6, 7, 8, 9] (by decide) rfl) ?_
                         refine d_step 8 rfl (by kernel_rfl) ?_
                         obtain ⟨v66, hv39, hb38⟩ := bind_some hb38
                         refine r_callG0 ent29 rfl rfl rfl rfl hx71 (ref04_Neg_ok _ _ _ hv39 hx71.sat (((((((((((((((((((((((((hs1.mono hF1).mono hF2).mono hF3).mono hF4).mono hF5).mono hF6).mono hF7).mono hF8).mono hF9).mono hF10).mono hF11).mono hF12).mono hF13).mono hF14).mono hF15).mono hF16).mono hF17).mono hF18).mono hF19).mono hF20).mono hF21).mono hF22).mono hF23).mono hF37).mono hF43)) ?_
                         rintro _ Fx44 _ wx86 hF44 hx72 ⟨as25, ns25, cs25, rfl, rfl, hs25⟩
                         refine d_next (hx72.sh (hF43.trans hF44) [0, 1, 2, 3, 4, 5, 6, 7, 8, 9] (by decide) rfl) ?_
                         refine d_step 9 rfl (by kernel_rfl) ?_
                         obtain ⟨v67, hv40, hb38⟩ := bind_some hb38
                         refine r_callG0 ent12 rfl rfl rfl rfl hx72 (ref04_Same_ok _ _ _ _ hv40 hx72.sat (hs24.mono hF44) hs25) ?_
                         rintro _ Fx45 _ wx87 hF45 hx73 ⟨rfl, rfl⟩
                         refine d_next (hx73.sh ((hF43.trans hF44).trans hF45) [0, 1, 2, 3, 4, 5, 6, 7, 8, 9] (by decide) rfl) ?_
                         refine d_take 10 (v := .bool v67) rfl (by kernel_rfl) (by kernel_rfl) (by kernel_rfl) rfl rfl rfl rfl (hx73.sh ((hF43.trans hF44).trans hF45) [0, 1, 2, 3, 4, 5, 6, 7, 8, 9] (by decide) rfl) (fun _ hC => ?_) ?_
                         ·obtain ⟨_, _, hleq, hq⟩ := hC
                          refine r_pick_true rfl rfl rfl rfl (r_nil (qq rfl))
                         refine d_fin hK5 (by kernel_rfl) (fun a ha => ?_)
                         cases hb38
                         exact ⟨_, ((hF43.trans hF44).trans hF45), hx73.pick [0, 1, 2, 3, 4, 5, 6, 7, 8, 9] (by decide) rfl, ha.cut (l := [2, 254]) rfl⟩
                        ·refine d_lit 248 rfl hb41 ?_
                         refine d_off 5 rfl (by kernel_rfl) (by kernel_rfl) (by kernel_rfl) rfl rfl rfl (hx65.sh (Frz.refl _) [0, 1, 2, 3, 4, 5, 6, 7, 8, 9] (by decide) rfl) ?_
                         refine d_off 6 rfl (by kernel_rfl) (by kernel_rfl) (by kernel_rfl) rfl rfl rfl (hx65.sh (Frz.refl _) [0, 1, 2, 3, 4, 5, 6, 7, 8, 9] (by decide) rfl) ?_
                         refine d_off 7 rfl (by kernel_rfl) (by kernel_rfl) (by kernel_rfl) rfl rfl rfl (hx65.sh (Frz.refl _) [0, 1, 2, 3, 4, 5, 6, 7, 8, 9] (by decide) rfl) ?_
                         refine d_off 8 rfl (by kernel_rfl) (by kernel_rfl) (by kernel_rfl) rfl rfl rfl (hx65.sh (Frz.refl _) [0, 1, 2, 3, 4, 5, 6, 7, 8, 9] (by decide) rfl) ?_
                         refine d_off 9 rfl (by kernel_rfl) (by kernel_rfl) (by kernel_rfl) rfl rfl rfl (hx65.sh (Frz.refl _) [0, 1, 2, 3, 4, 5, 6, 7, 8, 9] (by decide) rfl) ?_
                         refine d_take 10 (v := .bool false) rfl (by kernel_rfl) (by kernel_rfl) (by kernel_rfl) rfl rfl rfl rfl (hx65.sh (Frz.refl _) [0, 1, 2, 3, 4, 5, 6, 7, 8, 9] (by decide) rfl) (fun _ hC => ?_) ?_
                         ·obtain ⟨_, _, hleq, hq⟩ := hC
                          refine r_pick_false rfl rfl rfl rfl (r_nil (qq rfl))
                         refine d_fin hK5 (by kernel_rfl) (fun a ha => ?_)
                         cases hb38
                         exact ⟨_, Frz.refl _, hx65.pick [0, 1, 2, 3, 4, 5, 6, 7, 8, 9] (by decide) rfl, ha.cut (l := [2, 254]) rfl⟩
                      ·clear hm
                       rcases cond_some hb37 with ⟨hb42, hb37⟩ | ⟨hb42, hb37⟩
                       ·refine d_lit 245 rfl hb42 ?_
                        refine d_take 2 (v := .bool v58) rfl (by kernel_rfl) (by kernel_rfl) (by kernel_rfl) rfl rfl rfl rfl (hx65.sh (Frz.refl _) [0, 1, 2, 3, 4, 5, 6, 7, 8, 9] (by decide) rfl) (fun _ hC => ?_) ?_
                        ·obtain ⟨_, _, hleq, hq⟩ := hC
                         refine r_move rfl rfl rfl (r_nil (qq rfl))
                        refine d_take 3 (v := .bool v58) rfl (by kernel_rfl) (by kernel_rfl) (by kernel_rfl) rfl rfl rfl rfl (hx65.sh (Frz.refl _) [0, 1, 2, 3, 4, 5, 6, 7, 8, 9] (by decide) rfl) (fun _ hC => ?_) ?_
                        ·obtain ⟨_, _, hleq, hq⟩ := hC
                         refine r_pick_true rfl rfl rfl rfl (r_nil (qq rfl))
                        refine d_fin hK4 (by kernel_rfl) (fun a ha => ?_)
                        cases hb37
                        exact ⟨rfl, ha.cut (l := [2, 4, 247]) rfl⟩
                       ·refine d_lit 245 rfl hb42 ?_
                        refine d_off 2 rfl (by kernel_rfl) (by kernel_rfl) (by kernel_rfl) rfl rfl rfl (hx65.sh (Frz.refl _) [0, 1, 2, 3, 4, 5, 6, 7, 8, 9] (by decide) rfl) ?_
                        refine d_take 3 (v := .bool false) rfl (by kernel_rfl) (by kernel_rfl) (by kernel_rfl) rfl rfl rfl rfl (hx65.sh (Frz.refl _) [0, 1, 2, 3, 4, 5, 6, 7, 8, 9] (by decide) rfl) (fun _ hC => ?_) ?_
                        ·obtain ⟨_, _, hleq, hq⟩ := hC
                         refine r_pick_false rfl rfl rfl rfl (r_nil (qq rfl))
                        refine d_fin hK4 (by kernel_rfl) (fun a ha => ?_)
                        cases hb37
                        exact ⟨rfl, ha.cut (l := [2, 4, 247]) rfl⟩
                     ·clear hm
                      rcases cond_some hb36 with ⟨hb43, hb36⟩ | ⟨hb43, hb36⟩
                      ·refine q_lit 237 rfl hb43 ?_
                       refine q_step (v := .agg #[.int .i64 ax1.Sign, .slice as1 ns1 cs1]) rfl rfl rfl rfl (fun _ hC => ?_) ?_
                       ·obtain ⟨_, hleq, hq⟩ := hC
                        refine r_loadBA (cs' := [.int .i64 ax1.Sign, .slice as1 ns1 cs1]) ag24 sz24 rfl rfl hq rfl (i := 9) rfl rfl rfl (r_nil (qq rfl))
                       obtain ⟨v68, hv41, hb36⟩ := bind_some hb36
                       refine q_callG0 ent26 rfl rfl rfl rfl (fun _ _ hleq hq => big_Text_ok _ _ _ hv41 hq.sat ((((((((((((((((((((((((hs1.mono hF1).mono hF2).mono hF3).mono hF4).mono hF5).mono hF6).mono hF7).mono hF8).mono hF9).mono hF10).mono hF11).mono hF12).mono hF13).mono hF14).mono hF15).mono hF16).mono hF17).mono hF18).mono hF19).mono hF20).mono hF21).mono hF22).mono hF23).mono hleq) ((((((((((((((((((((((((hg2.mono hF1).mono hF2).mono hF3).mono hF4).mono hF5).mono hF6).mono hF7).mono hF8).mono hF9).mono hF10).mono hF11).mono hF12).mono hF13).mono hF14).mono hF15).mono hF16).mono hF17).mono hF18).mono hF19).mono hF20).mono hF21).mono hF22).mono hF23).mono hleq)) ?_
                       refine q_step (v := .agg #[.int .i64 ax1.Sign, .slice as1 ns1 cs1]) rfl rfl rfl rfl (fun _ hC => ?_) ?_
                       ·obtain ⟨_, hleq, hq⟩ := hC
                        refine r_loadBA (cs' := [.int .i64 ax1.Sign, .slice as1 ns1 cs1]) ag24 sz24 rfl rfl hq rfl (i := 9) rfl rfl rfl (r_nil (qq rfl))
                       obtain ⟨v69, hv42, hb36⟩ := bind_some hb36
                       refine q_callG0 ent27 rfl rfl rfl rfl (fun _ _ hleq hq => ref04_Text_ok _ _ _ hv42 hq.sat ((((((((((((((((((((((((hs1.mono hF1).mono hF2).mono hF3).mono hF4).mono hF5).mono hF6).mono hF7).mono hF8).mono hF9).mono hF10).mono hF11).mono hF12).mono hF13).mono hF14).mono hF15).mono hF16).mono hF17).mono hF18).mono hF19).mono hF20).mono hF21).mono hF22).mono hF23).mono hleq)) ?_
                       refine q_step (v := .bool (v68 == v69)) rfl rfl rfl rfl (fun _ hC => ?_) ?_
                       ·obtain ⟨_, hleq, hq⟩ := hC
                        refine r_str rfl rfl rfl rfl rfl (r_nil (qq rfl))
                       refine q_step (v := .bool (v68 == v69)) rfl rfl rfl rfl (fun _ hC => ?_) ?_
                       ·obtain ⟨_, hleq, hq⟩ := hC
                        refine r_pick_true rfl rfl rfl rfl (r_nil (qq rfl))
                       refine q_nil (fun a ha => ?_)
                       cases hb36
                       exact ha.cut (l := [2, 4, 9, 243]) rfl
                      ·refine q_lit 237 rfl hb43 ?_
                       refine q_off rfl rfl rfl (q_off rfl rfl rfl (q_off rfl rfl rfl (q_off rfl rfl rfl (q_off rfl rfl rfl ?_))))
                       refine q_step (v := .bool false) rfl rfl rfl rfl (fun _ hC => ?_) ?_
                       ·obtain ⟨_, hleq, hq⟩ := hC
                        refine r_pick_false rfl rfl rfl rfl (r_nil (qq rfl))
                       refine q_nil (fun a ha => ?_)
                       cases hb36
                       exact ha.cut (l := [2, 4, 9, 243]) rfl
                    ·clear hm
                     rcases cond_some hb35 with ⟨hb44, hb35⟩ | ⟨hb44, hb35⟩
                     ·refine q_lit 228 rfl hb44 ?_
                      refine q_step (v := .agg #[.int .i64 ax1.Sign, .slice as1 ns1 cs1]) rfl rfl rfl rfl (fun _ hC => ?_) ?_
                      ·obtain ⟨_, hleq, hq⟩ := hC
                       refine r_loadBA (cs' := [.int .i64 ax1.Sign, .slice as1 ns1 cs1]) ag24 sz24 rfl rfl hq rfl (i := 9) rfl rfl rfl (r_nil (qq rfl))
                      refine q_step (v := .agg #[.int .i64 b1.Sign, .slice as2 ns2 cs2]) rfl rfl rfl rfl (fun _ hC => ?_) ?_
                      ·obtain ⟨_, hleq, hq⟩ := hC
                       refine r_loadBA (cs' := [.int .i64 b1.Sign, .slice as2 ns2 cs2]) ag24 sz24 rfl rfl hq rfl (i := 8) rfl rfl rfl (r_nil (qq rfl))
                      obtain ⟨v70, hv43, hb35⟩ := bind_some hb35
                      refine q_callG0 ent25 rfl rfl rfl rfl (fun _ _ hleq hq => big_Same_ok _ _ _ _ hv43 hq.sat ((((((((((((((((((((((((hs1.mono hF1).mono hF2).mono hF3).mono hF4).mono hF5).mono hF6).mono hF7).mono hF8).mono hF9).mono hF10).mono hF11).mono hF12).mono hF13).mono hF14).mono hF15).mono hF16).mono hF17).mono hF18).mono hF19).mono hF20).mono hF21).mono hF22).mono hF23).mono hleq) ((((((((((((((((((((((((hs2.mono hF1).mono hF2).mono hF3).mono hF4).mono hF5).mono hF6).mono hF7).mono hF8).mono hF9).mono hF10).mono hF11).mono hF12).mono hF13).mono hF14).mono hF15).mono hF16).mono hF17).mono hF18).mono hF19).mono hF20).mono hF21).mono hF22).mono hF23).mono hleq)) ?_
                      refine q_step (v := .agg #[.int .i64 ax1.Sign, .slice as1 ns1 cs1]) rfl rfl rfl rfl (fun _ hC => ?_) ?_
                      ·obtain ⟨_, hleq, hq⟩ := hC
                       refine r_loadBA (cs' := [.int .i64 ax1.Sign, .slice as1 ns1 cs1]) ag24 sz24 rfl rfl hq rfl (i := 9) rfl rfl rfl (r_nil (qq rfl))
                      refine q_step (v := .agg #[.int .i64 b1.Sign, .slice as2 ns2 cs2]) rfl rfl rfl rfl (fun _ hC => ?_) ?_
                      ·obtain ⟨_, hleq, hq⟩ := hC
                       refine r_loadBA (cs' := [.int .i64 b1.Sign, .slice as2 ns2 cs2]) ag24 sz24 rfl rfl hq rfl (i := 8) rfl rfl rfl (r_nil (qq rfl))
                      obtain ⟨v71, hv44, hb35⟩ := bind_some hb35
                      refine q_callG0 ent12 rfl rfl rfl rfl (fun _ _ hleq hq => ref04_Same_ok _ _ _ _ hv44 hq.sat ((((((((((((((((((((((((hs1.mono hF1).mono hF2).mono hF3).mono hF4).mono hF5).mono hF6).mono hF7).mono hF8).mono hF9).mono hF10).mono hF11).mono hF12).mono hF13).mono hF14).mono hF15).mono hF16).mono hF17).mono hF18).mono hF19).mono hF20).mono hF21).mono hF22).mono hF23).mono hleq) ((((((((((((((((((((((((hs2.mono hF1).mono hF2).mono hF3).mono hF4).mono hF5).mono hF6).mono hF7).mono hF8).mono hF9).mono hF10).mono hF11).mono hF12).mono hF13).mono hF14).mono hF15).mono hF16).mono hF17).mono hF18).mono hF19).mono hF20).mono hF21).mono hF22).mono hF23).mono hleq)) ?_
                      refine q_step (v := .bool (v70 == v71)) rfl rfl rfl rfl (fun _ hC => ?_) ?_
                      ·obtain ⟨_, hleq, hq⟩ := hC
                       refine r_beq u4 rfl rfl rfl rfl (r_nil (qq rfl))
                      refine q_step (v := .bool (v70 == v71)) rfl rfl rfl rfl (fun _ hC => ?_) ?_
                      ·obtain ⟨_, hleq, hq⟩ := hC
                       refine r_pick_true rfl rfl rfl rfl (r_nil (qq rfl))
                      refine q_nil (fun a ha => ?_)
                      cases hb35
                      exact ha.cut (l := [2, 4, 9, 236]) rfl
                     ·refine q_lit 228 rfl hb44 ?_
                      refine q_off rfl rfl rfl (q_off rfl rfl rfl (q_off rfl rfl rfl (q_off rfl rfl rfl (q_off rfl rfl rfl (q_off rfl rfl rfl (q_off rfl rfl rfl ?_))))))
                      refine q_step (v := .bool false) rfl rfl rfl rfl (fun _ hC => ?_) ?_
                      ·obtain ⟨_, hleq, hq⟩ := hC
                       refine r_pick_false rfl rfl rfl rfl (r_nil (qq rfl))
                      refine q_nil (fun a ha => ?_)
                      cases hb35
                      exact ha.cut (l := [2, 4, 9, 236]) rfl
                   ·clear hm
                    rcases cond_some hb34 with ⟨hb45, hb34⟩ | ⟨hb45, hb34⟩
                    ·refine q_lit 219 rfl hb45 ?_
                     refine q_step (v := .agg #[.int .i64 ax1.Sign, .slice as1 ns1 cs1]) rfl rfl rfl rfl (fun _ hC => ?_) ?_
                     ·obtain ⟨_, hleq, hq⟩ := hC
                      refine r_loadBA (cs' := [.int .i64 ax1.Sign, .slice as1 ns1 cs1]) ag24 sz24 rfl rfl hq rfl (i := 9) rfl rfl rfl (r_nil (qq rfl))
                     refine q_step (v := .agg #[.int .i64 b1.Sign, .slice as2 ns2 cs2]) rfl rfl rfl rfl (fun _ hC => ?_) ?_
                     ·obtain ⟨_, hleq, hq⟩ := hC
                      refine r_loadBA (cs' := [.int .i64 b1.Sign, .slice as2 ns2 cs2]) ag24 sz24 rfl rfl hq rfl (i := 8) rfl rfl rfl (r_nil (qq rfl))
                     obtain ⟨v72, hv45, hb34⟩ := bind_some hb34
                     refine q_callG0 ent23 rfl rfl rfl rfl (fun _ _ hleq hq => big_Compare_ok _ _ _ _ hv45 hq.sat ((((((((((((((((((((((((hs1.mono hF1).mono hF2).mono hF3).mono hF4).mono hF5).mono hF6).mono hF7).mono hF8).mono hF9).mono hF10).mono hF11).mono hF12).mono hF13).mono hF14).mono hF15).mono hF16).mono hF17).mono hF18).mono hF19).mono hF20).mono hF21).mono hF22).mono hF23).mono hleq) ((((((((((((((((((((((((hs2.mono hF1).mono hF2).mono hF3).mono hF4).mono hF5).mono hF6).mono hF7).mono hF8).mono hF9).mono hF10).mono hF11).mono hF12).mono hF13).mono hF14).mono hF15).mono hF16).mono hF17).mono hF18).mono hF19).mono hF20).mono hF21).mono hF22).mono hF23).mono hleq)) ?_
                     refine q_step (v := .agg #[.int .i64 ax1.Sign, .slice as1 ns1 cs1]) rfl rfl rfl rfl (fun _ hC => ?_) ?_
                     ·obtain ⟨_, hleq, hq⟩ := hC
                      refine r_loadBA (cs' := [.int .i64 ax1.Sign, .slice as1 ns1 cs1]) ag24 sz24 rfl rfl hq rfl (i := 9) rfl rfl rfl (r_nil (qq rfl))
                     refine q_step (v := .agg #[.int .i64 b1.Sign, .slice as2 ns2 cs2]) rfl rfl rfl rfl (fun _ hC => ?_) ?_
                     ·obtain ⟨_, hleq, hq⟩ := hC
                      refine r_loadBA (cs' := [.int .i64 b1.Sign, .slice as2 ns2 cs2]) ag24 sz24 rfl rfl hq rfl (i := 8) rfl rfl rfl (r_nil (qq rfl))
                     obtain ⟨v73, hv46, hb34⟩ := bind_some hb34
                     refine q_callG0 ent24 rfl rfl rfl rfl (fun _ _ hleq hq => ref04_Compare_ok _ _ _ _ hv46 hq.sat ((((((((((((((((((((((((hs1.mono hF1).mono hF2).mono hF3).mono hF4).mono hF5).mono hF6).mono hF7).mono hF8).mono hF9).mono hF10).mono hF11).mono hF12).mono hF13).mono hF14).mono hF15).mono hF16).mono hF17).mono hF18).mono hF19).mono hF20).mono hF21).mono hF22).mono hF23).mono hleq) ((((((((((((((((((((((((hs2.mono hF1).mono hF2).mono hF3).mono hF4).mono hF5).mono hF6).mono hF7).mono hF8).mono hF9).mono hF10).mono hF11).mono hF12).mono hF13).mono hF14).mono hF15).mono hF16).mono hF17).mono hF18).mono hF19).mono hF20).mono hF21).mono hF22).mono hF23).mono hleq)) ?_
                     refine q_step (v := .bool (v72 == v73)) rfl rfl rfl rfl (fun _ hC => ?_) ?_
                     ·obtain ⟨_, hleq, hq⟩ := hC
                      refine r_bin rfl rfl rfl rfl rfl (r_nil (qq rfl))
                     refine q_step (v := .bool (v72 == v73)) rfl rfl rfl rfl (fun _ hC => ?_) ?_
                     ·obtain ⟨_, hleq, hq⟩ := hC
                      refine r_pick_true rfl rfl rfl rfl (r_nil (qq rfl))
                     refine q_nil (fun a ha => ?_)
                     cases hb34
                     exact ha.cut (l := [2, 4, 5, 9, 227]) rfl
                    ·refine q_lit 219 rfl hb45 ?_
                     refine q_off rfl rfl rfl (q_off rfl rfl rfl (q_off rfl rfl rfl (q_off rfl rfl rfl (q_off rfl rfl rfl (q_off rfl rfl rfl (q_off rfl rfl rfl ?_))))))
                     refine q_step (v := .bool false) rfl rfl rfl rfl (fun _ hC => ?_) ?_
                     ·obtain ⟨_, hleq, hq⟩ := hC
                      refine r_pick_false rfl rfl rfl rfl (r_nil (qq rfl))
                     refine q_nil (fun a ha => ?_)
                     cases hb34
                     exact ha.cut (l := [2, 4, 5, 9, 227]) rfl
                 ·clear hm
                  rcases cond_some hb17 with ⟨hb46, hb17⟩ | ⟨hb46, hb17⟩
                  ·refine r_lit 189 rfl hb46 ?_
                   refine r_loadBA (cs' := [.int .i64 b1.Sign, .slice as2 ns2 cs2]) ag24 sz24 rfl rfl hx44 rfl (i := 8) rfl rfl rfl ?_
                   obtain ⟨v74, hv47, hb17⟩ := bind_some hb17
                   refine r_callG0 ent5 rfl rfl rfl rfl hx44 (law04_few_ok _ _ _ _ hv47 hx44.sat ((((((((((((((((((((((hs2.mono hF1).mono hF2).mono hF3).mono hF4).mono hF5).mono hF6).mono hF7).mono hF8).mono hF9).mono hF10).mono hF11).mono hF12).mono hF13).mono hF14).mono hF15).mono hF16).mono hF17).mono hF18).mono hF19).mono hF20).mono hF21).mono hF22)) ?_
                   rintro _ Fx46 _ wx88 hF46 hx74 ⟨rfl, rfl⟩
                   refine r_pick_true rfl rfl rfl rfl (r_nil ?_)
                   refine q_next (fun a ha => ?_)
                   cases hb17
                   exact ⟨_, hF46, hx74.pick [0, 1, 2, 3, 4, 5, 6, 7, 8, 9] (by decide) rfl, ha.cut (l := [2, 4, 5, 9, 192]) rfl⟩
                  ·refine r_lit 189 rfl hb46 ?_
                   refine r_off rfl (by decide) rfl (r_off rfl (by decide) rfl (r_pick_false rfl rfl rfl rfl (r_nil ?_)))
                   refine q_next (fun a ha => ?_)
                   cases hb17
                   exact ⟨_, Frz.refl _, hx44.pick [0, 1, 2, 3, 4, 5, 6, 7, 8, 9] (by decide) rfl, ha.cut (l := [2, 4, 5, 9, 192]) rfl⟩
               ·clear hm
                rcases cond_some hb15 with ⟨hb47, hb15⟩ | ⟨hb47, hb15⟩
                ·refine r_lit 181 rfl hb47 ?_
                 refine r_off rfl (by decide) rfl (r_off rfl (by decide) rfl (r_off rfl (by decide) rfl (r_off rfl (by decide) rfl (r_pick_true rfl rfl rfl rfl (r_nil ?_)))))
                 refine q_next (fun a ha => ?_)
                 cases hb15
                 exact ⟨_, Frz.refl _, hx42.pick [0, 1, 2, 3, 4, 5, 6, 7, 8, 9] (by decide) rfl, ha.cut (l := [2, 4, 5, 9, 186]) rfl⟩
                ·refine r_lit 181 rfl hb47 ?_
                 refine r_loadBA (cs' := [.int .i64 v20.1.Sign, .slice as14 ns14 cs14]) ag24 sz24 rfl rfl hx42 rfl (i := 1) rfl rfl rfl ?_
                 refine r_loadBA (cs' := [.int .i64 v21.1.Sign, .slice as15 ns15 cs15]) ag24 sz24 rfl rfl hx42 rfl (i := 0) rfl rfl rfl ?_
                 obtain ⟨v75, hv48, hb15⟩ := bind_some hb15
                 refine r_callG0 ent12 rfl rfl rfl rfl hx42 (ref04_Same_ok _ _ _ _ hv48 hx42.sat (((hs14.mono hF18).mono hF19).mono hF20) ((hs15.mono hF19).mono hF20)) ?_
                 rintro _ Fx47 _ wx89 hF47 hx75 ⟨rfl, rfl⟩
                 refine r_not rfl rfl rfl (r_pick_false rfl rfl rfl rfl (r_nil ?_))
                 refine q_next (fun a ha => ?_)
                 cases hb15
                 exact ⟨_, hF47, hx75.pick [0, 1, 2, 3, 4, 5, 6, 7, 8, 9] (by decide) rfl, ha.cut (l := [2, 4, 5, 9, 186]) rfl⟩
              ·clear hm
               rcases cond_some hb14 with ⟨hb48, hb14⟩ | ⟨hb48, hb14⟩
               ·refine r_lit 176 rfl hb48 ?_
                refine r_off rfl (by decide) rfl (r_off rfl (by decide) rfl (r_off rfl (by decide) rfl (r_pick_true rfl rfl rfl rfl (r_nil ?_))))
                refine q_next (fun a ha => ?_)
                cases hb14
                exact ⟨rfl, ha.cut (l := [2, 4, 5, 9, 26, 28, 180]) rfl⟩
               ·refine r_lit 176 rfl hb48 ?_
                refine r_move rfl rfl rfl (r_move rfl rfl rfl ?_)
                refine r_bin rfl rfl rfl rfl rfl ?_
                refine r_pick_false rfl rfl rfl rfl (r_nil ?_)
                refine q_next (fun a ha => ?_)
                cases hb14
                exact ⟨rfl, ha.cut (l := [2, 4, 5, 9, 26, 28, 180]) rfl⟩
             ·clear hm
              rcases cond_some hb13 with ⟨hb49, hb13⟩ | ⟨hb49, hb13⟩
              ·refine r_lit 171 rfl hb49 ?_
               refine r_off rfl (by decide) rfl (r_off rfl (by decide) rfl (r_off rfl (by decide) rfl (r_pick_true rfl rfl rfl rfl (r_nil ?_))))
               refine q_next (fun a ha => ?_)
               cases hb13
               exact ⟨rfl, ha.cut (l := [2, 4, 5, 9, 26, 27, 28, 29, 175]) rfl⟩
              ·refine r_lit 171 rfl hb49 ?_
               refine r_move rfl rfl rfl (r_move rfl rfl rfl ?_)
               refine r_bne u4 rfl rfl rfl rfl ?_
               refine r_pick_false rfl rfl rfl rfl (r_nil ?_)
               refine q_next (fun a ha => ?_)
               cases hb13
               exact ⟨rfl, ha.cut (l := [2, 4, 5, 9, 26, 27, 28, 29, 175]) rfl⟩
            ·clear hm
             rcases cond_some hb12 with ⟨hb50, hb12⟩ | ⟨hb50, hb12⟩
             ·refine r_lit 166 rfl hb50 ?_
              refine r_off rfl (by decide) rfl (r_off rfl (by decide) rfl (r_off rfl (by decide) rfl (r_pick_true rfl rfl rfl rfl (r_nil ?_))))
              refine q_next (fun a ha => ?_)
              cases hb12
              exact ⟨rfl, ha.cut (l := [2, 4, 5, 9, 23, 25, 26, 27, 28, 29, 170]) rfl⟩
             ·refine r_lit 166 rfl hb50 ?_
              refine r_move rfl rfl rfl (r_move rfl rfl rfl ?_)
              refine r_bin rfl rfl rfl rfl rfl ?_
              refine r_pick_false rfl rfl rfl rfl (r_nil ?_)
              refine q_next (fun a ha => ?_)
              cases hb12
              exact ⟨rfl, ha.cut (l := [2, 4, 5, 9, 23, 25, 26, 27, 28, 29, 170]) rfl⟩
           ·clear hm
            rcases cond_some hb11 with ⟨hb51, hb11⟩ | ⟨hb51, hb11⟩
            ·refine r_lit 160 rfl hb51 ?_
             refine r_off rfl (by decide) rfl (r_off rfl (by decide) rfl (r_off rfl (by decide) rfl (r_off rfl (by decide) rfl (r_pick_true rfl rfl rfl rfl (r_nil ?_)))))
             refine q_next (fun a ha => ?_)
             cases hb11
             exact ⟨_, Frz.refl _, hx41.pick [0, 1, 2, 3, 4, 5, 6, 7, 8, 9] (by decide) rfl, ha.cut (l := [2, 4, 5, 9, 22, 23, 24, 25, 26, 27, 28, 29, 165]) rfl⟩
            ·refine r_lit 160 rfl hb51 ?_
             refine r_loadBA (cs' := [.int .i64 v16.2.1.Sign, .slice as11 ns11 cs11]) ag24 sz24 rfl rfl hx41 rfl (i := 6) rfl rfl rfl ?_
             refine r_loadBA (cs' := [.int .i64 v17.2.1.Sign, .slice as13 ns13 cs13]) ag24 sz24 rfl rfl hx41 rfl (i := 4) rfl rfl rfl ?_
             obtain ⟨v76, hv49, hb11⟩ := bind_some hb11
             refine r_callG0 ent12 rfl rfl rfl rfl hx41 (ref04_Same_ok _ _ _ _ hv49 hx41.sat ((((((hs11.mono hF14).mono hF15).mono hF16).mono hF17).mono hF18).mono hF19) (((((hs13.mono hF15).mono hF16).mono hF17).mono hF18).mono hF19)) ?_
             rintro _ Fx48 _ wx90 hF48 hx76 ⟨rfl, rfl⟩
             refine r_not rfl rfl rfl (r_pick_false rfl rfl rfl rfl (r_nil ?_))
             refine q_next (fun a ha => ?_)
             cases hb11
             exact ⟨_, hF48, hx76.pick [0, 1, 2, 3, 4, 5, 6, 7, 8, 9] (by decide) rfl, ha.cut (l := [2, 4, 5, 9, 22, 23, 24, 25, 26, 27, 28, 29, 165]) rfl⟩
          ·clear hm
           rcases cond_some hb10 with ⟨hb52, hb10⟩ | ⟨hb52, hb10⟩
           ·refine r_lit 154 rfl hb52 ?_
            refine r_off rfl (by decide) rfl (r_off rfl (by decide) rfl (r_off rfl (by decide) rfl (r_off rfl (by decide) rfl (r_pick_true rfl rfl rfl rfl (r_nil ?_)))))
            refine q_next (fun a ha => ?_)
            cases hb10
            exact ⟨_, Frz.refl _, hx40.pick [0, 1, 2, 3, 4, 5, 6, 7, 8, 9] (by decide) rfl, ha.cut (l := [2, 4, 5, 9, 12, 16, 22, 23, 24, 25, 26, 27, 28, 29, 159]) rfl⟩
           ·refine r_lit 154 rfl hb52 ?_
            refine r_loadBA (cs' := [.int .i64 v16.1.Sign, .slice as10 ns10 cs10]) ag24 sz24 rfl rfl hx40 rfl (i := 7) rfl rfl rfl ?_
            refine r_loadBA (cs' := [.int .i64 v17.1.Sign, .slice as12 ns12 cs12]) ag24 sz24 rfl rfl hx40 rfl (i := 5) rfl rfl rfl ?_
            obtain ⟨v77, hv50, hb10⟩ := bind_some hb10
            refine r_callG0 ent12 rfl rfl rfl rfl hx40 (ref04_Same_ok _ _ _ _ hv50 hx40.sat (((((hs10.mono hF14).mono hF15).mono hF16).mono hF17).mono hF18) ((((hs12.mono hF15).mono hF16).mono hF17).mono hF18)) ?_
            rintro _ Fx49 _ wx91 hF49 hx77 ⟨rfl, rfl⟩
            refine r_not rfl rfl rfl (r_pick_false rfl rfl rfl rfl (r_nil ?_))
            refine q_next (fun a ha => ?_)
            cases hb10
            exact ⟨_, hF49, hx77.pick [0, 1, 2, 3, 4, 5, 6, 7, 8, 9] (by decide) rfl, ha.cut (l := [2, 4, 5, 9, 12, 16, 22, 23, 24, 25, 26, 27, 28, 29, 159]) rfl⟩
        ·clear hm
         rcases cond_some hb8 with ⟨hb53, hb8⟩ | ⟨hb53, hb8⟩
         ·refine r_lit 111 rfl hb53 ?_
          refine r_off rfl (by decide) rfl (r_off rfl (by decide) rfl (r_off rfl (by decide) rfl (r_off rfl (by decide) rfl (r_pick_true rfl rfl rfl rfl (r_nil ?_)))))
          refine q_next (fun a ha => ?_)
          cases hb8
          exact ⟨_, Frz.refl _, hx25.pick [0, 1, 2, 3, 4, 5, 6, 7] (by decide) rfl, ha.cut (l := [2, 3, 4, 5, 9, 10, 12, 14, 16, 116]) rfl⟩
         ·refine r_lit 111 rfl hb53 ?_
          refine r_loadBA (cs' := [.int .i64 v9.1.Sign, .slice as8 ns8 cs8]) ag24 sz24 rfl rfl hx25 rfl (i := 1) rfl rfl rfl ?_
          refine r_loadBA (cs' := [.int .i64 v10.1.Sign, .slice as9 ns9 cs9]) ag24 sz24 rfl rfl hx25 rfl (i := 0) rfl rfl rfl ?_
          obtain ⟨v78, hv51, hb8⟩ := bind_some hb8
          refine r_callG0 ent12 rfl rfl rfl rfl hx25 (ref04_Same_ok _ _ _ _ hv51 hx25.sat (((hs8.mono hF9).mono hF10).mono hF11) ((hs9.mono hF10).mono hF11)) ?_
          rintro _ Fx50 _ wx92 hF50 hx78 ⟨rfl, rfl⟩
          refine r_not rfl rfl rfl (r_pick_false rfl rfl rfl rfl (r_nil ?_))
          refine q_next (fun a ha => ?_)
          cases hb8
          exact ⟨_, hF50, hx78.pick [0, 1, 2, 3, 4, 5, 6, 7] (by decide) rfl, ha.cut (l := [2, 3, 4, 5, 9, 10, 12, 14, 16, 116]) rfl⟩
       ·clear hm
        rcases cond_some hb7 with ⟨hb54, hb7⟩ | ⟨hb54, hb7⟩
        ·refine r_lit 105 rfl hb54 ?_
         refine r_off rfl (by decide) rfl (r_off rfl (by decide) rfl (r_off rfl (by decide) rfl (r_off rfl (by decide) rfl (r_pick_true rfl rfl rfl rfl (r_nil ?_)))))
         refine q_next (fun a ha => ?_)
         cases hb7
         exact ⟨_, Frz.refl _, hx24.pick [0, 1, 2, 3, 4, 5, 6, 7] (by decide) rfl, ha.cut (l := [2, 3, 4, 5, 9, 10, 12, 14, 16, 18, 20, 110]) rfl⟩
        ·refine r_lit 105 rfl hb54 ?_
         refine r_loadBA (cs' := [.int .i64 v7.1.Sign, .slice as6 ns6 cs6]) ag24 sz24 rfl rfl hx24 rfl (i := 3) rfl rfl rfl ?_
         refine r_loadBA (cs' := [.int .i64 v8.1.Sign, .slice as7 ns7 cs7]) ag24 sz24 rfl rfl hx24 rfl (i := 2) rfl rfl rfl ?_
         obtain ⟨v79, hv52, hb7⟩ := bind_some hb7
         refine r_callG0 ent12 rfl rfl rfl rfl hx24 (ref04_Same_ok _ _ _ _ hv52 hx24.sat ((((hs6.mono hF7).mono hF8).mono hF9).mono hF10) (((hs7.mono hF8).mono hF9).mono hF10)) ?_
         rintro _ Fx51 _ wx93 hF51 hx79 ⟨rfl, rfl⟩
         refine r_not rfl rfl rfl (r_pick_false rfl rfl rfl rfl (r_nil ?_))
         refine q_next (fun a ha => ?_)
         cases hb7
         exact ⟨_, hF51, hx79.pick [0, 1, 2, 3, 4, 5, 6, 7] (by decide) rfl, ha.cut (l := [2, 3, 4, 5, 9, 10, 12, 14, 16, 18, 20, 110]) rfl⟩
      ·clear hm
       rcases cond_some hb6 with ⟨hb55, hb6⟩ | ⟨hb55, hb6⟩
       ·refine r_lit 99 rfl hb55 ?_
        refine r_off rfl (by decide) rfl (r_off rfl (by decide) rfl (r_off rfl (by decide) rfl (r_off rfl (by decide) rfl (r_pick_true rfl rfl rfl rfl (r_nil ?_)))))
        refine q_next (fun a ha => ?_)
        cases hb6
        exact ⟨_, Frz.refl _, hx23.pick [0, 1, 2, 3, 4, 5, 6, 7] (by decide) rfl, ha.cut (l := [2, 3, 4, 5, 9, 10, 12, 14, 16, 18, 20, 104]) rfl⟩
       ·refine r_lit 99 rfl hb55 ?_
        refine r_loadBA (cs' := [.int .i64 v5.1.Sign, .slice as4 ns4 cs4]) ag24 sz24 rfl rfl hx23 rfl (i := 5) rfl rfl rfl ?_
        refine r_loadBA (cs' := [.int .i64 v6.1.Sign, .slice as5 ns5 cs5]) ag24 sz24 rfl rfl hx23 rfl (i := 4) rfl rfl rfl ?_
        obtain ⟨v80, hv53, hb6⟩ := bind_some hb6
        refine r_callG0 ent12 rfl rfl rfl rfl hx23 (ref04_Same_ok _ _ _ _ hv53 hx23.sat (((((hs4.mono hF5).mono hF6).mono hF7).mono hF8).mono hF9) ((((hs5.mono hF6).mono hF7).mono hF8).mono hF9)) ?_
        rintro _ Fx52 _ wx94 hF52 hx80 ⟨rfl, rfl⟩
        refine r_not rfl rfl rfl (r_pick_false rfl rfl rfl rfl (r_nil ?_))
        refine q_next (fun a ha => ?_)
        cases hb6
        exact ⟨_, hF52, hx80.pick [0, 1, 2, 3, 4, 5, 6, 7] (by decide) rfl, ha.cut (l := [2, 3, 4, 5, 9, 10, 12, 14, 16, 18, 20, 104]) rfl⟩
     ·clear hm
      rcases cond_some hb5 with ⟨hb56, hb5⟩ | ⟨hb56, hb5⟩
      ·refine r_lit 94 rfl hb56 ?_
       refine r_off rfl (by decide) rfl (r_off rfl (by decide) rfl (r_off rfl (by decide) rfl (r_pick_true rfl rfl rfl rfl (r_nil ?_))))
       refine q_next (fun a ha => ?_)
       cases hb5
       exact ⟨rfl, ha.cut (l := [2, 3, 4, 5, 9, 10, 12, 14, 16, 18, 20, 98]) rfl⟩
      ·refine r_lit 94 rfl hb56 ?_
       refine r_move rfl rfl rfl (r_move rfl rfl rfl ?_)
       refine r_bin rfl rfl rfl rfl rfl ?_
       refine r_pick_false rfl rfl rfl rfl (r_nil ?_)
       refine q_next (fun a ha => ?_)
       cases hb5
       exact ⟨rfl, ha.cut (l := [2, 3, 4, 5, 9, 10, 12, 14, 16, 18, 20, 98]) rfl⟩
    ·clear hm
     rcases cond_some hb4 with ⟨hb57, hb4⟩ | ⟨hb57, hb4⟩
     ·refine r_lit 89 rfl hb57 ?_
      refine r_off rfl (by decide) rfl (r_off rfl (by decide) rfl (r_off rfl (by decide) rfl (r_pick_true rfl rfl rfl rfl (r_nil ?_))))
      refine q_next (fun a ha => ?_)
      cases hb4
      exact ⟨rfl, ha.cut (l := [2, 3, 4, 5, 9, 10, 12, 14, 16, 18, 19, 20, 21, 93]) rfl⟩
     ·refine r_lit 89 rfl hb57 ?_
      refine r_move rfl rfl rfl (r_move rfl rfl rfl ?_)
      refine r_bin rfl rfl rfl rfl rfl ?_
      refine r_pick_false rfl rfl rfl rfl (r_nil ?_)
      refine q_next (fun a ha => ?_)
      cases hb4
      exact ⟨rfl, ha.cut (l := [2, 3, 4, 5, 9, 10, 12, 14, 16, 18, 19, 20, 21, 93]) rfl⟩
  ·clear hm
   rcases cond_some hb2 with ⟨hb58, hb2⟩ | ⟨hb58, hb2⟩
   ·refine r_lit 44 rfl hb58 ?_
    refine r_off rfl (by decide) rfl (r_off rfl (by decide) rfl (r_off rfl (by decide) rfl (r_pick_true rfl rfl rfl rfl (r_nil ?_))))
    refine q_next (fun a ha => ?_)
    cases hb2
    exact ⟨rfl, ha.cut (l := [2, 3, 4, 5, 9, 48]) rfl⟩
   ·refine r_lit 44 rfl hb58 ?_
    refine r_move rfl rfl rfl ?_
    refine r_slen u9 rfl rfl rfl ?_
    refine r_bin rfl rfl rfl rfl rfl ?_
    refine r_pick_false rfl rfl rfl rfl (r_nil ?_)
    refine q_next (fun a ha => ?_)
    cases hb2
    exact ⟨rfl, ha.cut (l := [2, 3, 4, 5, 9, 48]) rfl⟩
 ·clear hm
  rcases cond_some hb1 with ⟨hb59, hb1⟩ | ⟨hb59, hb1⟩
  ·refine r_lit 39 rfl hb59 ?_
   refine r_off rfl (by decide) rfl (r_off rfl (by decide) rfl (r_off rfl (by decide) rfl (r_pick_true rfl rfl rfl rfl (r_nil ?_))))
   refine q_next (fun a ha => ?_)
   cases hb1
   exact ⟨_, Frz.refl _, hx4.pick [0, 1] (by decide) rfl, ha.cut (l := [2, 3, 4, 5, 9, 43]) rfl⟩
  ·refine r_lit 39 rfl hb59 ?_
   refine r_loadBA (cs' := [.int .i64 b1.Sign, .slice as2 ns2 cs2]) ag24 sz24 rfl rfl hx4 rfl (i := 0) rfl rfl rfl ?_
   obtain ⟨v81, hv54, hb1⟩ := bind_some hb1
   refine r_callG0 ent5 rfl rfl rfl rfl hx4 (law04_few_ok _ _ _ _ hv54 hx4.sat ((hs2.mono hF1).mono hF2)) ?_
   rintro _ Fx53 _ wx95 hF53 hx81 ⟨rfl, rfl⟩
   refine r_not rfl rfl rfl (r_pick_false rfl rfl rfl rfl (r_nil ?_))
   refine q_next (fun a ha => ?_)
   cases hb1
   exact ⟨_, hF53, hx81.pick [0, 1] (by decide) rfl, ha.cut (l := [2, 3, 4, 5, 9, 43]) rfl⟩


end Go.Proofs.YtaiiclbemlmmaaaGreatDoor.M
