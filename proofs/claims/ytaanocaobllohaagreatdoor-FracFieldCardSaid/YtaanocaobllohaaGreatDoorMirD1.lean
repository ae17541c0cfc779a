/-
  THE MIRRORS of the fractions' and the big integers' functions, of their references and of the laws, and that each call returns what its mirror says. Printed by gen.py.
-/
import Derived.Test.YtaanocaobllohaaGreatDoorRows
import Derived.Test.YtaanocaobllohaaGreatDoorTrim
import Derived.Test.YtaanocaobllohaaGreatDoorExtC
import Derived.Test.YtaanocaobllohaaGreatDoorRtX
import Derived.Test.YtaanocaobllohaaGreatDoorMirS
namespace Go.Proofs.YtaanocaobllohaaGreatDoor.M
open Go Go.RowKit Rt

theorem ent8 : Ent Tryz.prog 8 := fun _ _ => by kernel_rfl

theorem ent9 : Ent Tryz.prog 9 := fun _ _ => by kernel_rfl

theorem ent45 : Ent Tryz.prog 45 := fun _ _ => by kernel_rfl

theorem u4 : Tryz.prog.underlying 4 = some .bool := by kernel_rfl

def law05_FracField (n : Nat) (ax1 : Frac) (b1 : Frac) (c1 : Frac) : Option Bool :=
 (law05_small n).bind fun v1 =>
 (ref05_Few n (⟨(⟨ax1.P.Sign, ax1.P.Digits⟩ : Big), (⟨ax1.Q.Sign, ax1.Q.Digits⟩ : Big)⟩ : Frac) 12).bind fun v2 =>
 (bif !v2 then
  some true
 else
  (ref05_Few n (⟨(⟨b1.P.Sign, b1.P.Digits⟩ : Big), (⟨b1.Q.Sign, b1.Q.Digits⟩ : Big)⟩ : Frac) 12).bind fun v81 =>
  some (!v81)).bind fun v3 =>
 (bif v3 then
  some true
 else
  (ref05_Few n (⟨(⟨c1.P.Sign, c1.P.Digits⟩ : Big), (⟨c1.Q.Sign, c1.Q.Digits⟩ : Big)⟩ : Frac) 12).bind fun v80 =>
  some (!v80)).bind fun v4 =>
 (bif v4 then
  some true
 else
  (frac_Right n (⟨(⟨ax1.P.Sign, ax1.P.Digits⟩ : Big), (⟨ax1.Q.Sign, ax1.Q.Digits⟩ : Big)⟩ : Frac)).bind fun v79 =>
  some (!v79)).bind fun v5 =>
 (bif v5 then
  some true
 else
  (frac_Right n (⟨(⟨b1.P.Sign, b1.P.Digits⟩ : Big), (⟨b1.Q.Sign, b1.Q.Digits⟩ : Big)⟩ : Frac)).bind fun v78 =>
  some (!v78)).bind fun v6 =>
 (bif v6 then
  some true
 else
  (frac_Right n (⟨(⟨c1.P.Sign, c1.P.Digits⟩ : Big), (⟨c1.Q.Sign, c1.Q.Digits⟩ : Big)⟩ : Frac)).bind fun v77 =>
  some (!v77)).bind fun v7 =>
 bif v7 then
  some v1
 else
  (frac_Add n (⟨(⟨ax1.P.Sign, ax1.P.Digits⟩ : Big), (⟨ax1.Q.Sign, ax1.Q.Digits⟩ : Big)⟩ : Frac) (⟨(⟨b1.P.Sign, b1.P.Digits⟩ : Big), (⟨b1.Q.Sign, b1.Q.Digits⟩ : Big)⟩ : Frac)).bind fun v8 =>
  (law05_right n v8.1 v8.2).bind fun v9 =>
  (frac_Add n (⟨(⟨b1.P.Sign, b1.P.Digits⟩ : Big), (⟨b1.Q.Sign, b1.Q.Digits⟩ : Big)⟩ : Frac) (⟨(⟨ax1.P.Sign, ax1.P.Digits⟩ : Big), (⟨ax1.Q.Sign, ax1.Q.Digits⟩ : Big)⟩ : Frac)).bind fun v10 =>
  (law05_right n v10.1 v10.2).bind fun v11 =>
  (frac_Add n (⟨(⟨b1.P.Sign, b1.P.Digits⟩ : Big), (⟨b1.Q.Sign, b1.Q.Digits⟩ : Big)⟩ : Frac) (⟨(⟨c1.P.Sign, c1.P.Digits⟩ : Big), (⟨c1.Q.Sign, c1.Q.Digits⟩ : Big)⟩ : Frac)).bind fun v12 =>
  (law05_right n v12.1 v12.2).bind fun v13 =>
  (frac_Add n (⟨(⟨v9.1.P.Sign, v9.1.P.Digits⟩ : Big), (⟨v9.1.Q.Sign, v9.1.Q.Digits⟩ : Big)⟩ : Frac) (⟨(⟨c1.P.Sign, c1.P.Digits⟩ : Big), (⟨c1.Q.Sign, c1.Q.Digits⟩ : Big)⟩ : Frac)).bind fun v14 =>
  (law05_right n v14.1 v14.2).bind fun v15 =>
  (frac_Add n (⟨(⟨ax1.P.Sign, ax1.P.Digits⟩ : Big), (⟨ax1.Q.Sign, ax1.Q.Digits⟩ : Big)⟩ : Frac) (⟨(⟨v13.1.P.Sign, v13.1.P.Digits⟩ : Big), (⟨v13.1.Q.Sign, v13.1.Q.Digits⟩ : Big)⟩ : Frac)).bind fun v16 =>
  (law05_right n v16.1 v16.2).bind fun v17 =>
  (bif !v9.2 then
   some true
  else
   some (!v11.2)).bind fun v18 =>
  (bif v18 then
   some true
  else
   some (!v13.2)).bind fun v19 =>
  (bif v19 then
   some true
  else
   some (!v15.2)).bind fun v20 =>
  (bif v20 then
   some true
  else
   some (!v17.2)).bind fun v21 =>
  (bif v21 then
   some true
  else
   (ref05_Same n (⟨(⟨v9.1.P.Sign, v9.1.P.Digits⟩ : Big), (⟨v9.1.Q.Sign, v9.1.Q.Digits⟩ : Big)⟩ : Frac) (⟨(⟨v11.1.P.Sign, v11.1.P.Digits⟩ : Big), (⟨v11.1.Q.Sign, v11.1.Q.Digits⟩ : Big)⟩ : Frac)).bind fun v76 =>
   some (!v76)).bind fun v22 =>
  (bif v22 then
   some true
  else
   (ref05_Same n (⟨(⟨v15.1.P.Sign, v15.1.P.Digits⟩ : Big), (⟨v15.1.Q.Sign, v15.1.Q.Digits⟩ : Big)⟩ : Frac) (⟨(⟨v17.1.P.Sign, v17.1.P.Digits⟩ : Big), (⟨v17.1.Q.Sign, v17.1.Q.Digits⟩ : Big)⟩ : Frac)).bind fun v75 =>
   some (!v75)).bind fun v23 =>
  bif v23 then
   some false
  else
   (frac_Mul n (⟨(⟨ax1.P.Sign, ax1.P.Digits⟩ : Big), (⟨ax1.Q.Sign, ax1.Q.Digits⟩ : Big)⟩ : Frac) (⟨(⟨b1.P.Sign, b1.P.Digits⟩ : Big), (⟨b1.Q.Sign, b1.Q.Digits⟩ : Big)⟩ : Frac)).bind fun v24 =>
   (law05_right n v24.1 v24.2).bind fun v25 =>
   (frac_Mul n (⟨(⟨b1.P.Sign, b1.P.Digits⟩ : Big), (⟨b1.Q.Sign, b1.Q.Digits⟩ : Big)⟩ : Frac) (⟨(⟨ax1.P.Sign, ax1.P.Digits⟩ : Big), (⟨ax1.Q.Sign, ax1.Q.Digits⟩ : Big)⟩ : Frac)).bind fun v26 =>
   (law05_right n v26.1 v26.2).bind fun v27 =>
   (frac_Mul n (⟨(⟨b1.P.Sign, b1.P.Digits⟩ : Big), (⟨b1.Q.Sign, b1.Q.Digits⟩ : Big)⟩ : Frac) (⟨(⟨c1.P.Sign, c1.P.Digits⟩ : Big), (⟨c1.Q.Sign, c1.Q.Digits⟩ : Big)⟩ : Frac)).bind fun v28 =>
   (law05_right n v28.1 v28.2).bind fun v29 =>
   (frac_Mul n (⟨(⟨v25.1.P.Sign, v25.1.P.Digits⟩ : Big), (⟨v25.1.Q.Sign, v25.1.Q.Digits⟩ : Big)⟩ : Frac) (⟨(⟨c1.P.Sign, c1.P.Digits⟩ : Big), (⟨c1.Q.Sign, c1.Q.Digits⟩ : Big)⟩ : Frac)).bind fun v30 =>
   (law05_right n v30.1 v30.2).bind fun v31 =>
   (frac_Mul n (⟨(⟨ax1.P.Sign, ax1.P.Digits⟩ : Big), (⟨ax1.Q.Sign, ax1.Q.Digits⟩ : Big)⟩ : Frac) (⟨(⟨v29.1.P.Sign, v29.1.P.Digits⟩ : Big), (⟨v29.1.Q.Sign, v29.1.Q.Digits⟩ : Big)⟩ : Frac)).bind fun v32 =>
   (law05_right n v32.1 v32.2).bind fun v33 =>
   (bif !v25.2 then
    some true
   else
    some (!v27.2)).bind fun v34 =>
   (bif v34 then
    some true
   else
    some (!v29.2)).bind fun v35 =>
   (bif v35 then
    some true
   else
    some (!v31.2)).bind fun v36 =>
   (bif v36 then
    some true
   else
    some (!v33.2)).bind fun v37 =>
   (bif v37 then
    some true
   else
    (ref05_Same n (⟨(⟨v25.1.P.Sign, v25.1.P.Digits⟩ : Big), (⟨v25.1.Q.Sign, v25.1.Q.Digits⟩ : Big)⟩ : Frac) (⟨(⟨v27.1.P.Sign, v27.1.P.Digits⟩ : Big), (⟨v27.1.Q.Sign, v27.1.Q.Digits⟩ : Big)⟩ : Frac)).bind fun v74 =>
    some (!v74)).bind fun v38 =>
   (bif v38 then
    some true
   else
    (ref05_Same n (⟨(⟨v31.1.P.Sign, v31.1.P.Digits⟩ : Big), (⟨v31.1.Q.Sign, v31.1.Q.Digits⟩ : Big)⟩ : Frac) (⟨(⟨v33.1.P.Sign, v33.1.P.Digits⟩ : Big), (⟨v33.1.Q.Sign, v33.1.Q.Digits⟩ : Big)⟩ : Frac)).bind fun v73 =>
    some (!v73)).bind fun v39 =>
   bif v39 then
    some false
   else
    (frac_Mul n (⟨(⟨ax1.P.Sign, ax1.P.Digits⟩ : Big), (⟨ax1.Q.Sign, ax1.Q.Digits⟩ : Big)⟩ : Frac) (⟨(⟨c1.P.Sign, c1.P.Digits⟩ : Big), (⟨c1.Q.Sign, c1.Q.Digits⟩ : Big)⟩ : Frac)).bind fun v40 =>
    (law05_right n v40.1 v40.2).bind fun v41 =>
    (frac_Mul n (⟨(⟨v9.1.P.Sign, v9.1.P.Digits⟩ : Big), (⟨v9.1.Q.Sign, v9.1.Q.Digits⟩ : Big)⟩ : Frac) (⟨(⟨c1.P.Sign, c1.P.Digits⟩ : Big), (⟨c1.Q.Sign, c1.Q.Digits⟩ : Big)⟩ : Frac)).bind fun v42 =>
    (law05_right n v42.1 v42.2).bind fun v43 =>
    (frac_Add n (⟨(⟨v41.1.P.Sign, v41.1.P.Digits⟩ : Big), (⟨v41.1.Q.Sign, v41.1.Q.Digits⟩ : Big)⟩ : Frac) (⟨(⟨v29.1.P.Sign, v29.1.P.Digits⟩ : Big), (⟨v29.1.Q.Sign, v29.1.Q.Digits⟩ : Big)⟩ : Frac)).bind fun v44 =>
    (law05_right n v44.1 v44.2).bind fun v45 =>
    ((law05_of n 0 1).bind fun v70 =>
    (frac_Add n (⟨(⟨ax1.P.Sign, ax1.P.Digits⟩ : Big), (⟨ax1.Q.Sign, ax1.Q.Digits⟩ : Big)⟩ : Frac) v70).bind fun v71 =>
    (law05_right n v71.1 v71.2).bind fun v72 =>
    some (v72.2, v72.1.P.Sign, v72.1.P.Digits, v72.1.Q.Sign, v72.1.Q.Digits)).bind fun (four1, f1, f2, f3, f4) =>
    ((law05_of n 1 1).bind fun v67 =>
    (frac_Mul n (⟨(⟨ax1.P.Sign, ax1.P.Digits⟩ : Big), (⟨ax1.Q.Sign, ax1.Q.Digits⟩ : Big)⟩ : Frac) v67).bind fun v68 =>
    (law05_right n v68.1 v68.2).bind fun v69 =>
    some (v69.2, v69.1.P.Sign, v69.1.P.Digits, v69.1.Q.Sign, v69.1.Q.Digits)).bind fun (five1, f5, f6, f7, f8) =>
    (bif !v41.2 then
     some true
    else
     some (!v43.2)).bind fun v46 =>
    (bif v46 then
     some true
    else
     some (!v45.2)).bind fun v47 =>
    (bif v47 then
     some true
    else
     some (!four1)).bind fun v48 =>
    (bif v48 then
     some true
    else
     some (!five1)).bind fun v49 =>
    (bif v49 then
     some true
    else
     (ref05_Same n (⟨(⟨v43.1.P.Sign, v43.1.P.Digits⟩ : Big), (⟨v43.1.Q.Sign, v43.1.Q.Digits⟩ : Big)⟩ : Frac) (⟨(⟨v45.1.P.Sign, v45.1.P.Digits⟩ : Big), (⟨v45.1.Q.Sign, v45.1.Q.Digits⟩ : Big)⟩ : Frac)).bind fun v66 =>
     some (!v66)).bind fun v50 =>
    (bif v50 then
     some true
    else
     (ref05_Same n (⟨(⟨f1, f2⟩ : Big), (⟨f3, f4⟩ : Big)⟩ : Frac) (⟨(⟨ax1.P.Sign, ax1.P.Digits⟩ : Big), (⟨ax1.Q.Sign, ax1.Q.Digits⟩ : Big)⟩ : Frac)).bind fun v65 =>
     some (!v65)).bind fun v51 =>
    (bif v51 then
     some true
    else
     (ref05_Same n (⟨(⟨f5, f6⟩ : Big), (⟨f7, f8⟩ : Big)⟩ : Frac) (⟨(⟨ax1.P.Sign, ax1.P.Digits⟩ : Big), (⟨ax1.Q.Sign, ax1.Q.Digits⟩ : Big)⟩ : Frac)).bind fun v64 =>
     some (!v64)).bind fun v52 =>
    bif v52 then
     some false
    else
     (frac_Sub n (⟨(⟨v9.1.P.Sign, v9.1.P.Digits⟩ : Big), (⟨v9.1.Q.Sign, v9.1.Q.Digits⟩ : Big)⟩ : Frac) (⟨(⟨b1.P.Sign, b1.P.Digits⟩ : Big), (⟨b1.Q.Sign, b1.Q.Digits⟩ : Big)⟩ : Frac)).bind fun v53 =>
     (law05_right n v53.1 v53.2).bind fun v54 =>
     (frac_Div n (⟨(⟨v25.1.P.Sign, v25.1.P.Digits⟩ : Big), (⟨v25.1.Q.Sign, v25.1.Q.Digits⟩ : Big)⟩ : Frac) (⟨(⟨b1.P.Sign, b1.P.Digits⟩ : Big), (⟨b1.Q.Sign, b1.Q.Digits⟩ : Big)⟩ : Frac)).bind fun v55 =>
     (bif v1 then
      some v54.2
     else
      some false).bind fun v56 =>
     (bif v56 then
      (ref05_Same n (⟨(⟨v54.1.P.Sign, v54.1.P.Digits⟩ : Big), (⟨v54.1.Q.Sign, v54.1.Q.Digits⟩ : Big)⟩ : Frac) (⟨(⟨ax1.P.Sign, ax1.P.Digits⟩ : Big), (⟨ax1.Q.Sign, ax1.Q.Digits⟩ : Big)⟩ : Frac)).bind fun v63 =>
      some v63
     else
      some false).bind fun v57 =>
     (bif v57 then
      some ((v55.2 == 14) == (b1.P.Sign == 0))
     else
      some false).bind fun v58 =>
     (bif v58 then
      (bif b1.P.Sign == 0 then
       some true
      else
       (bif v55.2 == 0 then
        (ref05_Same n (⟨(⟨v55.1.P.Sign, v55.1.P.Digits⟩ : Big), (⟨v55.1.Q.Sign, v55.1.Q.Digits⟩ : Big)⟩ : Frac) (⟨(⟨ax1.P.Sign, ax1.P.Digits⟩ : Big), (⟨ax1.Q.Sign, ax1.Q.Digits⟩ : Big)⟩ : Frac)).bind fun v62 =>
        some v62
       else
        some false).bind fun v61 =>
       some v61).bind fun v60 =>
      some v60
     else
      some false).bind fun v59 =>
     some v59

set_option maxHeartbeats 1000000 in
set_option maxRecDepth 1000000 in
theorem law05_FracField_ok (n : Nat) (ax1 : Frac) (b1 : Frac) (c1 : Frac) (r : Bool) (hm : law05_FracField n ax1 b1 c1 = some r) {w : World} {F : Frz} (hs : Sat F w) {as1 : Option Addr} {ns1 : Nat} {cs1 : Nat} {as2 : Option Addr} {ns2 : Nat} {cs2 : Nat} {as3 : Option Addr} {ns3 : Nat} {cs3 : Nat} {as4 : Option Addr} {ns4 : Nat} {cs4 : Nat} {as5 : Option Addr} {ns5 : Nat} {cs5 : Nat} {as6 : Option Addr} {ns6 : Nat} {cs6 : Nat} (hs1 : SlR (Rp.int .i64) F as1 ns1 cs1 ax1.P.Digits) (hs2 : SlR (Rp.int .i64) F as2 ns2 cs2 ax1.Q.Digits) (hs3 : SlR (Rp.int .i64) F as3 ns3 cs3 b1.P.Digits) (hs4 : SlR (Rp.int .i64) F as4 ns4 cs4 b1.Q.Digits) (hs5 : SlR (Rp.int .i64) F as5 ns5 cs5 c1.P.Digits) (hs6 : SlR (Rp.int .i64) F as6 ns6 cs6 c1.Q.Digits) (hg3 : FX F 3 (Lib.pow10Tab.map (Value.int .u64))) :
  Calls Tryz.prog 4 #[.agg #[.int .i64 ax1.P.Sign, .slice as1 ns1 cs1, .int .i64 ax1.Q.Sign, .slice as2 ns2 cs2], .agg #[.int .i64 b1.P.Sign, .slice as3 ns3 cs3, .int .i64 b1.Q.Sign, .slice as4 ns4 cs4], .agg #[.int .i64 c1.P.Sign, .slice as5 ns5 cs5, .int .i64 c1.Q.Sign, .slice as6 ns6 cs6]] w fun e w' => ∃ v F' O', e = .returned v ∧ HS F w [] F' O' w' ∧ (v = .bool r ∧ O' = []) := by
 unfold law05_FracField at hm
 have h := HS.init hs
 refine calls_of (args := [.agg #[.int .i64 ax1.P.Sign, .slice as1 ns1 cs1, .int .i64 ax1.Q.Sign, .slice as2 ns2 cs2], .agg #[.int .i64 b1.P.Sign, .slice as3 ns3 cs3, .int .i64 b1.Q.Sign, .slice as4 ns4 cs4], .agg #[.int .i64 c1.P.Sign, .slice as5 ns5 cs5, .int .i64 c1.Q.Sign, .slice as6 ns6 cs6]]) 333 Tryz.func4 rfl rfl rfl ?_
 refine c_seq (c_region ?_)
 refine r_box rfl rfl rfl rfl h ?_
 intro b2 wx1 hx1
 refine r_box rfl rfl rfl rfl hx1 ?_
 intro b3 wx2 hx2
 refine r_box rfl rfl rfl rfl hx2 ?_
 intro b4 wx3 hx3
 refine r_assign rfl rfl rfl (r_nil (q_then (c_seq (c_region ?_))))
 obtain ⟨v1, hv1, hm⟩ := bind_some hm
 refine r_callG0 ent8 rfl rfl rfl rfl hx3 (law05_small_ok _ _ hv1 hx3.sat hg3) ?_
 rintro _ Fx1 _ wx4 hF1 hx4 ⟨rfl, rfl⟩
 refine r_assign rfl rfl rfl (r_nil (q_then (c_seq (c_seq (c_region ?_)))))
 refine r_loadBA (cs' := [.int .i64 ax1.P.Sign, .slice as1 ns1 cs1, .int .i64 ax1.Q.Sign, .slice as2 ns2 cs2]) ag26 sz26 rfl rfl hx4 rfl (i := 2) rfl rfl rfl ?_
 obtain ⟨v2, hv2, hm⟩ := bind_some hm
 refine r_callG0 ent9 rfl rfl rfl rfl hx4 (ref05_Few_ok _ _ _ _ hv2 hx4.sat (hs1.mono hF1) (hs2.mono hF1)) ?_
 rintro _ Fx2 _ wx5 hF2 hx5 ⟨rfl, rfl⟩
 refine r_not rfl rfl rfl (r_move rfl rfl rfl ?_)
 obtain ⟨v3, hb1, hm⟩ := bind_some hm
 refine r_mid 4 (fun a w' => ∃ (Fx3 : Frz), Frz.le Fx2 Fx3 ∧ HS F w [] Fx3 [.box b4 26 [.int .i64 c1.P.Sign, .slice as5 ns5 cs5, .int .i64 c1.Q.Sign, .slice as6 ns6 cs6], .box b3 26 [.int .i64 b1.P.Sign, .slice as3 ns3 cs3, .int .i64 b1.Q.Sign, .slice as4 ns4 cs4], .box b2 26 [.int .i64 ax1.P.Sign, .slice as1 ns1 cs1, .int .i64 ax1.Q.Sign, .slice as2 ns2 cs2]] w' ∧ Has 333 a [(3, .pointer (some ⟨b2, 0, none⟩)), (4, .pointer (some ⟨b3, 0, none⟩)), (5, .pointer (some ⟨b4, 0, none⟩)), (7, .bool v1), (34, .bool v3)]) ?_ ?_
 ·rintro a wx6 ⟨Fx3, hF3, hx6, hax1⟩
  refine rw_apply hax1 ?_
  refine r_move rfl rfl rfl ?_
  obtain ⟨v4, hb2, hm⟩ := bind_some hm
  refine r_mid 4 (fun a w' => ∃ (Fx4 : Frz), Frz.le Fx3 Fx4 ∧ HS F w [] Fx4 [.box b4 26 [.int .i64 c1.P.Sign, .slice as5 ns5 cs5, .int .i64 c1.Q.Sign, .slice as6 ns6 cs6], .box b3 26 [.int .i64 b1.P.Sign, .slice as3 ns3 cs3, .int .i64 b1.Q.Sign, .slice as4 ns4 cs4], .box b2 26 [.int .i64 ax1.P.Sign, .slice as1 ns1 cs1, .int .i64 ax1.Q.Sign, .slice as2 ns2 cs2]] w' ∧ Has 333 a [(3, .pointer (some ⟨b2, 0, none⟩)), (4, .pointer (some ⟨b3, 0, none⟩)), (5, .pointer (some ⟨b4, 0, none⟩)), (7, .bool v1), (39, .bool v4)]) ?_ ?_
  ·rintro a wx7 ⟨Fx4, hF4, hx7, hax2⟩
   refine rw_apply hax2 ?_
   refine r_move rfl rfl rfl ?_
   obtain ⟨v5, hb3, hm⟩ := bind_some hm
   refine r_mid 4 (fun a w' => ∃ (Fx5 : Frz), Frz.le Fx4 Fx5 ∧ HS F w [] Fx5 [.box b4 26 [.int .i64 c1.P.Sign, .slice as5 ns5 cs5, .int .i64 c1.Q.Sign, .slice as6 ns6 cs6], .box b3 26 [.int .i64 b1.P.Sign, .slice as3 ns3 cs3, .int .i64 b1.Q.Sign, .slice as4 ns4 cs4], .box b2 26 [.int .i64 ax1.P.Sign, .slice as1 ns1 cs1, .int .i64 ax1.Q.Sign, .slice as2 ns2 cs2]] w' ∧ Has 333 a [(3, .pointer (some ⟨b2, 0, none⟩)), (4, .pointer (some ⟨b3, 0, none⟩)), (5, .pointer (some ⟨b4, 0, none⟩)), (7, .bool v1), (44, .bool v5)]) ?_ ?_
   ·rintro a wx8 ⟨Fx5, hF5, hx8, hax3⟩
    refine rw_apply hax3 ?_
    refine r_move rfl rfl rfl ?_
    obtain ⟨v6, hb4, hm⟩ := bind_some hm
    refine r_mid 4 (fun a w' => ∃ (Fx6 : Frz), Frz.le Fx5 Fx6 ∧ HS F w [] Fx6 [.box b4 26 [.int .i64 c1.P.Sign, .slice as5 ns5 cs5, .int .i64 c1.Q.Sign, .slice as6 ns6 cs6], .box b3 26 [.int .i64 b1.P.Sign, .slice as3 ns3 cs3, .int .i64 b1.Q.Sign, .slice as4 ns4 cs4], .box b2 26 [.int .i64 ax1.P.Sign, .slice as1 ns1 cs1, .int .i64 ax1.Q.Sign, .slice as2 ns2 cs2]] w' ∧ Has 333 a [(3, .pointer (some ⟨b2, 0, none⟩)), (4, .pointer (some ⟨b3, 0, none⟩)), (5, .pointer (some ⟨b4, 0, none⟩)), (7, .bool v1), (49, .bool v6)]) ?_ ?_
    ·rintro a wx9 ⟨Fx6, hF6, hx9, hax4⟩
     refine rw_apply hax4 ?_
     refine r_move rfl rfl rfl ?_
     obtain ⟨v7, hb5, hm⟩ := bind_some hm
     refine r_mid 4 (fun a w' => ∃ (Fx7 : Frz), Frz.le Fx6 Fx7 ∧ HS F w [] Fx7 [.box b4 26 [.int .i64 c1.P.Sign, .slice as5 ns5 cs5, .int .i64 c1.Q.Sign, .slice as6 ns6 cs6], .box b3 26 [.int .i64 b1.P.Sign, .slice as3 ns3 cs3, .int .i64 b1.Q.Sign, .slice as4 ns4 cs4], .box b2 26 [.int .i64 ax1.P.Sign, .slice as1 ns1 cs1, .int .i64 ax1.Q.Sign, .slice as2 ns2 cs2]] w' ∧ Has 333 a [(3, .pointer (some ⟨b2, 0, none⟩)), (4, .pointer (some ⟨b3, 0, none⟩)), (5, .pointer (some ⟨b4, 0, none⟩)), (7, .bool v1), (54, .bool v7)]) ?_ ?_
     ·rintro a wx10 ⟨Fx7, hF7, hx10, hax5⟩
      refine rw_apply hax5 ?_
      refine r_nil (q_then ?_)
      rcases cond_some hm with ⟨hb6, hm⟩ | ⟨hb6, hm⟩
      ·refine c_lit 54 rfl hb6 ?_
       refine c_true rfl (c_seq (c_region (r_move rfl rfl rfl (r_assign rfl rfl rfl (r_nil (q_then (c_ret (q_then_ret ?_))))))))
       refine b_ret1 rfl rfl ?_
       obtain rfl := Option.some.inj hm
       exact ⟨_, _, _, rfl, hx10.pick [] (by decide) rfl, rfl, rfl⟩
      ·refine c_lit 54 rfl hb6 ?_
       refine c_false rfl (c_skip (q_then (c_seq (c_region ?_))))
       refine r_loadBA (cs' := [.int .i64 ax1.P.Sign, .slice as1 ns1 cs1, .int .i64 ax1.Q.Sign, .slice as2 ns2 cs2]) ag26 sz26 rfl rfl hx10 rfl (i := 2) rfl rfl rfl ?_
       refine r_loadBA (cs' := [.int .i64 b1.P.Sign, .slice as3 ns3 cs3, .int .i64 b1.Q.Sign, .slice as4 ns4 cs4]) ag26 sz26 rfl rfl hx10 rfl (i := 1) rfl rfl rfl ?_
       have hG1 := (((((hF1.trans hF2).trans hF3).trans hF4).trans hF5).trans hF6).trans hF7
       obtain ⟨v8, hv3, hm⟩ := bind_some hm
       refine r_callG0 ent10 rfl rfl rfl rfl hx10 (frac_Add_ok _ _ _ _ hv3 hx10.sat (hs1.mono hG1) (hs2.mono hG1) (hs3.mono hG1) (hs4.mono hG1)) ?_
       rintro _ Fx8 _ wx11 hF8 hx11 ⟨as7, ns7, cs7, as8, ns8, cs8, rfl, rfl, hs7, hs8⟩
       refine r_extract rfl rfl rfl rfl (r_extract rfl rfl rfl rfl ?_)
       obtain ⟨v9, hv4, hm⟩ := bind_some hm
       refine r_callG0 ent45 rfl rfl rfl rfl hx11 (law05_right_ok _ _ _ _ hv4 hx11.sat hs7 hs8) ?_
       rintro _ Fx9 _ wx12 hF9 hx12 ⟨as9, ns9, cs9, as10, ns10, cs10, rfl, rfl, hs9, hs10⟩
       refine r_move rfl rfl rfl (r_extract rfl rfl rfl rfl (r_extract rfl rfl rfl rfl ?_))
       refine r_alloc ze26 rfl rfl rfl hx12 ?_
       intro b5 wx13 hx13
       refine r_store sz26 rfl hx13 rfl rfl rfl rfl (i := 0) rfl rfl rfl rfl ?_
       intro wx14 hx14
       refine r_assign rfl rfl rfl (r_nil (q_then (c_seq (c_region ?_))))
       refine r_loadBA (cs' := [.int .i64 b1.P.Sign, .slice as3 ns3 cs3, .int .i64 b1.Q.Sign, .slice as4 ns4 cs4]) ag26 sz26 rfl rfl hx14 rfl (i := 2) rfl rfl rfl ?_
       refine r_loadBA (cs' := [.int .i64 ax1.P.Sign, .slice as1 ns1 cs1, .int .i64 ax1.Q.Sign, .slice as2 ns2 cs2]) ag26 sz26 rfl rfl hx14 rfl (i := 3) rfl rfl rfl ?_
       obtain ⟨v10, hv5, hm⟩ := bind_some hm
       refine r_callG0 ent10 rfl rfl rfl rfl hx14 (frac_Add_ok _ _ _ _ hv5 hx14.sat (((hs3.mono hG1).mono hF8).mono hF9) (((hs4.mono hG1).mono hF8).mono hF9) (((hs1.mono hG1).mono hF8).mono hF9) (((hs2.mono hG1).mono hF8).mono hF9)) ?_
       rintro _ Fx10 _ wx15 hF10 hx15 ⟨as11, ns11, cs11, as12, ns12, cs12, rfl, rfl, hs11, hs12⟩
       refine r_extract rfl rfl rfl rfl (r_extract rfl rfl rfl rfl ?_)
       obtain ⟨v11, hv6, hm⟩ := bind_some hm
       refine r_callG0 ent45 rfl rfl rfl rfl hx15 (law05_right_ok _ _ _ _ hv6 hx15.sat hs11 hs12) ?_
       rintro _ Fx11 _ wx16 hF11 hx16 ⟨as13, ns13, cs13, as14, ns14, cs14, rfl, rfl, hs13, hs14⟩
       refine r_move rfl rfl rfl (r_extract rfl rfl rfl rfl (r_extract rfl rfl rfl rfl ?_))
       refine r_alloc ze26 rfl rfl rfl hx16 ?_
       intro b6 wx17 hx17
       refine r_store sz26 rfl hx17 rfl rfl rfl rfl (i := 0) rfl rfl rfl rfl ?_
       intro wx18 hx18
       refine r_assign rfl rfl rfl (r_nil (q_then (c_seq (c_region ?_))))
       refine r_loadBA (cs' := [.int .i64 b1.P.Sign, .slice as3 ns3 cs3, .int .i64 b1.Q.Sign, .slice as4 ns4 cs4]) ag26 sz26 rfl rfl hx18 rfl (i := 3) rfl rfl rfl ?_
       refine r_loadBA (cs' := [.int .i64 c1.P.Sign, .slice as5 ns5 cs5, .int .i64 c1.Q.Sign, .slice as6 ns6 cs6]) ag26 sz26 rfl rfl hx18 rfl (i := 2) rfl rfl rfl ?_
       have hG2 := (((hG1.trans hF8).trans hF9).trans hF10).trans hF11
       obtain ⟨v12, hv7, hm⟩ := bind_some hm
       refine r_callG0 ent10 rfl rfl rfl rfl hx18 (frac_Add_ok _ _ _ _ hv7 hx18.sat (hs3.mono hG2) (hs4.mono hG2) (hs5.mono hG2) (hs6.mono hG2)) ?_
       rintro _ Fx12 _ wx19 hF12 hx19 ⟨as15, ns15, cs15, as16, ns16, cs16, rfl, rfl, hs15, hs16⟩
       refine r_extract rfl rfl rfl rfl (r_extract rfl rfl rfl rfl ?_)
       obtain ⟨v13, hv8, hm⟩ := bind_some hm
       refine r_callG0 ent45 rfl rfl rfl rfl hx19 (law05_right_ok _ _ _ _ hv8 hx19.sat hs15 hs16) ?_
       rintro _ Fx13 _ wx20 hF13 hx20 ⟨as17, ns17, cs17, as18, ns18, cs18, rfl, rfl, hs17, hs18⟩
       refine r_move rfl rfl rfl (r_extract rfl rfl rfl rfl (r_extract rfl rfl rfl rfl ?_))
       refine r_alloc ze26 rfl rfl rfl hx20 ?_
       intro b7 wx21 hx21
       refine r_store sz26 rfl hx21 rfl rfl rfl rfl (i := 0) rfl rfl rfl rfl ?_
       intro wx22 hx22
       refine r_assign rfl rfl rfl (r_nil (q_then (c_seq (c_region ?_))))
       refine r_loadBA (cs' := [.int .i64 v9.1.P.Sign, .slice as9 ns9 cs9, .int .i64 v9.1.Q.Sign, .slice as10 ns10 cs10]) ag26 sz26 rfl rfl hx22 rfl (i := 2) rfl rfl rfl ?_
       refine r_loadBA (cs' := [.int .i64 c1.P.Sign, .slice as5 ns5 cs5, .int .i64 c1.Q.Sign, .slice as6 ns6 cs6]) ag26 sz26 rfl rfl hx22 rfl (i := 3) rfl rfl rfl ?_
       have hG3 := ((hF10.trans hF11).trans hF12).trans hF13
       obtain ⟨v14, hv9, hm⟩ := bind_some hm
       refine r_callG0 ent10 rfl rfl rfl rfl hx22 (frac_Add_ok _ _ _ _ hv9 hx22.sat (hs9.mono hG3) (hs10.mono hG3) (((hs5.mono hG2).mono hF12).mono hF13) (((hs6.mono hG2).mono hF12).mono hF13)) ?_
       rintro _ Fx14 _ wx23 hF14 hx23 ⟨as19, ns19, cs19, as20, ns20, cs20, rfl, rfl, hs19, hs20⟩
       refine r_extract rfl rfl rfl rfl (r_extract rfl rfl rfl rfl ?_)
       obtain ⟨v15, hv10, hm⟩ := bind_some hm
       refine r_callG0 ent45 rfl rfl rfl rfl hx23 (law05_right_ok _ _ _ _ hv10 hx23.sat hs19 hs20) ?_
       rintro _ Fx15 _ wx24 hF15 hx24 ⟨as21, ns21, cs21, as22, ns22, cs22, rfl, rfl, hs21, hs22⟩
       refine r_move rfl rfl rfl (r_extract rfl rfl rfl rfl (r_extract rfl rfl rfl rfl ?_))
       refine r_alloc ze26 rfl rfl rfl hx24 ?_
       intro b8 wx25 hx25
       refine r_store sz26 rfl hx25 rfl rfl rfl rfl (i := 0) rfl rfl rfl rfl ?_
       intro wx26 hx26
       refine r_assign rfl rfl rfl (r_nil (q_then (c_seq (c_region ?_))))
       refine r_loadBA (cs' := [.int .i64 ax1.P.Sign, .slice as1 ns1 cs1, .int .i64 ax1.Q.Sign, .slice as2 ns2 cs2]) ag26 sz26 rfl rfl hx26 rfl (i := 6) rfl rfl rfl ?_
       refine r_loadBA (cs' := [.int .i64 v13.1.P.Sign, .slice as17 ns17 cs17, .int .i64 v13.1.Q.Sign, .slice as18 ns18 cs18]) ag26 sz26 rfl rfl hx26 rfl (i := 1) rfl rfl rfl ?_
       have hG4 := (((hG2.trans hF12).trans hF13).trans hF14).trans hF15
       obtain ⟨v16, hv11, hm⟩ := bind_some hm
       refine r_callG0 ent10 rfl rfl rfl rfl hx26 (frac_Add_ok _ _ _ _ hv11 hx26.sat (hs1.mono hG4) (hs2.mono hG4) ((hs17.mono hF14).mono hF15) ((hs18.mono hF14).mono hF15)) ?_
       rintro _ Fx16 _ wx27 hF16 hx27 ⟨as23, ns23, cs23, as24, ns24, cs24, rfl, rfl, hs23, hs24⟩
       refine r_extract rfl rfl rfl rfl (r_extract rfl rfl rfl rfl ?_)
       obtain ⟨v17, hv12, hm⟩ := bind_some hm
       refine r_callG0 ent45 rfl rfl rfl rfl hx27 (law05_right_ok _ _ _ _ hv12 hx27.sat hs23 hs24) ?_
       rintro _ Fx17 _ wx28 hF17 hx28 ⟨as25, ns25, cs25, as26, ns26, cs26, rfl, rfl, hs25, hs26⟩
       refine r_move rfl rfl rfl (r_extract rfl rfl rfl rfl (r_extract rfl rfl rfl rfl ?_))
       refine r_alloc ze26 rfl rfl rfl hx28 ?_
       intro b9 wx29 hx29
       refine r_store sz26 rfl hx29 rfl rfl rfl rfl (i := 0) rfl rfl rfl rfl ?_
       intro wx30 hx30
       refine r_assign rfl rfl rfl (r_nil (q_then (c_seq (c_seq (c_region (r_move rfl rfl rfl (r_not rfl rfl rfl (r_move rfl rfl rfl ?_))))))))
       obtain ⟨v18, hb7, hm⟩ := bind_some hm
       refine r_mid 3 (fun a w' => wx30 = w' ∧ Has 333 a [(3, .pointer (some ⟨b2, 0, none⟩)), (4, .pointer (some ⟨b3, 0, none⟩)), (5, .pointer (some ⟨b4, 0, none⟩)), (7, .bool v1), (8, .pointer (some ⟨b5, 0, none⟩)), (10, .pointer (some ⟨b6, 0, none⟩)), (13, .bool v13.2), (14, .pointer (some ⟨b8, 0, none⟩)), (15, .bool v15.2), (16, .pointer (some ⟨b9, 0, none⟩)), (17, .bool v17.2), (106, .bool v18)]) ?_ ?_
       ·rintro a wx31 ⟨rfl, hax6⟩
        refine rw_apply hax6 ?_
        refine r_move rfl rfl rfl ?_
        obtain ⟨v19, hb8, hm⟩ := bind_some hm
        refine r_mid 3 (fun a w' => wx30 = w' ∧ Has 333 a [(3, .pointer (some ⟨b2, 0, none⟩)), (4, .pointer (some ⟨b3, 0, none⟩)), (5, .pointer (some ⟨b4, 0, none⟩)), (7, .bool v1), (8, .pointer (some ⟨b5, 0, none⟩)), (10, .pointer (some ⟨b6, 0, none⟩)), (14, .pointer (some ⟨b8, 0, none⟩)), (15, .bool v15.2), (16, .pointer (some ⟨b9, 0, none⟩)), (17, .bool v17.2), (110, .bool v19)]) ?_ ?_
        ·rintro a wx32 ⟨rfl, hax7⟩
         refine rw_apply hax7 ?_
         refine r_move rfl rfl rfl ?_
         obtain ⟨v20, hb9, hm⟩ := bind_some hm
         refine r_mid 3 (fun a w' => wx30 = w' ∧ Has 333 a [(3, .pointer (some ⟨b2, 0, none⟩)), (4, .pointer (some ⟨b3, 0, none⟩)), (5, .pointer (some ⟨b4, 0, none⟩)), (7, .bool v1), (8, .pointer (some ⟨b5, 0, none⟩)), (10, .pointer (some ⟨b6, 0, none⟩)), (14, .pointer (some ⟨b8, 0, none⟩)), (16, .pointer (some ⟨b9, 0, none⟩)), (17, .bool v17.2), (114, .bool v20)]) ?_ ?_
         ·rintro a wx33 ⟨rfl, hax8⟩
          refine rw_apply hax8 ?_
          refine r_move rfl rfl rfl ?_
          obtain ⟨v21, hb10, hm⟩ := bind_some hm
          refine r_mid 3 (fun a w' => wx30 = w' ∧ Has 333 a [(3, .pointer (some ⟨b2, 0, none⟩)), (4, .pointer (some ⟨b3, 0, none⟩)), (5, .pointer (some ⟨b4, 0, none⟩)), (7, .bool v1), (8, .pointer (some ⟨b5, 0, none⟩)), (10, .pointer (some ⟨b6, 0, none⟩)), (14, .pointer (some ⟨b8, 0, none⟩)), (16, .pointer (some ⟨b9, 0, none⟩)), (118, .bool v21)]) ?_ ?_
          ·rintro a wx34 ⟨rfl, hax9⟩
           refine rw_apply hax9 ?_
           refine r_move rfl rfl rfl ?_
           obtain ⟨v22, hb11, hm⟩ := bind_some hm
           refine r_mid 5 (fun a w' => ∃ (Fx18 : Frz), Frz.le Fx17 Fx18 ∧ HS F w [] Fx18 [.box b9 26 [.int .i64 v17.1.P.Sign, .slice as25 ns25 cs25, .int .i64 v17.1.Q.Sign, .slice as26 ns26 cs26], .box b8 26 [.int .i64 v15.1.P.Sign, .slice as21 ns21 cs21, .int .i64 v15.1.Q.Sign, .slice as22 ns22 cs22], .box b7 26 [.int .i64 v13.1.P.Sign, .slice as17 ns17 cs17, .int .i64 v13.1.Q.Sign, .slice as18 ns18 cs18], .box b6 26 [.int .i64 v11.1.P.Sign, .slice as13 ns13 cs13, .int .i64 v11.1.Q.Sign, .slice as14 ns14 cs14], .box b5 26 [.int .i64 v9.1.P.Sign, .slice as9 ns9 cs9, .int .i64 v9.1.Q.Sign, .slice as10 ns10 cs10], .box b4 26 [.int .i64 c1.P.Sign, .slice as5 ns5 cs5, .int .i64 c1.Q.Sign, .slice as6 ns6 cs6], .box b3 26 [.int .i64 b1.P.Sign, .slice as3 ns3 cs3, .int .i64 b1.Q.Sign, .slice as4 ns4 cs4], .box b2 26 [.int .i64 ax1.P.Sign, .slice as1 ns1 cs1, .int .i64 ax1.Q.Sign, .slice as2 ns2 cs2]] w' ∧ Has 333 a [(3, .pointer (some ⟨b2, 0, none⟩)), (4, .pointer (some ⟨b3, 0, none⟩)), (5, .pointer (some ⟨b4, 0, none⟩)), (7, .bool v1), (8, .pointer (some ⟨b5, 0, none⟩)), (14, .pointer (some ⟨b8, 0, none⟩)), (16, .pointer (some ⟨b9, 0, none⟩)), (124, .bool v22)]) ?_ ?_
           ·rintro a wx35 ⟨Fx18, hF18, hx31, hax10⟩
            refine rw_apply hax10 ?_
            refine r_move rfl rfl rfl ?_
            obtain ⟨v23, hb12, hm⟩ := bind_some hm
            refine r_mid 5 (fun a w' => ∃ (Fx19 : Frz), Frz.le Fx18 Fx19 ∧ HS F w [] Fx19 [.box b9 26 [.int .i64 v17.1.P.Sign, .slice as25 ns25 cs25, .int .i64 v17.1.Q.Sign, .slice as26 ns26 cs26], .box b8 26 [.int .i64 v15.1.P.Sign, .slice as21 ns21 cs21, .int .i64 v15.1.Q.Sign, .slice as22 ns22 cs22], .box b7 26 [.int .i64 v13.1.P.Sign, .slice as17 ns17 cs17, .int .i64 v13.1.Q.Sign, .slice as18 ns18 cs18], .box b6 26 [.int .i64 v11.1.P.Sign, .slice as13 ns13 cs13, .int .i64 v11.1.Q.Sign, .slice as14 ns14 cs14], .box b5 26 [.int .i64 v9.1.P.Sign, .slice as9 ns9 cs9, .int .i64 v9.1.Q.Sign, .slice as10 ns10 cs10], .box b4 26 [.int .i64 c1.P.Sign, .slice as5 ns5 cs5, .int .i64 c1.Q.Sign, .slice as6 ns6 cs6], .box b3 26 [.int .i64 b1.P.Sign, .slice as3 ns3 cs3, .int .i64 b1.Q.Sign, .slice as4 ns4 cs4], .box b2 26 [.int .i64 ax1.P.Sign, .slice as1 ns1 cs1, .int .i64 ax1.Q.Sign, .slice as2 ns2 cs2]] w' ∧ Has 333 a [(3, .pointer (some ⟨b2, 0, none⟩)), (4, .pointer (some ⟨b3, 0, none⟩)), (5, .pointer (some ⟨b4, 0, none⟩)), (7, .bool v1), (8, .pointer (some ⟨b5, 0, none⟩)), (14, .pointer (some ⟨b8, 0, none⟩)), (16, .pointer (some ⟨b9, 0, none⟩)), (130, .bool v23)]) ?_ ?_
            ·rintro a wx36 ⟨Fx19, hF19, hx32, hax11⟩
             refine rw_apply hax11 ?_
             refine r_nil (q_then ?_)
             rcases cond_some hm with ⟨hb13, hm⟩ | ⟨hb13, hm⟩
             ·refine c_lit 130 rfl hb13 ?_
              refine c_true rfl (c_seq (c_region (r_assign rfl rfl rfl (r_nil (q_then (c_ret (q_then_ret ?_)))))))
              refine b_ret1 rfl rfl ?_
              obtain rfl := Option.some.inj hm
              exact ⟨_, _, _, rfl, hx32.pick [] (by decide) rfl, rfl, rfl⟩
             ·refine c_lit 130 rfl hb13 ?_
              refine c_false rfl (c_skip (q_then (c_seq (c_region ?_))))
              refine r_loadBA (cs' := [.int .i64 ax1.P.Sign, .slice as1 ns1 cs1, .int .i64 ax1.Q.Sign, .slice as2 ns2 cs2]) ag26 sz26 rfl rfl hx32 rfl (i := 7) rfl rfl rfl ?_
              refine r_loadBA (cs' := [.int .i64 b1.P.Sign, .slice as3 ns3 cs3, .int .i64 b1.Q.Sign, .slice as4 ns4 cs4]) ag26 sz26 rfl rfl hx32 rfl (i := 6) rfl rfl rfl ?_
              have hG5 := (((hG4.trans hF16).trans hF17).trans hF18).trans hF19
              obtain ⟨v24, hv13, hm⟩ := bind_some hm
              refine r_callG0 ent15 rfl rfl rfl rfl hx32 (frac_Mul_ok _ _ _ _ hv13 hx32.sat (hs1.mono hG5) (hs2.mono hG5) (hs3.mono hG5) (hs4.mono hG5)) ?_
              rintro _ Fx20 _ wx37 hF20 hx33 ⟨as27, ns27, cs27, as28, ns28, cs28, rfl, rfl, hs27, hs28⟩
              refine r_extract rfl rfl rfl rfl (r_extract rfl rfl rfl rfl ?_)
              obtain ⟨v25, hv14, hm⟩ := bind_some hm
              refine r_callG0 ent45 rfl rfl rfl rfl hx33 (law05_right_ok _ _ _ _ hv14 hx33.sat hs27 hs28) ?_
              rintro _ Fx21 _ wx38 hF21 hx34 ⟨as29, ns29, cs29, as30, ns30, cs30, rfl, rfl, hs29, hs30⟩
              refine r_move rfl rfl rfl (r_extract rfl rfl rfl rfl (r_extract rfl rfl rfl rfl ?_))
              refine r_alloc ze26 rfl rfl rfl hx34 ?_
              intro b10 wx39 hx35
              refine r_store sz26 rfl hx35 rfl rfl rfl rfl (i := 0) rfl rfl rfl rfl ?_
              intro wx40 hx36
              refine r_assign rfl rfl rfl (r_nil (q_then (c_seq (c_region ?_))))
              refine r_loadBA (cs' := [.int .i64 b1.P.Sign, .slice as3 ns3 cs3, .int .i64 b1.Q.Sign, .slice as4 ns4 cs4]) ag26 sz26 rfl rfl hx36 rfl (i := 7) rfl rfl rfl ?_
              refine r_loadBA (cs' := [.int .i64 ax1.P.Sign, .slice as1 ns1 cs1, .int .i64 ax1.Q.Sign, .slice as2 ns2 cs2]) ag26 sz26 rfl rfl hx36 rfl (i := 8) rfl rfl rfl ?_
              obtain ⟨v26, hv15, hm⟩ := bind_some hm
              refine r_callG0 ent15 rfl rfl rfl rfl hx36 (frac_Mul_ok _ _ _ _ hv15 hx36.sat (((hs3.mono hG5).mono hF20).mono hF21) (((hs4.mono hG5).mono hF20).mono hF21) (((hs1.mono hG5).mono hF20).mono hF21) (((hs2.mono hG5).mono hF20).mono hF21)) ?_
              rintro _ Fx22 _ wx41 hF22 hx37 ⟨as31, ns31, cs31, as32, ns32, cs32, rfl, rfl, hs31, hs32⟩
              refine r_extract rfl rfl rfl rfl (r_extract rfl rfl rfl rfl ?_)
              obtain ⟨v27, hv16, hm⟩ := bind_some hm
              refine r_callG0 ent45 rfl rfl rfl rfl hx37 (law05_right_ok _ _ _ _ hv16 hx37.sat hs31 hs32) ?_
              rintro _ Fx23 _ wx42 hF23 hx38 ⟨as33, ns33, cs33, as34, ns34, cs34, rfl, rfl, hs33, hs34⟩
              refine r_move rfl rfl rfl (r_extract rfl rfl rfl rfl (r_extract rfl rfl rfl rfl ?_))
              refine r_alloc ze26 rfl rfl rfl hx38 ?_
              intro b11 wx43 hx39
              refine r_store sz26 rfl hx39 rfl rfl rfl rfl (i := 0) rfl rfl rfl rfl ?_
              intro wx44 hx40
              refine r_assign rfl rfl rfl (r_nil (q_then (c_seq (c_region ?_))))
              refine r_loadBA (cs' := [.int .i64 b1.P.Sign, .slice as3 ns3 cs3, .int .i64 b1.Q.Sign, .slice as4 ns4 cs4]) ag26 sz26 rfl rfl hx40 rfl (i := 8) rfl rfl rfl ?_
              refine r_loadBA (cs' := [.int .i64 c1.P.Sign, .slice as5 ns5 cs5, .int .i64 c1.Q.Sign, .slice as6 ns6 cs6]) ag26 sz26 rfl rfl hx40 rfl (i := 7) rfl rfl rfl ?_
              have hG6 := (((hG5.trans hF20).trans hF21).trans hF22).trans hF23
              obtain ⟨v28, hv17, hm⟩ := bind_some hm
              refine r_callG0 ent15 rfl rfl rfl rfl hx40 (frac_Mul_ok _ _ _ _ hv17 hx40.sat (hs3.mono hG6) (hs4.mono hG6) (hs5.mono hG6) (hs6.mono hG6)) ?_
              rintro _ Fx24 _ wx45 hF24 hx41 ⟨as35, ns35, cs35, as36, ns36, cs36, rfl, rfl, hs35, hs36⟩
              refine r_extract rfl rfl rfl rfl (r_extract rfl rfl rfl rfl ?_)
              obtain ⟨v29, hv18, hm⟩ := bind_some hm
              refine r_callG0 ent45 rfl rfl rfl rfl hx41 (law05_right_ok _ _ _ _ hv18 hx41.sat hs35 hs36) ?_
              rintro _ Fx25 _ wx46 hF25 hx42 ⟨as37, ns37, cs37, as38, ns38, cs38, rfl, rfl, hs37, hs38⟩
              refine r_move rfl rfl rfl (r_extract rfl rfl rfl rfl (r_extract rfl rfl rfl rfl ?_))
              refine r_alloc ze26 rfl rfl rfl hx42 ?_
              intro b12 wx47 hx43
              refine r_store sz26 rfl hx43 rfl rfl rfl rfl (i := 0) rfl rfl rfl rfl ?_
              intro wx48 hx44
              refine r_assign rfl rfl rfl (r_nil (q_then (c_seq (c_region ?_))))
              refine r_loadBA (cs' := [.int .i64 v25.1.P.Sign, .slice as29 ns29 cs29, .int .i64 v25.1.Q.Sign, .slice as30 ns30 cs30]) ag26 sz26 rfl rfl hx44 rfl (i := 2) rfl rfl rfl ?_
              refine r_loadBA (cs' := [.int .i64 c1.P.Sign, .slice as5 ns5 cs5, .int .i64 c1.Q.Sign, .slice as6 ns6 cs6]) ag26 sz26 rfl rfl hx44 rfl (i := 8) rfl rfl rfl ?_
              have hG7 := ((hF22.trans hF23).trans hF24).trans hF25
              obtain ⟨v30, hv19, hm⟩ := bind_some hm
              refine r_callG0 ent15 rfl rfl rfl rfl hx44 (frac_Mul_ok _ _ _ _ hv19 hx44.sat (hs29.mono hG7) (hs30.mono hG7) (((hs5.mono hG6).mono hF24).mono hF25) (((hs6.mono hG6).mono hF24).mono hF25)) ?_
              rintro _ Fx26 _ wx49 hF26 hx45 ⟨as39, ns39, cs39, as40, ns40, cs40, rfl, rfl, hs39, hs40⟩
              refine r_extract rfl rfl rfl rfl (r_extract rfl rfl rfl rfl ?_)
              obtain ⟨v31, hv20, hm⟩ := bind_some hm
              refine r_callG0 ent45 rfl rfl rfl rfl hx45 (law05_right_ok _ _ _ _ hv20 hx45.sat hs39 hs40) ?_
              rintro _ Fx27 _ wx50 hF27 hx46 ⟨as41, ns41, cs41, as42, ns42, cs42, rfl, rfl, hs41, hs42⟩
              refine r_move rfl rfl rfl (r_extract rfl rfl rfl rfl (r_extract rfl rfl rfl rfl ?_))
              refine r_store sz26 rfl hx46 rfl rfl rfl rfl (i := 4) rfl rfl rfl rfl ?_
              intro wx51 hx47
              refine r_assign rfl rfl rfl (r_nil (q_then (c_seq (c_region ?_))))
              refine r_loadBA (cs' := [.int .i64 ax1.P.Sign, .slice as1 ns1 cs1, .int .i64 ax1.Q.Sign, .slice as2 ns2 cs2]) ag26 sz26 rfl rfl hx47 rfl (i := 10) rfl rfl rfl ?_
              refine r_loadBA (cs' := [.int .i64 v29.1.P.Sign, .slice as37 ns37 cs37, .int .i64 v29.1.Q.Sign, .slice as38 ns38 cs38]) ag26 sz26 rfl rfl hx47 rfl (i := 0) rfl rfl rfl ?_
              have hG8 := (((hG6.trans hF24).trans hF25).trans hF26).trans hF27
              obtain ⟨v32, hv21, hm⟩ := bind_some hm
              refine r_callG0 ent15 rfl rfl rfl rfl hx47 (frac_Mul_ok _ _ _ _ hv21 hx47.sat (hs1.mono hG8) (hs2.mono hG8) ((hs37.mono hF26).mono hF27) ((hs38.mono hF26).mono hF27)) ?_
              rintro _ Fx28 _ wx52 hF28 hx48 ⟨as43, ns43, cs43, as44, ns44, cs44, rfl, rfl, hs43, hs44⟩
              refine r_extract rfl rfl rfl rfl (r_extract rfl rfl rfl rfl ?_)
              obtain ⟨v33, hv22, hm⟩ := bind_some hm
              refine r_callG0 ent45 rfl rfl rfl rfl hx48 (law05_right_ok _ _ _ _ hv22 hx48.sat hs43 hs44) ?_
              rintro _ Fx29 _ wx53 hF29 hx49 ⟨as45, ns45, cs45, as46, ns46, cs46, rfl, rfl, hs45, hs46⟩
              refine r_move rfl rfl rfl (r_extract rfl rfl rfl rfl (r_extract rfl rfl rfl rfl ?_))
              refine r_store sz26 rfl hx49 rfl rfl rfl rfl (i := 3) rfl rfl rfl rfl ?_
              intro wx54 hx50
              refine r_assign rfl rfl rfl (r_nil (q_then (c_seq (c_seq (c_region (r_move rfl rfl rfl (r_not rfl rfl rfl (r_move rfl rfl rfl ?_))))))))
              obtain ⟨v34, hb14, hm⟩ := bind_some hm
              refine r_mid 3 (fun a w' => wx54 = w' ∧ Has 333 a [(3, .pointer (some ⟨b2, 0, none⟩)), (4, .pointer (some ⟨b3, 0, none⟩)), (5, .pointer (some ⟨b4, 0, none⟩)), (7, .bool v1), (8, .pointer (some ⟨b5, 0, none⟩)), (13, .bool v29.2), (14, .pointer (some ⟨b8, 0, none⟩)), (15, .bool v31.2), (16, .pointer (some ⟨b9, 0, none⟩)), (17, .bool v33.2), (18, .pointer (some ⟨b10, 0, none⟩)), (19, .pointer (some ⟨b11, 0, none⟩)), (20, .pointer (some ⟨b12, 0, none⟩)), (181, .bool v34)]) ?_ ?_
              ·rintro a wx55 ⟨rfl, hax12⟩
               refine rw_apply hax12 ?_
               refine r_move rfl rfl rfl ?_
               obtain ⟨v35, hb15, hm⟩ := bind_some hm
               refine r_mid 3 (fun a w' => wx54 = w' ∧ Has 333 a [(3, .pointer (some ⟨b2, 0, none⟩)), (4, .pointer (some ⟨b3, 0, none⟩)), (5, .pointer (some ⟨b4, 0, none⟩)), (7, .bool v1), (8, .pointer (some ⟨b5, 0, none⟩)), (14, .pointer (some ⟨b8, 0, none⟩)), (15, .bool v31.2), (16, .pointer (some ⟨b9, 0, none⟩)), (17, .bool v33.2), (18, .pointer (some ⟨b10, 0, none⟩)), (19, .pointer (some ⟨b11, 0, none⟩)), (20, .pointer (some ⟨b12, 0, none⟩)), (185, .bool v35)]) ?_ ?_
               ·rintro a wx56 ⟨rfl, hax13⟩
                refine rw_apply hax13 ?_
                refine r_move rfl rfl rfl ?_
                obtain ⟨v36, hb16, hm⟩ := bind_some hm
                refine r_mid 3 (fun a w' => wx54 = w' ∧ Has 333 a [(3, .pointer (some ⟨b2, 0, none⟩)), (4, .pointer (some ⟨b3, 0, none⟩)), (5, .pointer (some ⟨b4, 0, none⟩)), (7, .bool v1), (8, .pointer (some ⟨b5, 0, none⟩)), (14, .pointer (some ⟨b8, 0, none⟩)), (16, .pointer (some ⟨b9, 0, none⟩)), (17, .bool v33.2), (18, .pointer (some ⟨b10, 0, none⟩)), (19, .pointer (some ⟨b11, 0, none⟩)), (20, .pointer (some ⟨b12, 0, none⟩)), (189, .bool v36)]) ?_ ?_
                ·rintro a wx57 ⟨rfl, hax14⟩
                 refine rw_apply hax14 ?_
                 refine r_move rfl rfl rfl ?_
                 obtain ⟨v37, hb17, hm⟩ := bind_some hm
                 refine r_mid 3 (fun a w' => wx54 = w' ∧ Has 333 a [(3, .pointer (some ⟨b2, 0, none⟩)), (4, .pointer (some ⟨b3, 0, none⟩)), (5, .pointer (some ⟨b4, 0, none⟩)), (7, .bool v1), (8, .pointer (some ⟨b5, 0, none⟩)), (14, .pointer (some ⟨b8, 0, none⟩)), (16, .pointer (some ⟨b9, 0, none⟩)), (18, .pointer (some ⟨b10, 0, none⟩)), (19, .pointer (some ⟨b11, 0, none⟩)), (20, .pointer (some ⟨b12, 0, none⟩)), (193, .bool v37)]) ?_ ?_
                 ·rintro a wx58 ⟨rfl, hax15⟩
                  refine rw_apply hax15 ?_
                  refine r_move rfl rfl rfl ?_
                  obtain ⟨v38, hb18, hm⟩ := bind_some hm
                  refine r_mid 5 (fun a w' => ∃ (Fx30 : Frz), Frz.le Fx29 Fx30 ∧ HS F w [] Fx30 [.box b12 26 [.int .i64 v29.1.P.Sign, .slice as37 ns37 cs37, .int .i64 v29.1.Q.Sign, .slice as38 ns38 cs38], .box b11 26 [.int .i64 v27.1.P.Sign, .slice as33 ns33 cs33, .int .i64 v27.1.Q.Sign, .slice as34 ns34 cs34], .box b10 26 [.int .i64 v25.1.P.Sign, .slice as29 ns29 cs29, .int .i64 v25.1.Q.Sign, .slice as30 ns30 cs30], .box b9 26 [.int .i64 v33.1.P.Sign, .slice as45 ns45 cs45, .int .i64 v33.1.Q.Sign, .slice as46 ns46 cs46], .box b8 26 [.int .i64 v31.1.P.Sign, .slice as41 ns41 cs41, .int .i64 v31.1.Q.Sign, .slice as42 ns42 cs42], .box b7 26 [.int .i64 v13.1.P.Sign, .slice as17 ns17 cs17, .int .i64 v13.1.Q.Sign, .slice as18 ns18 cs18], .box b6 26 [.int .i64 v11.1.P.Sign, .slice as13 ns13 cs13, .int .i64 v11.1.Q.Sign, .slice as14 ns14 cs14], .box b5 26 [.int .i64 v9.1.P.Sign, .slice as9 ns9 cs9, .int .i64 v9.1.Q.Sign, .slice as10 ns10 cs10], .box b4 26 [.int .i64 c1.P.Sign, .slice as5 ns5 cs5, .int .i64 c1.Q.Sign, .slice as6 ns6 cs6], .box b3 26 [.int .i64 b1.P.Sign, .slice as3 ns3 cs3, .int .i64 b1.Q.Sign, .slice as4 ns4 cs4], .box b2 26 [.int .i64 ax1.P.Sign, .slice as1 ns1 cs1, .int .i64 ax1.Q.Sign, .slice as2 ns2 cs2]] w' ∧ Has 333 a [(3, .pointer (some ⟨b2, 0, none⟩)), (4, .pointer (some ⟨b3, 0, none⟩)), (5, .pointer (some ⟨b4, 0, none⟩)), (7, .bool v1), (8, .pointer (some ⟨b5, 0, none⟩)), (14, .pointer (some ⟨b8, 0, none⟩)), (16, .pointer (some ⟨b9, 0, none⟩)), (18, .pointer (some ⟨b10, 0, none⟩)), (20, .pointer (some ⟨b12, 0, none⟩)), (199, .bool v38)]) ?_ ?_
                  ·rintro a wx59 ⟨Fx30, hF30, hx51, hax16⟩
                   refine rw_apply hax16 ?_
                   refine r_move rfl rfl rfl ?_
                   obtain ⟨v39, hb19, hm⟩ := bind_some hm
                   refine r_mid 5 (fun a w' => ∃ (Fx31 : Frz), Frz.le Fx30 Fx31 ∧ HS F w [] Fx31 [.box b12 26 [.int .i64 v29.1.P.Sign, .slice as37 ns37 cs37, .int .i64 v29.1.Q.Sign, .slice as38 ns38 cs38], .box b11 26 [.int .i64 v27.1.P.Sign, .slice as33 ns33 cs33, .int .i64 v27.1.Q.Sign, .slice as34 ns34 cs34], .box b10 26 [.int .i64 v25.1.P.Sign, .slice as29 ns29 cs29, .int .i64 v25.1.Q.Sign, .slice as30 ns30 cs30], .box b9 26 [.int .i64 v33.1.P.Sign, .slice as45 ns45 cs45, .int .i64 v33.1.Q.Sign, .slice as46 ns46 cs46], .box b8 26 [.int .i64 v31.1.P.Sign, .slice as41 ns41 cs41, .int .i64 v31.1.Q.Sign, .slice as42 ns42 cs42], .box b7 26 [.int .i64 v13.1.P.Sign, .slice as17 ns17 cs17, .int .i64 v13.1.Q.Sign, .slice as18 ns18 cs18], .box b6 26 [.int .i64 v11.1.P.Sign, .slice as13 ns13 cs13, .int .i64 v11.1.Q.Sign, .slice as14 ns14 cs14], .box b5 26 [.int .i64 v9.1.P.Sign, .slice as9 ns9 cs9, .int .i64 v9.1.Q.Sign, .slice as10 ns10 cs10], .box b4 26 [.int .i64 c1.P.Sign, .slice as5 ns5 cs5, .int .i64 c1.Q.Sign, .slice as6 ns6 cs6], .box b3 26 [.int .i64 b1.P.Sign, .slice as3 ns3 cs3, .int .i64 b1.Q.Sign, .slice as4 ns4 cs4], .box b2 26 [.int .i64 ax1.P.Sign, .slice as1 ns1 cs1, .int .i64 ax1.Q.Sign, .slice as2 ns2 cs2]] w' ∧ Has 333 a [(3, .pointer (some ⟨b2, 0, none⟩)), (4, .pointer (some ⟨b3, 0, none⟩)), (5, .pointer (some ⟨b4, 0, none⟩)), (7, .bool v1), (8, .pointer (some ⟨b5, 0, none⟩)), (14, .pointer (some ⟨b8, 0, none⟩)), (16, .pointer (some ⟨b9, 0, none⟩)), (18, .pointer (some ⟨b10, 0, none⟩)), (20, .pointer (some ⟨b12, 0, none⟩)), (205, .bool v39)]) ?_ ?_
                   ·rintro a wx60 ⟨Fx31, hF31, hx52, hax17⟩
                    refine rw_apply hax17 ?_
                    refine r_nil (q_then ?_)
                    rcases cond_some hm with ⟨hb20, hm⟩ | ⟨hb20, hm⟩
                    ·refine c_lit 205 rfl hb20 ?_
                     refine c_true rfl (c_seq (c_region (r_assign rfl rfl rfl (r_nil (q_then (c_ret (q_then_ret ?_)))))))
                     refine b_ret1 rfl rfl ?_
                     obtain rfl := Option.some.inj hm
                     exact ⟨_, _, _, rfl, hx52.pick [] (by decide) rfl, rfl, rfl⟩
                    ·refine c_lit 205 rfl hb20 ?_
                     refine c_false rfl (c_skip (q_then (c_seq (c_region ?_))))
                     refine r_loadBA (cs' := [.int .i64 ax1.P.Sign, .slice as1 ns1 cs1, .int .i64 ax1.Q.Sign, .slice as2 ns2 cs2]) ag26 sz26 rfl rfl hx52 rfl (i := 10) rfl rfl rfl ?_
                     refine r_loadBA (cs' := [.int .i64 c1.P.Sign, .slice as5 ns5 cs5, .int .i64 c1.Q.Sign, .slice as6 ns6 cs6]) ag26 sz26 rfl rfl hx52 rfl (i := 8) rfl rfl rfl ?_
                     have hG9 := (((hG8.trans hF28).trans hF29).trans hF30).trans hF31
                     obtain ⟨v40, hv23, hm⟩ := bind_some hm
                     refine r_callG0 ent15 rfl rfl rfl rfl hx52 (frac_Mul_ok _ _ _ _ hv23 hx52.sat (hs1.mono hG9) (hs2.mono hG9) (hs5.mono hG9) (hs6.mono hG9)) ?_
                     rintro _ Fx32 _ wx61 hF32 hx53 ⟨as47, ns47, cs47, as48, ns48, cs48, rfl, rfl, hs47, hs48⟩
                     refine r_extract rfl rfl rfl rfl (r_extract rfl rfl rfl rfl ?_)
                     obtain ⟨v41, hv24, hm⟩ := bind_some hm
                     refine r_callG0 ent45 rfl rfl rfl rfl hx53 (law05_right_ok _ _ _ _ hv24 hx53.sat hs47 hs48) ?_
                     rintro _ Fx33 _ wx62 hF33 hx54 ⟨as49, ns49, cs49, as50, ns50, cs50, rfl, rfl, hs49, hs50⟩
                     refine r_move rfl rfl rfl (r_extract rfl rfl rfl rfl (r_extract rfl rfl rfl rfl ?_))
                     refine r_alloc ze26 rfl rfl rfl hx54 ?_
                     intro b13 wx63 hx55
                     refine r_store sz26 rfl hx55 rfl rfl rfl rfl (i := 0) rfl rfl rfl rfl ?_
                     intro wx64 hx56
                     refine r_assign rfl rfl rfl (r_nil (q_then (c_seq (c_region ?_))))
                     refine r_loadBA (cs' := [.int .i64 v9.1.P.Sign, .slice as9 ns9 cs9, .int .i64 v9.1.Q.Sign, .slice as10 ns10 cs10]) ag26 sz26 rfl rfl hx56 rfl (i := 8) rfl rfl rfl ?_
                     refine r_loadBA (cs' := [.int .i64 c1.P.Sign, .slice as5 ns5 cs5, .int .i64 c1.Q.Sign, .slice as6 ns6 cs6]) ag26 sz26 rfl rfl hx56 rfl (i := 9) rfl rfl rfl ?_
                     have hG10 := (((((((((((((((((((hG3.trans hF14).trans hF15).trans hF16).trans hF17).trans hF18).trans hF19).trans hF20).trans hF21).trans hF22).trans hF23).trans hF24).trans hF25).trans hF26).trans hF27).trans hF28).trans hF29).trans hF30).trans hF31).trans hF32).trans hF33
                     obtain ⟨v42, hv25, hm⟩ := bind_some hm
                     refine r_callG0 ent15 rfl rfl rfl rfl hx56 (frac_Mul_ok _ _ _ _ hv25 hx56.sat (hs9.mono hG10) (hs10.mono hG10) (((hs5.mono hG9).mono hF32).mono hF33) (((hs6.mono hG9).mono hF32).mono hF33)) ?_
                     rintro _ Fx34 _ wx65 hF34 hx57 ⟨as51, ns51, cs51, as52, ns52, cs52, rfl, rfl, hs51, hs52⟩
                     refine r_extract rfl rfl rfl rfl (r_extract rfl rfl rfl rfl ?_)
                     obtain ⟨v43, hv26, hm⟩ := bind_some hm
                     refine r_callG0 ent45 rfl rfl rfl rfl hx57 (law05_right_ok _ _ _ _ hv26 hx57.sat hs51 hs52) ?_
                     rintro _ Fx35 _ wx66 hF35 hx58 ⟨as53, ns53, cs53, as54, ns54, cs54, rfl, rfl, hs53, hs54⟩
                     refine r_move rfl rfl rfl (r_extract rfl rfl rfl rfl (r_extract rfl rfl rfl rfl ?_))
                     refine r_store sz26 rfl hx58 rfl rfl rfl rfl (i := 5) rfl rfl rfl rfl ?_
                     intro wx67 hx59
                     refine r_assign rfl rfl rfl (r_nil (q_then (c_seq (c_region ?_))))
                     refine r_loadBA (cs' := [.int .i64 v41.1.P.Sign, .slice as49 ns49 cs49, .int .i64 v41.1.Q.Sign, .slice as50 ns50 cs50]) ag26 sz26 rfl rfl hx59 rfl (i := 0) rfl rfl rfl ?_
                     refine r_loadBA (cs' := [.int .i64 v29.1.P.Sign, .slice as37 ns37 cs37, .int .i64 v29.1.Q.Sign, .slice as38 ns38 cs38]) ag26 sz26 rfl rfl hx59 rfl (i := 1) rfl rfl rfl ?_
                     have hG11 := ((((((((hF26.trans hF27).trans hF28).trans hF29).trans hF30).trans hF31).trans hF32).trans hF33).trans hF34).trans hF35
                     obtain ⟨v44, hv27, hm⟩ := bind_some hm
                     refine r_callG0 ent10 rfl rfl rfl rfl hx59 (frac_Add_ok _ _ _ _ hv27 hx59.sat ((hs49.mono hF34).mono hF35) ((hs50.mono hF34).mono hF35) (hs37.mono hG11) (hs38.mono hG11)) ?_
                     rintro _ Fx36 _ wx68 hF36 hx60 ⟨as55, ns55, cs55, as56, ns56, cs56, rfl, rfl, hs55, hs56⟩
                     refine r_extract rfl rfl rfl rfl (r_extract rfl rfl rfl rfl ?_)
                     obtain ⟨v45, hv28, hm⟩ := bind_some hm
                     refine r_callG0 ent45 rfl rfl rfl rfl hx60 (law05_right_ok _ _ _ _ hv28 hx60.sat hs55 hs56) ?_
                     rintro _ Fx37 _ wx69 hF37 hx61 ⟨as57, ns57, cs57, as58, ns58, cs58, rfl, rfl, hs57, hs58⟩
                     refine r_move rfl rfl rfl (r_extract rfl rfl rfl rfl (r_extract rfl rfl rfl rfl ?_))
                     refine r_store sz26 rfl hx61 rfl rfl rfl rfl (i := 4) rfl rfl rfl rfl ?_
                     intro wx70 hx62
                     refine r_assign rfl rfl rfl (r_nil (q_then ?_))
                     obtain ⟨⟨four1, f1, f2, f3, f4⟩, hb21, hm⟩ := bind_some hm
                     refine c_mid (fun a w' => ∃ (Fx38 : Frz) (b14 : Nat) (as59 : Option Addr) (ns59 : Nat) (cs59 : Nat) (as60 : Option Addr) (ns60 : Nat) (cs60 : Nat), Frz.le Fx37 Fx38 ∧ HS F w [] Fx38 [.box b14 26 [.int .i64 f1, .slice as59 ns59 cs59, .int .i64 f3, .slice as60 ns60 cs60], .box b13 26 [.int .i64 v41.1.P.Sign, .slice as49 ns49 cs49, .int .i64 v41.1.Q.Sign, .slice as50 ns50 cs50], .box b12 26 [.int .i64 v29.1.P.Sign, .slice as37 ns37 cs37, .int .i64 v29.1.Q.Sign, .slice as38 ns38 cs38], .box b11 26 [.int .i64 v27.1.P.Sign, .slice as33 ns33 cs33, .int .i64 v27.1.Q.Sign, .slice as34 ns34 cs34], .box b10 26 [.int .i64 v25.1.P.Sign, .slice as29 ns29 cs29, .int .i64 v25.1.Q.Sign, .slice as30 ns30 cs30], .box b9 26 [.int .i64 v45.1.P.Sign, .slice as57 ns57 cs57, .int .i64 v45.1.Q.Sign, .slice as58 ns58 cs58], .box b8 26 [.int .i64 v43.1.P.Sign, .slice as53 ns53 cs53, .int .i64 v43.1.Q.Sign, .slice as54 ns54 cs54], .box b7 26 [.int .i64 v13.1.P.Sign, .slice as17 ns17 cs17, .int .i64 v13.1.Q.Sign, .slice as18 ns18 cs18], .box b6 26 [.int .i64 v11.1.P.Sign, .slice as13 ns13 cs13, .int .i64 v11.1.Q.Sign, .slice as14 ns14 cs14], .box b5 26 [.int .i64 v9.1.P.Sign, .slice as9 ns9 cs9, .int .i64 v9.1.Q.Sign, .slice as10 ns10 cs10], .box b4 26 [.int .i64 c1.P.Sign, .slice as5 ns5 cs5, .int .i64 c1.Q.Sign, .slice as6 ns6 cs6], .box b3 26 [.int .i64 b1.P.Sign, .slice as3 ns3 cs3, .int .i64 b1.Q.Sign, .slice as4 ns4 cs4], .box b2 26 [.int .i64 ax1.P.Sign, .slice as1 ns1 cs1, .int .i64 ax1.Q.Sign, .slice as2 ns2 cs2]] w' ∧ (SlR (Rp.int .i64) Fx38 as59 ns59 cs59 f2) ∧ (SlR (Rp.int .i64) Fx38 as60 ns60 cs60 f4) ∧ Has 333 a [(3, .pointer (some ⟨b2, 0, none⟩)), (4, .pointer (some ⟨b3, 0, none⟩)), (7, .bool v1), (8, .pointer (some ⟨b5, 0, none⟩)), (9, .bool v41.2), (11, .bool v43.2), (13, .bool v45.2), (14, .pointer (some ⟨b8, 0, none⟩)), (15, .bool four1), (16, .pointer (some ⟨b9, 0, none⟩)), (18, .pointer (some ⟨b10, 0, none⟩)), (22, .pointer (some ⟨b14, 0, none⟩))]) ?_ ?_
                     ·rintro a wx71 ⟨Fx38, b14, as59, ns59, cs59, as60, ns60, cs60, hF38, hx63, hs59, hs60, hax18⟩
                      refine cw_apply hax18 ?_
                      obtain ⟨⟨five1, f5, f6, f7, f8⟩, hb22, hm⟩ := bind_some hm
                      refine c_mid (fun a w' => ∃ (Fx39 : Frz) (b15 : Nat) (as61 : Option Addr) (ns61 : Nat) (cs61 : Nat) (as62 : Option Addr) (ns62 : Nat) (cs62 : Nat), Frz.le Fx38 Fx39 ∧ HS F w [] Fx39 [.box b15 26 [.int .i64 f5, .slice as61 ns61 cs61, .int .i64 f7, .slice as62 ns62 cs62], .box b14 26 [.int .i64 f1, .slice as59 ns59 cs59, .int .i64 f3, .slice as60 ns60 cs60], .box b13 26 [.int .i64 v41.1.P.Sign, .slice as49 ns49 cs49, .int .i64 v41.1.Q.Sign, .slice as50 ns50 cs50], .box b12 26 [.int .i64 v29.1.P.Sign, .slice as37 ns37 cs37, .int .i64 v29.1.Q.Sign, .slice as38 ns38 cs38], .box b11 26 [.int .i64 v27.1.P.Sign, .slice as33 ns33 cs33, .int .i64 v27.1.Q.Sign, .slice as34 ns34 cs34], .box b10 26 [.int .i64 v25.1.P.Sign, .slice as29 ns29 cs29, .int .i64 v25.1.Q.Sign, .slice as30 ns30 cs30], .box b9 26 [.int .i64 v45.1.P.Sign, .slice as57 ns57 cs57, .int .i64 v45.1.Q.Sign, .slice as58 ns58 cs58], .box b8 26 [.int .i64 v43.1.P.Sign, .slice as53 ns53 cs53, .int .i64 v43.1.Q.Sign, .slice as54 ns54 cs54], .box b7 26 [.int .i64 v13.1.P.Sign, .slice as17 ns17 cs17, .int .i64 v13.1.Q.Sign, .slice as18 ns18 cs18], .box b6 26 [.int .i64 v11.1.P.Sign, .slice as13 ns13 cs13, .int .i64 v11.1.Q.Sign, .slice as14 ns14 cs14], .box b5 26 [.int .i64 v9.1.P.Sign, .slice as9 ns9 cs9, .int .i64 v9.1.Q.Sign, .slice as10 ns10 cs10], .box b4 26 [.int .i64 c1.P.Sign, .slice as5 ns5 cs5, .int .i64 c1.Q.Sign, .slice as6 ns6 cs6], .box b3 26 [.int .i64 b1.P.Sign, .slice as3 ns3 cs3, .int .i64 b1.Q.Sign, .slice as4 ns4 cs4], .box b2 26 [.int .i64 ax1.P.Sign, .slice as1 ns1 cs1, .int .i64 ax1.Q.Sign, .slice as2 ns2 cs2]] w' ∧ (SlR (Rp.int .i64) Fx39 as61 ns61 cs61 f6) ∧ (SlR (Rp.int .i64) Fx39 as62 ns62 cs62 f8) ∧ Has 333 a [(3, .pointer (some ⟨b2, 0, none⟩)), (4, .pointer (some ⟨b3, 0, none⟩)), (7, .bool v1), (8, .pointer (some ⟨b5, 0, none⟩)), (9, .bool v41.2), (11, .bool v43.2), (13, .bool v45.2), (14, .pointer (some ⟨b8, 0, none⟩)), (15, .bool four1), (16, .pointer (some ⟨b9, 0, none⟩)), (17, .bool five1), (18, .pointer (some ⟨b10, 0, none⟩)), (22, .pointer (some ⟨b14, 0, none⟩)), (23, .pointer (some ⟨b15, 0, none⟩))]) ?_ ?_
                      ·rintro a wx72 ⟨Fx39, b15, as61, ns61, cs61, as62, ns62, cs62, hF39, hx64, hs61, hs62, hax19⟩
                       refine cw_apply hax19 ?_
                       refine c_seq (c_seq (c_region (r_move rfl rfl rfl (r_not rfl rfl rfl (r_move rfl rfl rfl ?_)))))
                       obtain ⟨v46, hb23, hm⟩ := bind_some hm
                       refine r_mid 3 (fun a w' => wx72 = w' ∧ Has 333 a [(3, .pointer (some ⟨b2, 0, none⟩)), (4, .pointer (some ⟨b3, 0, none⟩)), (7, .bool v1), (8, .pointer (some ⟨b5, 0, none⟩)), (13, .bool v45.2), (14, .pointer (some ⟨b8, 0, none⟩)), (15, .bool four1), (16, .pointer (some ⟨b9, 0, none⟩)), (17, .bool five1), (18, .pointer (some ⟨b10, 0, none⟩)), (22, .pointer (some ⟨b14, 0, none⟩)), (23, .pointer (some ⟨b15, 0, none⟩)), (256, .bool v46)]) ?_ ?_
                       ·rintro a wx73 ⟨rfl, hax20⟩
                        refine rw_apply hax20 ?_
                        refine r_move rfl rfl rfl ?_
                        obtain ⟨v47, hb24, hm⟩ := bind_some hm
                        refine r_mid 3 (fun a w' => wx72 = w' ∧ Has 333 a [(3, .pointer (some ⟨b2, 0, none⟩)), (4, .pointer (some ⟨b3, 0, none⟩)), (7, .bool v1), (8, .pointer (some ⟨b5, 0, none⟩)), (14, .pointer (some ⟨b8, 0, none⟩)), (15, .bool four1), (16, .pointer (some ⟨b9, 0, none⟩)), (17, .bool five1), (18, .pointer (some ⟨b10, 0, none⟩)), (22, .pointer (some ⟨b14, 0, none⟩)), (23, .pointer (some ⟨b15, 0, none⟩)), (260, .bool v47)]) ?_ ?_
                        ·rintro a wx74 ⟨rfl, hax21⟩
                         refine rw_apply hax21 ?_
                         refine r_move rfl rfl rfl ?_
                         obtain ⟨v48, hb25, hm⟩ := bind_some hm
                         refine r_mid 3 (fun a w' => wx72 = w' ∧ Has 333 a [(3, .pointer (some ⟨b2, 0, none⟩)), (4, .pointer (some ⟨b3, 0, none⟩)), (7, .bool v1), (8, .pointer (some ⟨b5, 0, none⟩)), (14, .pointer (some ⟨b8, 0, none⟩)), (16, .pointer (some ⟨b9, 0, none⟩)), (17, .bool five1), (18, .pointer (some ⟨b10, 0, none⟩)), (22, .pointer (some ⟨b14, 0, none⟩)), (23, .pointer (some ⟨b15, 0, none⟩)), (264, .bool v48)]) ?_ ?_
                         ·rintro a wx75 ⟨rfl, hax22⟩
                          refine rw_apply hax22 ?_
                          refine r_move rfl rfl rfl ?_
                          obtain ⟨v49, hb26, hm⟩ := bind_some hm
                          refine r_mid 3 (fun a w' => wx72 = w' ∧ Has 333 a [(3, .pointer (some ⟨b2, 0, none⟩)), (4, .pointer (some ⟨b3, 0, none⟩)), (7, .bool v1), (8, .pointer (some ⟨b5, 0, none⟩)), (14, .pointer (some ⟨b8, 0, none⟩)), (16, .pointer (some ⟨b9, 0, none⟩)), (18, .pointer (some ⟨b10, 0, none⟩)), (22, .pointer (some ⟨b14, 0, none⟩)), (23, .pointer (some ⟨b15, 0, none⟩)), (268, .bool v49)]) ?_ ?_
                          ·rintro a wx76 ⟨rfl, hax23⟩
                           refine rw_apply hax23 ?_
                           refine r_move rfl rfl rfl ?_
                           obtain ⟨v50, hb27, hm⟩ := bind_some hm
                           refine r_mid 5 (fun a w' => ∃ (Fx40 : Frz), Frz.le Fx39 Fx40 ∧ HS F w [] Fx40 [.box b15 26 [.int .i64 f5, .slice as61 ns61 cs61, .int .i64 f7, .slice as62 ns62 cs62], .box b14 26 [.int .i64 f1, .slice as59 ns59 cs59, .int .i64 f3, .slice as60 ns60 cs60], .box b13 26 [.int .i64 v41.1.P.Sign, .slice as49 ns49 cs49, .int .i64 v41.1.Q.Sign, .slice as50 ns50 cs50], .box b12 26 [.int .i64 v29.1.P.Sign, .slice as37 ns37 cs37, .int .i64 v29.1.Q.Sign, .slice as38 ns38 cs38], .box b11 26 [.int .i64 v27.1.P.Sign, .slice as33 ns33 cs33, .int .i64 v27.1.Q.Sign, .slice as34 ns34 cs34], .box b10 26 [.int .i64 v25.1.P.Sign, .slice as29 ns29 cs29, .int .i64 v25.1.Q.Sign, .slice as30 ns30 cs30], .box b9 26 [.int .i64 v45.1.P.Sign, .slice as57 ns57 cs57, .int .i64 v45.1.Q.Sign, .slice as58 ns58 cs58], .box b8 26 [.int .i64 v43.1.P.Sign, .slice as53 ns53 cs53, .int .i64 v43.1.Q.Sign, .slice as54 ns54 cs54], .box b7 26 [.int .i64 v13.1.P.Sign, .slice as17 ns17 cs17, .int .i64 v13.1.Q.Sign, .slice as18 ns18 cs18], .box b6 26 [.int .i64 v11.1.P.Sign, .slice as13 ns13 cs13, .int .i64 v11.1.Q.Sign, .slice as14 ns14 cs14], .box b5 26 [.int .i64 v9.1.P.Sign, .slice as9 ns9 cs9, .int .i64 v9.1.Q.Sign, .slice as10 ns10 cs10], .box b4 26 [.int .i64 c1.P.Sign, .slice as5 ns5 cs5, .int .i64 c1.Q.Sign, .slice as6 ns6 cs6], .box b3 26 [.int .i64 b1.P.Sign, .slice as3 ns3 cs3, .int .i64 b1.Q.Sign, .slice as4 ns4 cs4], .box b2 26 [.int .i64 ax1.P.Sign, .slice as1 ns1 cs1, .int .i64 ax1.Q.Sign, .slice as2 ns2 cs2]] w' ∧ Has 333 a [(3, .pointer (some ⟨b2, 0, none⟩)), (4, .pointer (some ⟨b3, 0, none⟩)), (7, .bool v1), (8, .pointer (some ⟨b5, 0, none⟩)), (14, .pointer (some ⟨b8, 0, none⟩)), (16, .pointer (some ⟨b9, 0, none⟩)), (18, .pointer (some ⟨b10, 0, none⟩)), (22, .pointer (some ⟨b14, 0, none⟩)), (23, .pointer (some ⟨b15, 0, none⟩)), (274, .bool v50)]) ?_ ?_
                           ·rintro a wx77 ⟨Fx40, hF40, hx65, hax24⟩
                            refine rw_apply hax24 ?_
                            refine r_move rfl rfl rfl ?_
                            obtain ⟨v51, hb28, hm⟩ := bind_some hm
                            refine r_mid 5 (fun a w' => ∃ (Fx41 : Frz), Frz.le Fx40 Fx41 ∧ HS F w [] Fx41 [.box b15 26 [.int .i64 f5, .slice as61 ns61 cs61, .int .i64 f7, .slice as62 ns62 cs62], .box b14 26 [.int .i64 f1, .slice as59 ns59 cs59, .int .i64 f3, .slice as60 ns60 cs60], .box b13 26 [.int .i64 v41.1.P.Sign, .slice as49 ns49 cs49, .int .i64 v41.1.Q.Sign, .slice as50 ns50 cs50], .box b12 26 [.int .i64 v29.1.P.Sign, .slice as37 ns37 cs37, .int .i64 v29.1.Q.Sign, .slice as38 ns38 cs38], .box b11 26 [.int .i64 v27.1.P.Sign, .slice as33 ns33 cs33, .int .i64 v27.1.Q.Sign, .slice as34 ns34 cs34], .box b10 26 [.int .i64 v25.1.P.Sign, .slice as29 ns29 cs29, .int .i64 v25.1.Q.Sign, .slice as30 ns30 cs30], .box b9 26 [.int .i64 v45.1.P.Sign, .slice as57 ns57 cs57, .int .i64 v45.1.Q.Sign, .slice as58 ns58 cs58], .box b8 26 [.int .i64 v43.1.P.Sign, .slice as53 ns53 cs53, .int .i64 v43.1.Q.Sign, .slice as54 ns54 cs54], .box b7 26 [.int .i64 v13.1.P.Sign, .slice as17 ns17 cs17, .int .i64 v13.1.Q.Sign, .slice as18 ns18 cs18], .box b6 26 [.int .i64 v11.1.P.Sign, .slice as13 ns13 cs13, .int .i64 v11.1.Q.Sign, .slice as14 ns14 cs14], .box b5 26 [.int .i64 v9.1.P.Sign, .slice as9 ns9 cs9, .int .i64 v9.1.Q.Sign, .slice as10 ns10 cs10], .box b4 26 [.int .i64 c1.P.Sign, .slice as5 ns5 cs5, .int .i64 c1.Q.Sign, .slice as6 ns6 cs6], .box b3 26 [.int .i64 b1.P.Sign, .slice as3 ns3 cs3, .int .i64 b1.Q.Sign, .slice as4 ns4 cs4], .box b2 26 [.int .i64 ax1.P.Sign, .slice as1 ns1 cs1, .int .i64 ax1.Q.Sign, .slice as2 ns2 cs2]] w' ∧ Has 333 a [(3, .pointer (some ⟨b2, 0, none⟩)), (4, .pointer (some ⟨b3, 0, none⟩)), (7, .bool v1), (8, .pointer (some ⟨b5, 0, none⟩)), (14, .pointer (some ⟨b8, 0, none⟩)), (16, .pointer (some ⟨b9, 0, none⟩)), (18, .pointer (some ⟨b10, 0, none⟩)), (23, .pointer (some ⟨b15, 0, none⟩)), (280, .bool v51)]) ?_ ?_
                            ·rintro a wx78 ⟨Fx41, hF41, hx66, hax25⟩
                             refine rw_apply hax25 ?_
                             refine r_move rfl rfl rfl ?_
                             obtain ⟨v52, hb29, hm⟩ := bind_some hm
                             refine r_mid 5 (fun a w' => ∃ (Fx42 : Frz), Frz.le Fx41 Fx42 ∧ HS F w [] Fx42 [.box b15 26 [.int .i64 f5, .slice as61 ns61 cs61, .int .i64 f7, .slice as62 ns62 cs62], .box b14 26 [.int .i64 f1, .slice as59 ns59 cs59, .int .i64 f3, .slice as60 ns60 cs60], .box b13 26 [.int .i64 v41.1.P.Sign, .slice as49 ns49 cs49, .int .i64 v41.1.Q.Sign, .slice as50 ns50 cs50], .box b12 26 [.int .i64 v29.1.P.Sign, .slice as37 ns37 cs37, .int .i64 v29.1.Q.Sign, .slice as38 ns38 cs38], .box b11 26 [.int .i64 v27.1.P.Sign, .slice as33 ns33 cs33, .int .i64 v27.1.Q.Sign, .slice as34 ns34 cs34], .box b10 26 [.int .i64 v25.1.P.Sign, .slice as29 ns29 cs29, .int .i64 v25.1.Q.Sign, .slice as30 ns30 cs30], .box b9 26 [.int .i64 v45.1.P.Sign, .slice as57 ns57 cs57, .int .i64 v45.1.Q.Sign, .slice as58 ns58 cs58], .box b8 26 [.int .i64 v43.1.P.Sign, .slice as53 ns53 cs53, .int .i64 v43.1.Q.Sign, .slice as54 ns54 cs54], .box b7 26 [.int .i64 v13.1.P.Sign, .slice as17 ns17 cs17, .int .i64 v13.1.Q.Sign, .slice as18 ns18 cs18], .box b6 26 [.int .i64 v11.1.P.Sign, .slice as13 ns13 cs13, .int .i64 v11.1.Q.Sign, .slice as14 ns14 cs14], .box b5 26 [.int .i64 v9.1.P.Sign, .slice as9 ns9 cs9, .int .i64 v9.1.Q.Sign, .slice as10 ns10 cs10], .box b4 26 [.int .i64 c1.P.Sign, .slice as5 ns5 cs5, .int .i64 c1.Q.Sign, .slice as6 ns6 cs6], .box b3 26 [.int .i64 b1.P.Sign, .slice as3 ns3 cs3, .int .i64 b1.Q.Sign, .slice as4 ns4 cs4], .box b2 26 [.int .i64 ax1.P.Sign, .slice as1 ns1 cs1, .int .i64 ax1.Q.Sign, .slice as2 ns2 cs2]] w' ∧ Has 333 a [(3, .pointer (some ⟨b2, 0, none⟩)), (4, .pointer (some ⟨b3, 0, none⟩)), (7, .bool v1), (8, .pointer (some ⟨b5, 0, none⟩)), (14, .pointer (some ⟨b8, 0, none⟩)), (16, .pointer (some ⟨b9, 0, none⟩)), (18, .pointer (some ⟨b10, 0, none⟩)), (286, .bool v52)]) ?_ ?_
                             ·rintro a wx79 ⟨Fx42, hF42, hx67, hax26⟩
                              refine rw_apply hax26 ?_
                              refine r_nil (q_then ?_)
                              rcases cond_some hm with ⟨hb30, hm⟩ | ⟨hb30, hm⟩
                              ·refine c_lit 286 rfl hb30 ?_
                               refine c_true rfl (c_seq (c_region (r_assign rfl rfl rfl (r_nil (q_then (c_ret (q_then_ret ?_)))))))
                               refine b_ret1 rfl rfl ?_
                               obtain rfl := Option.some.inj hm
                               exact ⟨_, _, _, rfl, hx67.pick [] (by decide) rfl, rfl, rfl⟩
                              ·refine c_lit 286 rfl hb30 ?_
                               refine c_false rfl (c_skip (q_then (c_seq (c_region ?_))))
                               refine r_loadBA (cs' := [.int .i64 v9.1.P.Sign, .slice as9 ns9 cs9, .int .i64 v9.1.Q.Sign, .slice as10 ns10 cs10]) ag26 sz26 rfl rfl hx67 rfl (i := 10) rfl rfl rfl ?_
                               refine r_loadBA (cs' := [.int .i64 b1.P.Sign, .slice as3 ns3 cs3, .int .i64 b1.Q.Sign, .slice as4 ns4 cs4]) ag26 sz26 rfl rfl hx67 rfl (i := 12) rfl rfl rfl ?_
                               have hG12 := ((((((((hG10.trans hF34).trans hF35).trans hF36).trans hF37).trans hF38).trans hF39).trans hF40).trans hF41).trans hF42
                               have hG13 := ((((((((((hG9.trans hF32).trans hF33).trans hF34).trans hF35).trans hF36).trans hF37).trans hF38).trans hF39).trans hF40).trans hF41).trans hF42
                               obtain ⟨v53, hv29, hm⟩ := bind_some hm
                               refine r_callG0 ent12 rfl rfl rfl rfl hx67 (frac_Sub_ok _ _ _ _ hv29 hx67.sat (hs9.mono hG12) (hs10.mono hG12) (hs3.mono hG13) (hs4.mono hG13)) ?_
                               rintro _ Fx43 _ wx80 hF43 hx68 ⟨as63, ns63, cs63, as64, ns64, cs64, rfl, rfl, hs63, hs64⟩
                               refine r_extract rfl rfl rfl rfl (r_extract rfl rfl rfl rfl ?_)
                               obtain ⟨v54, hv30, hm⟩ := bind_some hm
                               refine r_callG0 ent45 rfl rfl rfl rfl hx68 (law05_right_ok _ _ _ _ hv30 hx68.sat hs63 hs64) ?_
                               rintro _ Fx44 _ wx81 hF44 hx69 ⟨as65, ns65, cs65, as66, ns66, cs66, rfl, rfl, hs65, hs66⟩
                               refine r_move rfl rfl rfl (r_extract rfl rfl rfl rfl (r_extract rfl rfl rfl rfl ?_))
                               refine r_store sz26 rfl hx69 rfl rfl rfl rfl (i := 7) rfl rfl rfl rfl ?_
                               intro wx82 hx70
                               refine r_assign rfl rfl rfl (r_nil (q_then (c_seq (c_region ?_))))
                               refine r_loadBA (cs' := [.int .i64 v25.1.P.Sign, .slice as29 ns29 cs29, .int .i64 v25.1.Q.Sign, .slice as30 ns30 cs30]) ag26 sz26 rfl rfl hx70 rfl (i := 5) rfl rfl rfl ?_
                               refine r_loadBA (cs' := [.int .i64 b1.P.Sign, .slice as3 ns3 cs3, .int .i64 b1.Q.Sign, .slice as4 ns4 cs4]) ag26 sz26 rfl rfl hx70 rfl (i := 12) rfl rfl rfl ?_
                               have hG14 := ((((((((((((((((((hG7.trans hF26).trans hF27).trans hF28).trans hF29).trans hF30).trans hF31).trans hF32).trans hF33).trans hF34).trans hF35).trans hF36).trans hF37).trans hF38).trans hF39).trans hF40).trans hF41).trans hF42).trans hF43).trans hF44
                               obtain ⟨v55, hv31, hm⟩ := bind_some hm
                               refine r_callG0 ent17 rfl rfl rfl rfl hx70 (frac_Div_ok _ _ _ _ hv31 hx70.sat (hs29.mono hG14) (hs30.mono hG14) (((hs3.mono hG13).mono hF43).mono hF44) (((hs4.mono hG13).mono hF43).mono hF44)) ?_
                               rintro _ Fx45 _ wx83 hF45 hx71 ⟨as67, ns67, cs67, as68, ns68, cs68, rfl, rfl, hs67, hs68⟩
                               refine r_move rfl rfl rfl (r_extract rfl rfl rfl rfl (r_extract rfl rfl rfl rfl ?_))
                               refine r_store sz26 rfl hx71 rfl rfl rfl rfl (i := 6) rfl rfl rfl rfl ?_
                               intro wx84 hx72
                               refine r_assign rfl rfl rfl (r_nil (q_then (c_seq (c_region ?_))))
                               refine r_fieldAddr fa26_0 rfl rfl rfl ?_
                               refine r_fieldAddr fa24_0 rfl rfl rfl ?_
                               refine r_loadB1 ag3 rfl rfl hx72 rfl (i := 12) rfl rfl ?_
                               refine r_bin rfl rfl rfl rfl rfl ?_
                               refine r_assign rfl rfl rfl (r_nil (q_then (c_seq (c_region (r_move rfl rfl rfl (r_move rfl rfl rfl ?_))))))
                               obtain ⟨v56, hb31, hm⟩ := bind_some hm
                               refine r_mid 2 (fun a w' => wx84 = w' ∧ Has 333 a [(3, .pointer (some ⟨b2, 0, none⟩)), (14, .pointer (some ⟨b8, 0, none⟩)), (16, .pointer (some ⟨b9, 0, none⟩)), (24, .int .i64 v55.2), (25, .bool (b1.P.Sign == 0)), (309, .bool v56)]) ?_ ?_
                               ·rintro a wx85 ⟨rfl, hax27⟩
                                refine rw_apply hax27 ?_
                                refine r_move rfl rfl rfl ?_
                                obtain ⟨v57, hb32, hm⟩ := bind_some hm
                                refine r_mid 4 (fun a w' => ∃ (Fx46 : Frz), Frz.le Fx45 Fx46 ∧ HS F w [] Fx46 [.box b15 26 [.int .i64 f5, .slice as61 ns61 cs61, .int .i64 f7, .slice as62 ns62 cs62], .box b14 26 [.int .i64 f1, .slice as59 ns59 cs59, .int .i64 f3, .slice as60 ns60 cs60], .box b13 26 [.int .i64 v41.1.P.Sign, .slice as49 ns49 cs49, .int .i64 v41.1.Q.Sign, .slice as50 ns50 cs50], .box b12 26 [.int .i64 v29.1.P.Sign, .slice as37 ns37 cs37, .int .i64 v29.1.Q.Sign, .slice as38 ns38 cs38], .box b11 26 [.int .i64 v27.1.P.Sign, .slice as33 ns33 cs33, .int .i64 v27.1.Q.Sign, .slice as34 ns34 cs34], .box b10 26 [.int .i64 v25.1.P.Sign, .slice as29 ns29 cs29, .int .i64 v25.1.Q.Sign, .slice as30 ns30 cs30], .box b9 26 [.int .i64 v55.1.P.Sign, .slice as67 ns67 cs67, .int .i64 v55.1.Q.Sign, .slice as68 ns68 cs68], .box b8 26 [.int .i64 v54.1.P.Sign, .slice as65 ns65 cs65, .int .i64 v54.1.Q.Sign, .slice as66 ns66 cs66], .box b7 26 [.int .i64 v13.1.P.Sign, .slice as17 ns17 cs17, .int .i64 v13.1.Q.Sign, .slice as18 ns18 cs18], .box b6 26 [.int .i64 v11.1.P.Sign, .slice as13 ns13 cs13, .int .i64 v11.1.Q.Sign, .slice as14 ns14 cs14], .box b5 26 [.int .i64 v9.1.P.Sign, .slice as9 ns9 cs9, .int .i64 v9.1.Q.Sign, .slice as10 ns10 cs10], .box b4 26 [.int .i64 c1.P.Sign, .slice as5 ns5 cs5, .int .i64 c1.Q.Sign, .slice as6 ns6 cs6], .box b3 26 [.int .i64 b1.P.Sign, .slice as3 ns3 cs3, .int .i64 b1.Q.Sign, .slice as4 ns4 cs4], .box b2 26 [.int .i64 ax1.P.Sign, .slice as1 ns1 cs1, .int .i64 ax1.Q.Sign, .slice as2 ns2 cs2]] w' ∧ Has 333 a [(3, .pointer (some ⟨b2, 0, none⟩)), (16, .pointer (some ⟨b9, 0, none⟩)), (24, .int .i64 v55.2), (25, .bool (b1.P.Sign == 0)), (314, .bool v57)]) ?_ ?_
                                ·rintro a wx86 ⟨Fx46, hF46, hx73, hax28⟩
                                 refine rw_apply hax28 ?_
                                 refine r_move rfl rfl rfl ?_
                                 obtain ⟨v58, hb33, hm⟩ := bind_some hm
                                 refine r_mid 5 (fun a w' => wx86 = w' ∧ Has 333 a [(3, .pointer (some ⟨b2, 0, none⟩)), (16, .pointer (some ⟨b9, 0, none⟩)), (24, .int .i64 v55.2), (25, .bool (b1.P.Sign == 0)), (320, .bool v58)]) ?_ ?_
                                 ·rintro a wx87 ⟨rfl, hax29⟩
                                  refine rw_apply hax29 ?_
                                  refine r_move rfl rfl rfl ?_
                                  obtain ⟨v59, hb34, hm⟩ := bind_some hm
                                  refine r_mid 11 (fun a w' => ∃ (Fx47 : Frz), Frz.le Fx46 Fx47 ∧ HS F w [] Fx47 [.box b15 26 [.int .i64 f5, .slice as61 ns61 cs61, .int .i64 f7, .slice as62 ns62 cs62], .box b14 26 [.int .i64 f1, .slice as59 ns59 cs59, .int .i64 f3, .slice as60 ns60 cs60], .box b13 26 [.int .i64 v41.1.P.Sign, .slice as49 ns49 cs49, .int .i64 v41.1.Q.Sign, .slice as50 ns50 cs50], .box b12 26 [.int .i64 v29.1.P.Sign, .slice as37 ns37 cs37, .int .i64 v29.1.Q.Sign, .slice as38 ns38 cs38], .box b11 26 [.int .i64 v27.1.P.Sign, .slice as33 ns33 cs33, .int .i64 v27.1.Q.Sign, .slice as34 ns34 cs34], .box b10 26 [.int .i64 v25.1.P.Sign, .slice as29 ns29 cs29, .int .i64 v25.1.Q.Sign, .slice as30 ns30 cs30], .box b9 26 [.int .i64 v55.1.P.Sign, .slice as67 ns67 cs67, .int .i64 v55.1.Q.Sign, .slice as68 ns68 cs68], .box b8 26 [.int .i64 v54.1.P.Sign, .slice as65 ns65 cs65, .int .i64 v54.1.Q.Sign, .slice as66 ns66 cs66], .box b7 26 [.int .i64 v13.1.P.Sign, .slice as17 ns17 cs17, .int .i64 v13.1.Q.Sign, .slice as18 ns18 cs18], .box b6 26 [.int .i64 v11.1.P.Sign, .slice as13 ns13 cs13, .int .i64 v11.1.Q.Sign, .slice as14 ns14 cs14], .box b5 26 [.int .i64 v9.1.P.Sign, .slice as9 ns9 cs9, .int .i64 v9.1.Q.Sign, .slice as10 ns10 cs10], .box b4 26 [.int .i64 c1.P.Sign, .slice as5 ns5 cs5, .int .i64 c1.Q.Sign, .slice as6 ns6 cs6], .box b3 26 [.int .i64 b1.P.Sign, .slice as3 ns3 cs3, .int .i64 b1.Q.Sign, .slice as4 ns4 cs4], .box b2 26 [.int .i64 ax1.P.Sign, .slice as1 ns1 cs1, .int .i64 ax1.Q.Sign, .slice as2 ns2 cs2]] w' ∧ Has 333 a [(332, .bool v59)]) ?_ ?_
                                  ·rintro a wx88 ⟨Fx47, hF47, hx74, hax30⟩
                                   refine rw_apply hax30 ?_
                                   refine r_assign rfl rfl rfl (r_nil (q_then (c_ret ?_)))
                                   refine b_ret1 rfl rfl ?_
                                   obtain rfl := Option.some.inj hm
                                   exact ⟨_, _, _, rfl, hx74.pick [] (by decide) rfl, rfl, rfl⟩
                                  ·clear hm
                                   rcases cond_some hb34 with ⟨hb35, hb34⟩ | ⟨hb35, hb34⟩
                                   ·refine r_lit 321 rfl hb35 ?_
                                    refine r_move rfl rfl rfl (r_move rfl rfl rfl ?_)
                                    obtain ⟨v60, hb36, hb34⟩ := bind_some hb34
                                    refine r_mid 8 (fun a w' => ∃ (Fx48 : Frz), Frz.le Fx46 Fx48 ∧ HS F w [] Fx48 [.box b15 26 [.int .i64 f5, .slice as61 ns61 cs61, .int .i64 f7, .slice as62 ns62 cs62], .box b14 26 [.int .i64 f1, .slice as59 ns59 cs59, .int .i64 f3, .slice as60 ns60 cs60], .box b13 26 [.int .i64 v41.1.P.Sign, .slice as49 ns49 cs49, .int .i64 v41.1.Q.Sign, .slice as50 ns50 cs50], .box b12 26 [.int .i64 v29.1.P.Sign, .slice as37 ns37 cs37, .int .i64 v29.1.Q.Sign, .slice as38 ns38 cs38], .box b11 26 [.int .i64 v27.1.P.Sign, .slice as33 ns33 cs33, .int .i64 v27.1.Q.Sign, .slice as34 ns34 cs34], .box b10 26 [.int .i64 v25.1.P.Sign, .slice as29 ns29 cs29, .int .i64 v25.1.Q.Sign, .slice as30 ns30 cs30], .box b9 26 [.int .i64 v55.1.P.Sign, .slice as67 ns67 cs67, .int .i64 v55.1.Q.Sign, .slice as68 ns68 cs68], .box b8 26 [.int .i64 v54.1.P.Sign, .slice as65 ns65 cs65, .int .i64 v54.1.Q.Sign, .slice as66 ns66 cs66], .box b7 26 [.int .i64 v13.1.P.Sign, .slice as17 ns17 cs17, .int .i64 v13.1.Q.Sign, .slice as18 ns18 cs18], .box b6 26 [.int .i64 v11.1.P.Sign, .slice as13 ns13 cs13, .int .i64 v11.1.Q.Sign, .slice as14 ns14 cs14], .box b5 26 [.int .i64 v9.1.P.Sign, .slice as9 ns9 cs9, .int .i64 v9.1.Q.Sign, .slice as10 ns10 cs10], .box b4 26 [.int .i64 c1.P.Sign, .slice as5 ns5 cs5, .int .i64 c1.Q.Sign, .slice as6 ns6 cs6], .box b3 26 [.int .i64 b1.P.Sign, .slice as3 ns3 cs3, .int .i64 b1.Q.Sign, .slice as4 ns4 cs4], .box b2 26 [.int .i64 ax1.P.Sign, .slice as1 ns1 cs1, .int .i64 ax1.Q.Sign, .slice as2 ns2 cs2]] w' ∧ Has 333 a [(321, .bool true), (331, .bool v60)]) ?_ ?_
                                    ·rintro a wx89 ⟨Fx48, hF48, hx75, hax31⟩
                                     refine rw_apply hax31 ?_
                                     refine r_pick_true rfl rfl rfl rfl (r_nil ?_)
                                     refine q_next (fun a ha => ?_)
                                     cases hb34
                                     exact ⟨_, hF48, hx75.pick [0, 1, 2, 3, 4, 5, 6, 7, 8, 9, 10, 11, 12, 13] (by decide) rfl, ha.cut (l := [332]) rfl⟩
                                    ·clear hb34
                                     rcases cond_some hb36 with ⟨hb37, hb36⟩ | ⟨hb37, hb36⟩
                                     ·refine r_lit 323 rfl hb37 ?_
                                      refine r_off rfl (by decide) rfl (r_off rfl (by decide) rfl (r_off rfl (by decide) rfl (r_off rfl (by decide) rfl (r_off rfl (by decide) rfl (r_off rfl (by decide) rfl (r_off rfl (by decide) rfl (r_pick_true rfl rfl rfl rfl (r_nil ?_))))))))
                                      refine q_next (fun a ha => ?_)
                                      cases hb36
                                      exact ⟨_, Frz.refl _, hx73.pick [0, 1, 2, 3, 4, 5, 6, 7, 8, 9, 10, 11, 12, 13] (by decide) rfl, ha.cut (l := [321, 331]) rfl⟩
                                     ·refine r_lit 323 rfl hb37 ?_
                                      refine r_move rfl rfl rfl ?_
                                      refine r_bin rfl rfl rfl rfl rfl ?_
                                      refine r_move rfl rfl rfl ?_
                                      obtain ⟨v61, hb38, hb36⟩ := bind_some hb36
                                      refine r_mid 4 (fun a w' => ∃ (Fx49 : Frz), Frz.le Fx46 Fx49 ∧ HS F w [] Fx49 [.box b15 26 [.int .i64 f5, .slice as61 ns61 cs61, .int .i64 f7, .slice as62 ns62 cs62], .box b14 26 [.int .i64 f1, .slice as59 ns59 cs59, .int .i64 f3, .slice as60 ns60 cs60], .box b13 26 [.int .i64 v41.1.P.Sign, .slice as49 ns49 cs49, .int .i64 v41.1.Q.Sign, .slice as50 ns50 cs50], .box b12 26 [.int .i64 v29.1.P.Sign, .slice as37 ns37 cs37, .int .i64 v29.1.Q.Sign, .slice as38 ns38 cs38], .box b11 26 [.int .i64 v27.1.P.Sign, .slice as33 ns33 cs33, .int .i64 v27.1.Q.Sign, .slice as34 ns34 cs34], .box b10 26 [.int .i64 v25.1.P.Sign, .slice as29 ns29 cs29, .int .i64 v25.1.Q.Sign, .slice as30 ns30 cs30], .box b9 26 [.int .i64 v55.1.P.Sign, .slice as67 ns67 cs67, .int .i64 v55.1.Q.Sign, .slice as68 ns68 cs68], .box b8 26 [.int .i64 v54.1.P.Sign, .slice as65 ns65 cs65, .int .i64 v54.1.Q.Sign, .slice as66 ns66 cs66], .box b7 26 [.int .i64 v13.1.P.Sign, .slice as17 ns17 cs17, .int .i64 v13.1.Q.Sign, .slice as18 ns18 cs18], .box b6 26 [.int .i64 v11.1.P.Sign, .slice as13 ns13 cs13, .int .i64 v11.1.Q.Sign, .slice as14 ns14 cs14], .box b5 26 [.int .i64 v9.1.P.Sign, .slice as9 ns9 cs9, .int .i64 v9.1.Q.Sign, .slice as10 ns10 cs10], .box b4 26 [.int .i64 c1.P.Sign, .slice as5 ns5 cs5, .int .i64 c1.Q.Sign, .slice as6 ns6 cs6], .box b3 26 [.int .i64 b1.P.Sign, .slice as3 ns3 cs3, .int .i64 b1.Q.Sign, .slice as4 ns4 cs4], .box b2 26 [.int .i64 ax1.P.Sign, .slice as1 ns1 cs1, .int .i64 ax1.Q.Sign, .slice as2 ns2 cs2]] w' ∧ Has 333 a [(321, .bool true), (323, .bool false), (330, .bool v61)]) ?_ ?_
                                      ·rintro a wx90 ⟨Fx49, hF49, hx76, hax32⟩
                                       refine rw_apply hax32 ?_
                                       refine r_pick_false rfl rfl rfl rfl (r_nil ?_)
                                       refine q_next (fun a ha => ?_)
                                       cases hb36
                                       exact ⟨_, hF49, hx76.pick [0, 1, 2, 3, 4, 5, 6, 7, 8, 9, 10, 11, 12, 13] (by decide) rfl, ha.cut (l := [321, 331]) rfl⟩
                                      ·clear hb36
                                       rcases cond_some hb38 with ⟨hb39, hb38⟩ | ⟨hb39, hb38⟩
                                       ·refine r_lit 326 rfl hb39 ?_
                                        refine r_loadBA (cs' := [.int .i64 v55.1.P.Sign, .slice as67 ns67 cs67, .int .i64 v55.1.Q.Sign, .slice as68 ns68 cs68]) ag26 sz26 rfl rfl hx73 rfl (i := 6) rfl rfl rfl ?_
                                        refine r_loadBA (cs' := [.int .i64 ax1.P.Sign, .slice as1 ns1 cs1, .int .i64 ax1.Q.Sign, .slice as2 ns2 cs2]) ag26 sz26 rfl rfl hx73 rfl (i := 13) rfl rfl rfl ?_
                                        have hG15 := (((hG13.trans hF43).trans hF44).trans hF45).trans hF46
                                        obtain ⟨v62, hv32, hb38⟩ := bind_some hb38
                                        refine r_callG0 ent14 rfl rfl rfl rfl hx73 (ref05_Same_ok _ _ _ _ hv32 hx73.sat (hs67.mono hF46) (hs68.mono hF46) (hs1.mono hG15) (hs2.mono hG15)) ?_
                                        rintro _ Fx50 _ wx91 hF50 hx77 ⟨rfl, rfl⟩
                                        refine r_pick_true rfl rfl rfl rfl (r_nil ?_)
                                        refine q_next (fun a ha => ?_)
                                        cases hb38
                                        exact ⟨_, hF50, hx77.pick [0, 1, 2, 3, 4, 5, 6, 7, 8, 9, 10, 11, 12, 13] (by decide) rfl, ha.cut (l := [321, 323, 330]) rfl⟩
                                       ·refine r_lit 326 rfl hb39 ?_
                                        refine r_off rfl (by decide) rfl (r_off rfl (by decide) rfl (r_off rfl (by decide) rfl (r_pick_false rfl rfl rfl rfl (r_nil ?_))))
                                        refine q_next (fun a ha => ?_)
                                        cases hb38
                                        exact ⟨_, Frz.refl _, hx73.pick [0, 1, 2, 3, 4, 5, 6, 7, 8, 9, 10, 11, 12, 13] (by decide) rfl, ha.cut (l := [321, 323, 330]) rfl⟩
                                   ·refine r_lit 321 rfl hb35 ?_
                                    refine r_off rfl (by decide) rfl (r_off rfl (by decide) rfl (r_off rfl (by decide) rfl (r_off rfl (by decide) rfl (r_off rfl (by decide) rfl (r_off rfl (by decide) rfl (r_off rfl (by decide) rfl (r_off rfl (by decide) rfl (r_off rfl (by decide) rfl (r_off rfl (by decide) rfl (r_pick_false rfl rfl rfl rfl (r_nil ?_)))))))))))
                                    refine q_next (fun a ha => ?_)
                                    cases hb34
                                    exact ⟨_, Frz.refl _, hx73.pick [0, 1, 2, 3, 4, 5, 6, 7, 8, 9, 10, 11, 12, 13] (by decide) rfl, ha.cut (l := [332]) rfl⟩
                                 ·clear hm
                                  rcases cond_some hb33 with ⟨hb40, hb33⟩ | ⟨hb40, hb33⟩
                                  ·refine r_lit 315 rfl hb40 ?_
                                   refine r_move rfl rfl rfl ?_
                                   refine r_bin rfl rfl rfl rfl rfl ?_
                                   refine r_move rfl rfl rfl ?_
                                   refine r_beq u4 rfl rfl rfl rfl ?_
                                   refine r_pick_true rfl rfl rfl rfl (r_nil ?_)
                                   refine q_next (fun a ha => ?_)
                                   cases hb33
                                   exact ⟨rfl, ha.cut (l := [3, 16, 24, 25, 320]) rfl⟩
                                  ·refine r_lit 315 rfl hb40 ?_
                                   refine r_off rfl (by decide) rfl (r_off rfl (by decide) rfl (r_off rfl (by decide) rfl (r_off rfl (by decide) rfl (r_pick_false rfl rfl rfl rfl (r_nil ?_)))))
                                   refine q_next (fun a ha => ?_)
                                   cases hb33
                                   exact ⟨rfl, ha.cut (l := [3, 16, 24, 25, 320]) rfl⟩
                                ·clear hm
                                 rcases cond_some hb32 with ⟨hb41, hb32⟩ | ⟨hb41, hb32⟩
                                 ·refine r_lit 310 rfl hb41 ?_
                                  refine r_loadBA (cs' := [.int .i64 v54.1.P.Sign, .slice as65 ns65 cs65, .int .i64 v54.1.Q.Sign, .slice as66 ns66 cs66]) ag26 sz26 rfl rfl hx72 rfl (i := 7) rfl rfl rfl ?_
                                  refine r_loadBA (cs' := [.int .i64 ax1.P.Sign, .slice as1 ns1 cs1, .int .i64 ax1.Q.Sign, .slice as2 ns2 cs2]) ag26 sz26 rfl rfl hx72 rfl (i := 13) rfl rfl rfl ?_
                                  obtain ⟨v63, hv33, hb32⟩ := bind_some hb32
                                  refine r_callG0 ent14 rfl rfl rfl rfl hx72 (ref05_Same_ok _ _ _ _ hv33 hx72.sat (hs65.mono hF45) (hs66.mono hF45) ((((hs1.mono hG13).mono hF43).mono hF44).mono hF45) ((((hs2.mono hG13).mono hF43).mono hF44).mono hF45)) ?_
                                  rintro _ Fx51 _ wx92 hF51 hx78 ⟨rfl, rfl⟩
                                  refine r_pick_true rfl rfl rfl rfl (r_nil ?_)
                                  refine q_next (fun a ha => ?_)
                                  cases hb32
                                  exact ⟨_, hF51, hx78.pick [0, 1, 2, 3, 4, 5, 6, 7, 8, 9, 10, 11, 12, 13] (by decide) rfl, ha.cut (l := [3, 16, 24, 25, 314]) rfl⟩
                                 ·refine r_lit 310 rfl hb41 ?_
                                  refine r_off rfl (by decide) rfl (r_off rfl (by decide) rfl (r_off rfl (by decide) rfl (r_pick_false rfl rfl rfl rfl (r_nil ?_))))
                                  refine q_next (fun a ha => ?_)
                                  cases hb32
                                  exact ⟨_, Frz.refl _, hx72.pick [0, 1, 2, 3, 4, 5, 6, 7, 8, 9, 10, 11, 12, 13] (by decide) rfl, ha.cut (l := [3, 16, 24, 25, 314]) rfl⟩
                               ·clear hm
                                rcases cond_some hb31 with ⟨hb42, hb31⟩ | ⟨hb42, hb31⟩
                                ·refine r_lit 307 rfl hb42 ?_
                                 refine r_move rfl rfl rfl (r_pick_true rfl rfl rfl rfl (r_nil ?_))
                                 refine q_next (fun a ha => ?_)
                                 cases hb31
                                 exact ⟨rfl, ha.cut (l := [3, 14, 16, 24, 25, 309]) rfl⟩
                                ·refine r_lit 307 rfl hb42 ?_
                                 refine r_off rfl (by decide) rfl (r_pick_false rfl rfl rfl rfl (r_nil ?_))
                                 refine q_next (fun a ha => ?_)
                                 cases hb31
                                 exact ⟨rfl, ha.cut (l := [3, 14, 16, 24, 25, 309]) rfl⟩
                             ·clear hm
                              rcases cond_some hb29 with ⟨hb43, hb29⟩ | ⟨hb43, hb29⟩
                              ·refine r_lit 281 rfl hb43 ?_
                               refine r_off rfl (by decide) rfl (r_off rfl (by decide) rfl (r_off rfl (by decide) rfl (r_off rfl (by decide) rfl (r_pick_true rfl rfl rfl rfl (r_nil ?_)))))
                               refine q_next (fun a ha => ?_)
                               cases hb29
                               exact ⟨_, Frz.refl _, hx66.pick [0, 1, 2, 3, 4, 5, 6, 7, 8, 9, 10, 11, 12, 13] (by decide) rfl, ha.cut (l := [3, 4, 7, 8, 14, 16, 18, 286]) rfl⟩
                              ·refine r_lit 281 rfl hb43 ?_
                               refine r_loadBA (cs' := [.int .i64 f5, .slice as61 ns61 cs61, .int .i64 f7, .slice as62 ns62 cs62]) ag26 sz26 rfl rfl hx66 rfl (i := 0) rfl rfl rfl ?_
                               refine r_loadBA (cs' := [.int .i64 ax1.P.Sign, .slice as1 ns1 cs1, .int .i64 ax1.Q.Sign, .slice as2 ns2 cs2]) ag26 sz26 rfl rfl hx66 rfl (i := 13) rfl rfl rfl ?_
                               have hG16 := (((((((((hG9.trans hF32).trans hF33).trans hF34).trans hF35).trans hF36).trans hF37).trans hF38).trans hF39).trans hF40).trans hF41
                               obtain ⟨v64, hv34, hb29⟩ := bind_some hb29
                               refine r_callG0 ent14 rfl rfl rfl rfl hx66 (ref05_Same_ok _ _ _ _ hv34 hx66.sat ((hs61.mono hF40).mono hF41) ((hs62.mono hF40).mono hF41) (hs1.mono hG16) (hs2.mono hG16)) ?_
                               rintro _ Fx52 _ wx93 hF52 hx79 ⟨rfl, rfl⟩
                               refine r_not rfl rfl rfl (r_pick_false rfl rfl rfl rfl (r_nil ?_))
                               refine q_next (fun a ha => ?_)
                               cases hb29
                               exact ⟨_, hF52, hx79.pick [0, 1, 2, 3, 4, 5, 6, 7, 8, 9, 10, 11, 12, 13] (by decide) rfl, ha.cut (l := [3, 4, 7, 8, 14, 16, 18, 286]) rfl⟩
                            ·clear hm
                             rcases cond_some hb28 with ⟨hb44, hb28⟩ | ⟨hb44, hb28⟩
                             ·refine r_lit 275 rfl hb44 ?_
                              refine r_off rfl (by decide) rfl (r_off rfl (by decide) rfl (r_off rfl (by decide) rfl (r_off rfl (by decide) rfl (r_pick_true rfl rfl rfl rfl (r_nil ?_)))))
                              refine q_next (fun a ha => ?_)
                              cases hb28
                              exact ⟨_, Frz.refl _, hx65.pick [0, 1, 2, 3, 4, 5, 6, 7, 8, 9, 10, 11, 12, 13] (by decide) rfl, ha.cut (l := [3, 4, 7, 8, 14, 16, 18, 23, 280]) rfl⟩
                             ·refine r_lit 275 rfl hb44 ?_
                              refine r_loadBA (cs' := [.int .i64 f1, .slice as59 ns59 cs59, .int .i64 f3, .slice as60 ns60 cs60]) ag26 sz26 rfl rfl hx65 rfl (i := 1) rfl rfl rfl ?_
                              refine r_loadBA (cs' := [.int .i64 ax1.P.Sign, .slice as1 ns1 cs1, .int .i64 ax1.Q.Sign, .slice as2 ns2 cs2]) ag26 sz26 rfl rfl hx65 rfl (i := 13) rfl rfl rfl ?_
                              have hG17 := ((((((((hG9.trans hF32).trans hF33).trans hF34).trans hF35).trans hF36).trans hF37).trans hF38).trans hF39).trans hF40
                              obtain ⟨v65, hv35, hb28⟩ := bind_some hb28
                              refine r_callG0 ent14 rfl rfl rfl rfl hx65 (ref05_Same_ok _ _ _ _ hv35 hx65.sat ((hs59.mono hF39).mono hF40) ((hs60.mono hF39).mono hF40) (hs1.mono hG17) (hs2.mono hG17)) ?_
                              rintro _ Fx53 _ wx94 hF53 hx80 ⟨rfl, rfl⟩
                              refine r_not rfl rfl rfl (r_pick_false rfl rfl rfl rfl (r_nil ?_))
                              refine q_next (fun a ha => ?_)
                              cases hb28
                              exact ⟨_, hF53, hx80.pick [0, 1, 2, 3, 4, 5, 6, 7, 8, 9, 10, 11, 12, 13] (by decide) rfl, ha.cut (l := [3, 4, 7, 8, 14, 16, 18, 23, 280]) rfl⟩
                           ·clear hm
                            rcases cond_some hb27 with ⟨hb45, hb27⟩ | ⟨hb45, hb27⟩
                            ·refine r_lit 269 rfl hb45 ?_
                             refine r_off rfl (by decide) rfl (r_off rfl (by decide) rfl (r_off rfl (by decide) rfl (r_off rfl (by decide) rfl (r_pick_true rfl rfl rfl rfl (r_nil ?_)))))
                             refine q_next (fun a ha => ?_)
                             cases hb27
                             exact ⟨_, Frz.refl _, hx64.pick [0, 1, 2, 3, 4, 5, 6, 7, 8, 9, 10, 11, 12, 13] (by decide) rfl, ha.cut (l := [3, 4, 7, 8, 14, 16, 18, 22, 23, 274]) rfl⟩
                            ·refine r_lit 269 rfl hb45 ?_
                             refine r_loadBA (cs' := [.int .i64 v43.1.P.Sign, .slice as53 ns53 cs53, .int .i64 v43.1.Q.Sign, .slice as54 ns54 cs54]) ag26 sz26 rfl rfl hx64 rfl (i := 7) rfl rfl rfl ?_
                             refine r_loadBA (cs' := [.int .i64 v45.1.P.Sign, .slice as57 ns57 cs57, .int .i64 v45.1.Q.Sign, .slice as58 ns58 cs58]) ag26 sz26 rfl rfl hx64 rfl (i := 6) rfl rfl rfl ?_
                             have hG18 := ((hF36.trans hF37).trans hF38).trans hF39
                             obtain ⟨v66, hv36, hb27⟩ := bind_some hb27
                             refine r_callG0 ent14 rfl rfl rfl rfl hx64 (ref05_Same_ok _ _ _ _ hv36 hx64.sat (hs53.mono hG18) (hs54.mono hG18) ((hs57.mono hF38).mono hF39) ((hs58.mono hF38).mono hF39)) ?_
                             rintro _ Fx54 _ wx95 hF54 hx81 ⟨rfl, rfl⟩
                             refine r_not rfl rfl rfl (r_pick_false rfl rfl rfl rfl (r_nil ?_))
                             refine q_next (fun a ha => ?_)
                             cases hb27
                             exact ⟨_, hF54, hx81.pick [0, 1, 2, 3, 4, 5, 6, 7, 8, 9, 10, 11, 12, 13] (by decide) rfl, ha.cut (l := [3, 4, 7, 8, 14, 16, 18, 22, 23, 274]) rfl⟩
                          ·clear hm
                           rcases cond_some hb26 with ⟨hb46, hb26⟩ | ⟨hb46, hb26⟩
                           ·refine r_lit 265 rfl hb46 ?_
                            refine r_off rfl (by decide) rfl (r_off rfl (by decide) rfl (r_pick_true rfl rfl rfl rfl (r_nil ?_)))
                            refine q_next (fun a ha => ?_)
                            cases hb26
                            exact ⟨rfl, ha.cut (l := [3, 4, 7, 8, 14, 16, 18, 22, 23, 268]) rfl⟩
                           ·refine r_lit 265 rfl hb46 ?_
                            refine r_move rfl rfl rfl (r_not rfl rfl rfl (r_pick_false rfl rfl rfl rfl (r_nil ?_)))
                            refine q_next (fun a ha => ?_)
                            cases hb26
                            exact ⟨rfl, ha.cut (l := [3, 4, 7, 8, 14, 16, 18, 22, 23, 268]) rfl⟩
                         ·clear hm
                          rcases cond_some hb25 with ⟨hb47, hb25⟩ | ⟨hb47, hb25⟩
                          ·refine r_lit 261 rfl hb47 ?_
                           refine r_off rfl (by decide) rfl (r_off rfl (by decide) rfl (r_pick_true rfl rfl rfl rfl (r_nil ?_)))
                           refine q_next (fun a ha => ?_)
                           cases hb25
                           exact ⟨rfl, ha.cut (l := [3, 4, 7, 8, 14, 16, 17, 18, 22, 23, 264]) rfl⟩
                          ·refine r_lit 261 rfl hb47 ?_
                           refine r_move rfl rfl rfl (r_not rfl rfl rfl (r_pick_false rfl rfl rfl rfl (r_nil ?_)))
                           refine q_next (fun a ha => ?_)
                           cases hb25
                           exact ⟨rfl, ha.cut (l := [3, 4, 7, 8, 14, 16, 17, 18, 22, 23, 264]) rfl⟩
                        ·clear hm
                         rcases cond_some hb24 with ⟨hb48, hb24⟩ | ⟨hb48, hb24⟩
                         ·refine r_lit 257 rfl hb48 ?_
                          refine r_off rfl (by decide) rfl (r_off rfl (by decide) rfl (r_pick_true rfl rfl rfl rfl (r_nil ?_)))
                          refine q_next (fun a ha => ?_)
                          cases hb24
                          exact ⟨rfl, ha.cut (l := [3, 4, 7, 8, 14, 15, 16, 17, 18, 22, 23, 260]) rfl⟩
                         ·refine r_lit 257 rfl hb48 ?_
                          refine r_move rfl rfl rfl (r_not rfl rfl rfl (r_pick_false rfl rfl rfl rfl (r_nil ?_)))
                          refine q_next (fun a ha => ?_)
                          cases hb24
                          exact ⟨rfl, ha.cut (l := [3, 4, 7, 8, 14, 15, 16, 17, 18, 22, 23, 260]) rfl⟩
                       ·clear hm
                        rcases cond_some hb23 with ⟨hb49, hb23⟩ | ⟨hb49, hb23⟩
                        ·refine r_lit 253 rfl hb49 ?_
                         refine r_off rfl (by decide) rfl (r_off rfl (by decide) rfl (r_pick_true rfl rfl rfl rfl (r_nil ?_)))
                         refine q_next (fun a ha => ?_)
                         cases hb23
                         exact ⟨rfl, ha.cut (l := [3, 4, 7, 8, 13, 14, 15, 16, 17, 18, 22, 23, 256]) rfl⟩
                        ·refine r_lit 253 rfl hb49 ?_
                         refine r_move rfl rfl rfl (r_not rfl rfl rfl (r_pick_false rfl rfl rfl rfl (r_nil ?_)))
                         refine q_next (fun a ha => ?_)
                         cases hb23
                         exact ⟨rfl, ha.cut (l := [3, 4, 7, 8, 13, 14, 15, 16, 17, 18, 22, 23, 256]) rfl⟩
                      ·clear hm
                       refine c_regionH (SH Fx38 [.box b14 26 [.int .i64 f1, .slice as59 ns59 cs59, .int .i64 f3, .slice as60 ns60 cs60], .box b13 26 [.int .i64 v41.1.P.Sign, .slice as49 ns49 cs49, .int .i64 v41.1.Q.Sign, .slice as50 ns50 cs50], .box b12 26 [.int .i64 v29.1.P.Sign, .slice as37 ns37 cs37, .int .i64 v29.1.Q.Sign, .slice as38 ns38 cs38], .box b11 26 [.int .i64 v27.1.P.Sign, .slice as33 ns33 cs33, .int .i64 v27.1.Q.Sign, .slice as34 ns34 cs34], .box b10 26 [.int .i64 v25.1.P.Sign, .slice as29 ns29 cs29, .int .i64 v25.1.Q.Sign, .slice as30 ns30 cs30], .box b9 26 [.int .i64 v45.1.P.Sign, .slice as57 ns57 cs57, .int .i64 v45.1.Q.Sign, .slice as58 ns58 cs58], .box b8 26 [.int .i64 v43.1.P.Sign, .slice as53 ns53 cs53, .int .i64 v43.1.Q.Sign, .slice as54 ns54 cs54], .box b7 26 [.int .i64 v13.1.P.Sign, .slice as17 ns17 cs17, .int .i64 v13.1.Q.Sign, .slice as18 ns18 cs18], .box b6 26 [.int .i64 v11.1.P.Sign, .slice as13 ns13 cs13, .int .i64 v11.1.Q.Sign, .slice as14 ns14 cs14], .box b5 26 [.int .i64 v9.1.P.Sign, .slice as9 ns9 cs9, .int .i64 v9.1.Q.Sign, .slice as10 ns10 cs10], .box b4 26 [.int .i64 c1.P.Sign, .slice as5 ns5 cs5, .int .i64 c1.Q.Sign, .slice as6 ns6 cs6], .box b3 26 [.int .i64 b1.P.Sign, .slice as3 ns3 cs3, .int .i64 b1.Q.Sign, .slice as4 ns4 cs4], .box b2 26 [.int .i64 ax1.P.Sign, .slice as1 ns1 cs1, .int .i64 ax1.Q.Sign, .slice as2 ns2 cs2]]) 12 rfl (by kernel_rfl) hx63 ?_
                       intro wx96 hx82
                       refine d_take 0 (v := .agg #[.int .i64 ax1.P.Sign, .slice as1 ns1 cs1, .int .i64 ax1.Q.Sign, .slice as2 ns2 cs2]) rfl (by kernel_rfl) (by kernel_rfl) (by kernel_rfl) rfl rfl rfl rfl (hx82.sh (Frz.refl _) [0, 1, 2, 3, 4, 5, 6, 7, 8, 9, 10, 11, 12] (by decide) rfl) (fun _ hC => ?_) ?_
                       ·obtain ⟨_, _, hleq, hq⟩ := hC
                        refine r_loadBA (cs' := [.int .i64 ax1.P.Sign, .slice as1 ns1 cs1, .int .i64 ax1.Q.Sign, .slice as2 ns2 cs2]) ag26 sz26 rfl rfl hq rfl (i := 12) rfl rfl rfl (r_nil (qq rfl))
                       refine d_two 1 9 rfl rfl (by kernel_rfl) ?_ ?_
                       ·obtain ⟨v67, hv37, hb22⟩ := bind_some hb22
                        refine r_callG0 ent46 rfl rfl rfl rfl hx82 (law05_of_ok _ _ _ _ hv37 hx82.sat) ?_
                        rintro _ Fx55 _ wx97 hF55 hx83 ⟨as69, ns69, cs69, as70, ns70, cs70, rfl, rfl, hs69, hs70⟩
                        refine d_next (hx83.sh hF55 [0, 1, 2, 3, 4, 5, 6, 7, 8, 9, 10, 11, 12] (by decide) rfl) ?_
                        refine d_two 2 9 rfl rfl (by kernel_rfl) ?_ ?_
                        ·have hG19 := (((((((hG9.trans hF32).trans hF33).trans hF34).trans hF35).trans hF36).trans hF37).trans hF38).trans hF55
                         obtain ⟨v68, hv38, hb22⟩ := bind_some hb22
                         refine r_callG0 ent15 rfl rfl rfl rfl hx83 (frac_Mul_ok _ _ _ _ hv38 hx83.sat (hs1.mono hG19) (hs2.mono hG19) hs69 hs70) ?_
                         rintro _ Fx56 _ wx98 hF56 hx84 ⟨as71, ns71, cs71, as72, ns72, cs72, rfl, rfl, hs71, hs72⟩
                         refine d_next (hx84.sh (hF55.trans hF56) [0, 1, 2, 3, 4, 5, 6, 7, 8, 9, 10, 11, 12] (by decide) rfl) ?_
                         refine d_take 3 (v := .agg #[.int .i64 v68.1.P.Sign, .slice as71 ns71 cs71, .int .i64 v68.1.Q.Sign, .slice as72 ns72 cs72]) rfl (by kernel_rfl) (by kernel_rfl) (by kernel_rfl) rfl rfl rfl rfl (hx84.sh (hF55.trans hF56) [0, 1, 2, 3, 4, 5, 6, 7, 8, 9, 10, 11, 12] (by decide) rfl) (fun _ hC => ?_) ?_
                         ·obtain ⟨_, _, hleq, hq⟩ := hC
                          refine r_extract rfl rfl rfl rfl (r_nil (qq rfl))
                         refine d_take 4 (v := .int .i64 v68.2) rfl (by kernel_rfl) (by kernel_rfl) (by kernel_rfl) rfl rfl rfl rfl (hx84.sh (hF55.trans hF56) [0, 1, 2, 3, 4, 5, 6, 7, 8, 9, 10, 11, 12] (by decide) rfl) (fun _ hC => ?_) ?_
                         ·obtain ⟨_, _, hleq, hq⟩ := hC
                          refine r_extract rfl rfl rfl rfl (r_nil (qq rfl))
                         refine d_two 5 9 rfl rfl (by kernel_rfl) ?_ ?_
                         ·obtain ⟨v69, hv39, hb22⟩ := bind_some hb22
                          refine r_callG0 ent45 rfl rfl rfl rfl hx84 (law05_right_ok _ _ _ _ hv39 hx84.sat hs71 hs72) ?_
                          rintro _ Fx57 _ wx99 hF57 hx85 ⟨as73, ns73, cs73, as74, ns74, cs74, rfl, rfl, hs73, hs74⟩
                          refine d_next (hx85.sh ((hF55.trans hF56).trans hF57) [0, 1, 2, 3, 4, 5, 6, 7, 8, 9, 10, 11, 12] (by decide) rfl) ?_
                          refine d_take 6 (v := .tuple #[.agg #[.int .i64 v69.1.P.Sign, .slice as73 ns73 cs73, .int .i64 v69.1.Q.Sign, .slice as74 ns74 cs74], .bool v69.2]) rfl (by kernel_rfl) (by kernel_rfl) (by kernel_rfl) rfl rfl rfl rfl (hx85.sh ((hF55.trans hF56).trans hF57) [0, 1, 2, 3, 4, 5, 6, 7, 8, 9, 10, 11, 12] (by decide) rfl) (fun _ hC => ?_) ?_
                          ·obtain ⟨_, _, hleq, hq⟩ := hC
                           refine r_move rfl rfl rfl (r_nil (qq rfl))
                          refine d_take 7 (v := .agg #[.int .i64 v69.1.P.Sign, .slice as73 ns73 cs73, .int .i64 v69.1.Q.Sign, .slice as74 ns74 cs74]) rfl (by kernel_rfl) (by kernel_rfl) (by kernel_rfl) rfl rfl rfl rfl (hx85.sh ((hF55.trans hF56).trans hF57) [0, 1, 2, 3, 4, 5, 6, 7, 8, 9, 10, 11, 12] (by decide) rfl) (fun _ hC => ?_) ?_
                          ·obtain ⟨_, _, hleq, hq⟩ := hC
                           refine r_extract rfl rfl rfl rfl (r_nil (qq rfl))
                          refine d_take 8 (v := .bool v69.2) rfl (by kernel_rfl) (by kernel_rfl) (by kernel_rfl) rfl rfl rfl rfl (hx85.sh ((hF55.trans hF56).trans hF57) [0, 1, 2, 3, 4, 5, 6, 7, 8, 9, 10, 11, 12] (by decide) rfl) (fun _ hC => ?_) ?_
                          ·obtain ⟨_, _, hleq, hq⟩ := hC
                           refine r_extract rfl rfl rfl rfl (r_nil (qq rfl))
                          refine d_step 9 rfl (by kernel_rfl) ?_
                          refine r_alloc ze26 rfl rfl rfl hx85 ?_
                          intro b16 wx100 hx86
                          refine d_next (hx86.sh ((hF55.trans hF56).trans hF57) [1, 2, 3, 4, 5, 6, 7, 8, 9, 10, 11, 12, 13] (by decide) rfl) ?_
                          refine d_step 10 rfl (by kernel_rfl) ?_
                          refine r_store sz26 rfl hx86 rfl rfl rfl rfl (i := 0) rfl rfl rfl rfl ?_
                          intro wx101 hx87
                          refine d_next (hx87.sh ((hF55.trans hF56).trans hF57) [1, 2, 3, 4, 5, 6, 7, 8, 9, 10, 11, 12, 13] (by decide) rfl) ?_
                          refine d_take 11 (v := .bool v69.2) rfl (by kernel_rfl) (by kernel_rfl) (by kernel_rfl) rfl rfl rfl rfl (hx87.sh ((hF55.trans hF56).trans hF57) [1, 2, 3, 4, 5, 6, 7, 8, 9, 10, 11, 12, 13] (by decide) rfl) (fun _ hC => ?_) ?_
                          ·obtain ⟨_, _, hleq, hq⟩ := hC
                           refine r_assign rfl rfl rfl (r_nil (qq rfl))
                          refine d_done (by kernel_rfl) ?_
                          refine q_next (fun a ha => ?_)
                          cases hb22
                          exact ⟨_, b16, as73, ns73, cs73, as74, ns74, cs74, ((hF55.trans hF56).trans hF57), hx87.pick [0, 1, 2, 3, 4, 5, 6, 7, 8, 9, 10, 11, 12, 13] (by decide) rfl, hs73, hs74, ha.cut (l := [3, 4, 7, 8, 9, 11, 13, 14, 15, 16, 17, 18, 22, 23]) rfl⟩
                         ·refine r_alloc ze26 rfl rfl rfl hx84 ?_
                          intro b16 wx99 hx85
                          refine d_next (hx85.sh (hF55.trans hF56) [1, 2, 3, 4, 5, 6, 7, 8, 9, 10, 11, 12, 13] (by decide) rfl) ?_
                          refine d_step 5 rfl (by kernel_rfl) ?_
                          obtain ⟨v69, hv39, hb22⟩ := bind_some hb22
                          refine r_callG0 ent45 rfl rfl rfl rfl hx85 (law05_right_ok _ _ _ _ hv39 hx85.sat hs71 hs72) ?_
                          rintro _ Fx57 _ wx100 hF57 hx86 ⟨as73, ns73, cs73, as74, ns74, cs74, rfl, rfl, hs73, hs74⟩
                          refine d_next (hx86.sh ((hF55.trans hF56).trans hF57) [1, 2, 3, 4, 5, 6, 7, 8, 9, 10, 11, 12, 13] (by decide) rfl) ?_
                          refine d_take 6 (v := .tuple #[.agg #[.int .i64 v69.1.P.Sign, .slice as73 ns73 cs73, .int .i64 v69.1.Q.Sign, .slice as74 ns74 cs74], .bool v69.2]) rfl (by kernel_rfl) (by kernel_rfl) (by kernel_rfl) rfl rfl rfl rfl (hx86.sh ((hF55.trans hF56).trans hF57) [1, 2, 3, 4, 5, 6, 7, 8, 9, 10, 11, 12, 13] (by decide) rfl) (fun _ hC => ?_) ?_
                          ·obtain ⟨_, _, hleq, hq⟩ := hC
                           refine r_move rfl rfl rfl (r_nil (qq rfl))
                          refine d_take 7 (v := .agg #[.int .i64 v69.1.P.Sign, .slice as73 ns73 cs73, .int .i64 v69.1.Q.Sign, .slice as74 ns74 cs74]) rfl (by kernel_rfl) (by kernel_rfl) (by kernel_rfl) rfl rfl rfl rfl (hx86.sh ((hF55.trans hF56).trans hF57) [1, 2, 3, 4, 5, 6, 7, 8, 9, 10, 11, 12, 13] (by decide) rfl) (fun _ hC => ?_) ?_
                          ·obtain ⟨_, _, hleq, hq⟩ := hC
                           refine r_extract rfl rfl rfl rfl (r_nil (qq rfl))
                          refine d_take 8 (v := .bool v69.2) rfl (by kernel_rfl) (by kernel_rfl) (by kernel_rfl) rfl rfl rfl rfl (hx86.sh ((hF55.trans hF56).trans hF57) [1, 2, 3, 4, 5, 6, 7, 8, 9, 10, 11, 12, 13] (by decide) rfl) (fun _ hC => ?_) ?_
                          ·obtain ⟨_, _, hleq, hq⟩ := hC
                           refine r_extract rfl rfl rfl rfl (r_nil (qq rfl))
                          refine d_step 10 rfl (by kernel_rfl) ?_
                          refine r_store sz26 rfl hx86 rfl rfl rfl rfl (i := 0) rfl rfl rfl rfl ?_
                          intro wx101 hx87
                          refine d_next (hx87.sh ((hF55.trans hF56).trans hF57) [1, 2, 3, 4, 5, 6, 7, 8, 9, 10, 11, 12, 13] (by decide) rfl) ?_
                          refine d_take 11 (v := .bool v69.2) rfl (by kernel_rfl) (by kernel_rfl) (by kernel_rfl) rfl rfl rfl rfl (hx87.sh ((hF55.trans hF56).trans hF57) [1, 2, 3, 4, 5, 6, 7, 8, 9, 10, 11, 12, 13] (by decide) rfl) (fun _ hC => ?_) ?_
                          ·obtain ⟨_, _, hleq, hq⟩ := hC
                           refine r_assign rfl rfl rfl (r_nil (qq rfl))
                          refine d_done (by kernel_rfl) ?_
                          refine q_next (fun a ha => ?_)
                          cases hb22
                          exact ⟨_, b16, as73, ns73, cs73, as74, ns74, cs74, ((hF55.trans hF56).trans hF57), hx87.pick [0, 1, 2, 3, 4, 5, 6, 7, 8, 9, 10, 11, 12, 13] (by decide) rfl, hs73, hs74, ha.cut (l := [3, 4, 7, 8, 9, 11, 13, 14, 15, 16, 17, 18, 22, 23]) rfl⟩
                        ·refine r_alloc ze26 rfl rfl rfl hx83 ?_
                         intro b16 wx98 hx84
                         refine d_next (hx84.sh hF55 [1, 2, 3, 4, 5, 6, 7, 8, 9, 10, 11, 12, 13] (by decide) rfl) ?_
                         refine d_step 2 rfl (by kernel_rfl) ?_
                         have hG19 := (((((((hG9.trans hF32).trans hF33).trans hF34).trans hF35).trans hF36).trans hF37).trans hF38).trans hF55
                         obtain ⟨v68, hv38, hb22⟩ := bind_some hb22
                         refine r_callG0 ent15 rfl rfl rfl rfl hx84 (frac_Mul_ok _ _ _ _ hv38 hx84.sat (hs1.mono hG19) (hs2.mono hG19) hs69 hs70) ?_
                         rintro _ Fx56 _ wx99 hF56 hx85 ⟨as71, ns71, cs71, as72, ns72, cs72, rfl, rfl, hs71, hs72⟩
                         refine d_next (hx85.sh (hF55.trans hF56) [1, 2, 3, 4, 5, 6, 7, 8, 9, 10, 11, 12, 13] (by decide) rfl) ?_
                         refine d_take 3 (v := .agg #[.int .i64 v68.1.P.Sign, .slice as71 ns71 cs71, .int .i64 v68.1.Q.Sign, .slice as72 ns72 cs72]) rfl (by kernel_rfl) (by kernel_rfl) (by kernel_rfl) rfl rfl rfl rfl (hx85.sh (hF55.trans hF56) [1, 2, 3, 4, 5, 6, 7, 8, 9, 10, 11, 12, 13] (by decide) rfl) (fun _ hC => ?_) ?_
                         ·obtain ⟨_, _, hleq, hq⟩ := hC
                          refine r_extract rfl rfl rfl rfl (r_nil (qq rfl))
                         refine d_take 4 (v := .int .i64 v68.2) rfl (by kernel_rfl) (by kernel_rfl) (by kernel_rfl) rfl rfl rfl rfl (hx85.sh (hF55.trans hF56) [1, 2, 3, 4, 5, 6, 7, 8, 9, 10, 11, 12, 13] (by decide) rfl) (fun _ hC => ?_) ?_
                         ·obtain ⟨_, _, hleq, hq⟩ := hC
                          refine r_extract rfl rfl rfl rfl (r_nil (qq rfl))
                         refine d_step 5 rfl (by kernel_rfl) ?_
                         obtain ⟨v69, hv39, hb22⟩ := bind_some hb22
                         refine r_callG0 ent45 rfl rfl rfl rfl hx85 (law05_right_ok _ _ _ _ hv39 hx85.sat hs71 hs72) ?_
                         rintro _ Fx57 _ wx100 hF57 hx86 ⟨as73, ns73, cs73, as74, ns74, cs74, rfl, rfl, hs73, hs74⟩
                         refine d_next (hx86.sh ((hF55.trans hF56).trans hF57) [1, 2, 3, 4, 5, 6, 7, 8, 9, 10, 11, 12, 13] (by decide) rfl) ?_
                         refine d_take 6 (v := .tuple #[.agg #[.int .i64 v69.1.P.Sign, .slice as73 ns73 cs73, .int .i64 v69.1.Q.Sign, .slice as74 ns74 cs74], .bool v69.2]) rfl (by kernel_rfl) (by kernel_rfl) (by kernel_rfl) rfl rfl rfl rfl (hx86.sh ((hF55.trans hF56).trans hF57) [1, 2, 3, 4, 5, 6, 7, 8, 9, 10, 11, 12, 13] (by decide) rfl) (fun _ hC => ?_) ?_
                         ·obtain ⟨_, _, hleq, hq⟩ := hC
                          refine r_move rfl rfl rfl (r_nil (qq rfl))
                         refine d_take 7 (v := .agg #[.int .i64 v69.1.P.Sign, .slice as73 ns73 cs73, .int .i64 v69.1.Q.Sign, .slice as74 ns74 cs74]) rfl (by kernel_rfl) (by kernel_rfl) (by kernel_rfl) rfl rfl rfl rfl (hx86.sh ((hF55.trans hF56).trans hF57) [1, 2, 3, 4, 5, 6, 7, 8, 9, 10, 11, 12, 13] (by decide) rfl) (fun _ hC => ?_) ?_
                         ·obtain ⟨_, _, hleq, hq⟩ := hC
                          refine r_extract rfl rfl rfl rfl (r_nil (qq rfl))
                         refine d_take 8 (v := .bool v69.2) rfl (by kernel_rfl) (by kernel_rfl) (by kernel_rfl) rfl rfl rfl rfl (hx86.sh ((hF55.trans hF56).trans hF57) [1, 2, 3, 4, 5, 6, 7, 8, 9, 10, 11, 12, 13] (by decide) rfl) (fun _ hC => ?_) ?_
                         ·obtain ⟨_, _, hleq, hq⟩ := hC
                          refine r_extract rfl rfl rfl rfl (r_nil (qq rfl))
                         refine d_step 10 rfl (by kernel_rfl) ?_
                         refine r_store sz26 rfl hx86 rfl rfl rfl rfl (i := 0) rfl rfl rfl rfl ?_
                         intro wx101 hx87
                         refine d_next (hx87.sh ((hF55.trans hF56).trans hF57) [1, 2, 3, 4, 5, 6, 7, 8, 9, 10, 11, 12, 13] (by decide) rfl) ?_
                         refine d_take 11 (v := .bool v69.2) rfl (by kernel_rfl) (by kernel_rfl) (by kernel_rfl) rfl rfl rfl rfl (hx87.sh ((hF55.trans hF56).trans hF57) [1, 2, 3, 4, 5, 6, 7, 8, 9, 10, 11, 12, 13] (by decide) rfl) (fun _ hC => ?_) ?_
                         ·obtain ⟨_, _, hleq, hq⟩ := hC
                          refine r_assign rfl rfl rfl (r_nil (qq rfl))
                         refine d_done (by kernel_rfl) ?_
                         refine q_next (fun a ha => ?_)
                         cases hb22
                         exact ⟨_, b16, as73, ns73, cs73, as74, ns74, cs74, ((hF55.trans hF56).trans hF57), hx87.pick [0, 1, 2, 3, 4, 5, 6, 7, 8, 9, 10, 11, 12, 13] (by decide) rfl, hs73, hs74, ha.cut (l := [3, 4, 7, 8, 9, 11, 13, 14, 15, 16, 17, 18, 22, 23]) rfl⟩
                       ·refine r_alloc ze26 rfl rfl rfl hx82 ?_
                        intro b16 wx97 hx83
                        refine d_next (hx83.sh (Frz.refl _) [1, 2, 3, 4, 5, 6, 7, 8, 9, 10, 11, 12, 13] (by decide) rfl) ?_
                        refine d_step 1 rfl (by kernel_rfl) ?_
                        obtain ⟨v67, hv37, hb22⟩ := bind_some hb22
                        refine r_callG0 ent46 rfl rfl rfl rfl hx83 (law05_of_ok _ _ _ _ hv37 hx83.sat) ?_
                        rintro _ Fx55 _ wx98 hF55 hx84 ⟨as69, ns69, cs69, as70, ns70, cs70, rfl, rfl, hs69, hs70⟩
                        refine d_next (hx84.sh hF55 [1, 2, 3, 4, 5, 6, 7, 8, 9, 10, 11, 12, 13] (by decide) rfl) ?_
                        refine d_step 2 rfl (by kernel_rfl) ?_
                        have hG19 := (((((((hG9.trans hF32).trans hF33).trans hF34).trans hF35).trans hF36).trans hF37).trans hF38).trans hF55
                        obtain ⟨v68, hv38, hb22⟩ := bind_some hb22
                        refine r_callG0 ent15 rfl rfl rfl rfl hx84 (frac_Mul_ok _ _ _ _ hv38 hx84.sat (hs1.mono hG19) (hs2.mono hG19) hs69 hs70) ?_
                        rintro _ Fx56 _ wx99 hF56 hx85 ⟨as71, ns71, cs71, as72, ns72, cs72, rfl, rfl, hs71, hs72⟩
                        refine d_next (hx85.sh (hF55.trans hF56) [1, 2, 3, 4, 5, 6, 7, 8, 9, 10, 11, 12, 13] (by decide) rfl) ?_
                        refine d_take 3 (v := .agg #[.int .i64 v68.1.P.Sign, .slice as71 ns71 cs71, .int .i64 v68.1.Q.Sign, .slice as72 ns72 cs72]) rfl (by kernel_rfl) (by kernel_rfl) (by kernel_rfl) rfl rfl rfl rfl (hx85.sh (hF55.trans hF56) [1, 2, 3, 4, 5, 6, 7, 8, 9, 10, 11, 12, 13] (by decide) rfl) (fun _ hC => ?_) ?_
                        ·obtain ⟨_, _, hleq, hq⟩ := hC
                         refine r_extract rfl rfl rfl rfl (r_nil (qq rfl))
                        refine d_take 4 (v := .int .i64 v68.2) rfl (by kernel_rfl) (by kernel_rfl) (by kernel_rfl) rfl rfl rfl rfl (hx85.sh (hF55.trans hF56) [1, 2, 3, 4, 5, 6, 7, 8, 9, 10, 11, 12, 13] (by decide) rfl) (fun _ hC => ?_) ?_
                        ·obtain ⟨_, _, hleq, hq⟩ := hC
                         refine r_extract rfl rfl rfl rfl (r_nil (qq rfl))
                        refine d_step 5 rfl (by kernel_rfl) ?_
                        obtain ⟨v69, hv39, hb22⟩ := bind_some hb22
                        refine r_callG0 ent45 rfl rfl rfl rfl hx85 (law05_right_ok _ _ _ _ hv39 hx85.sat hs71 hs72) ?_
                        rintro _ Fx57 _ wx100 hF57 hx86 ⟨as73, ns73, cs73, as74, ns74, cs74, rfl, rfl, hs73, hs74⟩
                        refine d_next (hx86.sh ((hF55.trans hF56).trans hF57) [1, 2, 3, 4, 5, 6, 7, 8, 9, 10, 11, 12, 13] (by decide) rfl) ?_
                        refine d_take 6 (v := .tuple #[.agg #[.int .i64 v69.1.P.Sign, .slice as73 ns73 cs73, .int .i64 v69.1.Q.Sign, .slice as74 ns74 cs74], .bool v69.2]) rfl (by kernel_rfl) (by kernel_rfl) (by kernel_rfl) rfl rfl rfl rfl (hx86.sh ((hF55.trans hF56).trans hF57) [1, 2, 3, 4, 5, 6, 7, 8, 9, 10, 11, 12, 13] (by decide) rfl) (fun _ hC => ?_) ?_
                        ·obtain ⟨_, _, hleq, hq⟩ := hC
                         refine r_move rfl rfl rfl (r_nil (qq rfl))
                        refine d_take 7 (v := .agg #[.int .i64 v69.1.P.Sign, .slice as73 ns73 cs73, .int .i64 v69.1.Q.Sign, .slice as74 ns74 cs74]) rfl (by kernel_rfl) (by kernel_rfl) (by kernel_rfl) rfl rfl rfl rfl (hx86.sh ((hF55.trans hF56).trans hF57) [1, 2, 3, 4, 5, 6, 7, 8, 9, 10, 11, 12, 13] (by decide) rfl) (fun _ hC => ?_) ?_
                        ·obtain ⟨_, _, hleq, hq⟩ := hC
                         refine r_extract rfl rfl rfl rfl (r_nil (qq rfl))
                        refine d_take 8 (v := .bool v69.2) rfl (by kernel_rfl) (by kernel_rfl) (by kernel_rfl) rfl rfl rfl rfl (hx86.sh ((hF55.trans hF56).trans hF57) [1, 2, 3, 4, 5, 6, 7, 8, 9, 10, 11, 12, 13] (by decide) rfl) (fun _ hC => ?_) ?_
                        ·obtain ⟨_, _, hleq, hq⟩ := hC
                         refine r_extract rfl rfl rfl rfl (r_nil (qq rfl))
                        refine d_step 10 rfl (by kernel_rfl) ?_
                        refine r_store sz26 rfl hx86 rfl rfl rfl rfl (i := 0) rfl rfl rfl rfl ?_
                        intro wx101 hx87
                        refine d_next (hx87.sh ((hF55.trans hF56).trans hF57) [1, 2, 3, 4, 5, 6, 7, 8, 9, 10, 11, 12, 13] (by decide) rfl) ?_
                        refine d_take 11 (v := .bool v69.2) rfl (by kernel_rfl) (by kernel_rfl) (by kernel_rfl) rfl rfl rfl rfl (hx87.sh ((hF55.trans hF56).trans hF57) [1, 2, 3, 4, 5, 6, 7, 8, 9, 10, 11, 12, 13] (by decide) rfl) (fun _ hC => ?_) ?_
                        ·obtain ⟨_, _, hleq, hq⟩ := hC
                         refine r_assign rfl rfl rfl (r_nil (qq rfl))
                        refine d_done (by kernel_rfl) ?_
                        refine q_next (fun a ha => ?_)
                        cases hb22
                        exact ⟨_, b16, as73, ns73, cs73, as74, ns74, cs74, ((hF55.trans hF56).trans hF57), hx87.pick [0, 1, 2, 3, 4, 5, 6, 7, 8, 9, 10, 11, 12, 13] (by decide) rfl, hs73, hs74, ha.cut (l := [3, 4, 7, 8, 9, 11, 13, 14, 15, 16, 17, 18, 22, 23]) rfl⟩
                     ·clear hm
                      refine c_regionH (SH Fx37 [.box b13 26 [.int .i64 v41.1.P.Sign, .slice as49 ns49 cs49, .int .i64 v41.1.Q.Sign, .slice as50 ns50 cs50], .box b12 26 [.int .i64 v29.1.P.Sign, .slice as37 ns37 cs37, .int .i64 v29.1.Q.Sign, .slice as38 ns38 cs38], .box b11 26 [.int .i64 v27.1.P.Sign, .slice as33 ns33 cs33, .int .i64 v27.1.Q.Sign, .slice as34 ns34 cs34], .box b10 26 [.int .i64 v25.1.P.Sign, .slice as29 ns29 cs29, .int .i64 v25.1.Q.Sign, .slice as30 ns30 cs30], .box b9 26 [.int .i64 v45.1.P.Sign, .slice as57 ns57 cs57, .int .i64 v45.1.Q.Sign, .slice as58 ns58 cs58], .box b8 26 [.int .i64 v43.1.P.Sign, .slice as53 ns53 cs53, .int .i64 v43.1.Q.Sign, .slice as54 ns54 cs54], .box b7 26 [.int .i64 v13.1.P.Sign, .slice as17 ns17 cs17, .int .i64 v13.1.Q.Sign, .slice as18 ns18 cs18], .box b6 26 [.int .i64 v11.1.P.Sign, .slice as13 ns13 cs13, .int .i64 v11.1.Q.Sign, .slice as14 ns14 cs14], .box b5 26 [.int .i64 v9.1.P.Sign, .slice as9 ns9 cs9, .int .i64 v9.1.Q.Sign, .slice as10 ns10 cs10], .box b4 26 [.int .i64 c1.P.Sign, .slice as5 ns5 cs5, .int .i64 c1.Q.Sign, .slice as6 ns6 cs6], .box b3 26 [.int .i64 b1.P.Sign, .slice as3 ns3 cs3, .int .i64 b1.Q.Sign, .slice as4 ns4 cs4], .box b2 26 [.int .i64 ax1.P.Sign, .slice as1 ns1 cs1, .int .i64 ax1.Q.Sign, .slice as2 ns2 cs2]]) 12 rfl (by kernel_rfl) hx62 ?_
                      intro wx102 hx88
                      refine d_take 0 (v := .agg #[.int .i64 ax1.P.Sign, .slice as1 ns1 cs1, .int .i64 ax1.Q.Sign, .slice as2 ns2 cs2]) rfl (by kernel_rfl) (by kernel_rfl) (by kernel_rfl) rfl rfl rfl rfl (hx88.sh (Frz.refl _) [0, 1, 2, 3, 4, 5, 6, 7, 8, 9, 10, 11] (by decide) rfl) (fun _ hC => ?_) ?_
                      ·obtain ⟨_, _, hleq, hq⟩ := hC
                       refine r_loadBA (cs' := [.int .i64 ax1.P.Sign, .slice as1 ns1 cs1, .int .i64 ax1.Q.Sign, .slice as2 ns2 cs2]) ag26 sz26 rfl rfl hq rfl (i := 11) rfl rfl rfl (r_nil (qq rfl))
                      refine d_two 1 9 rfl rfl (by kernel_rfl) ?_ ?_
                      ·obtain ⟨v70, hv40, hb21⟩ := bind_some hb21
                       refine r_callG0 ent46 rfl rfl rfl rfl hx88 (law05_of_ok _ _ _ _ hv40 hx88.sat) ?_
                       rintro _ Fx58 _ wx103 hF58 hx89 ⟨as75, ns75, cs75, as76, ns76, cs76, rfl, rfl, hs75, hs76⟩
                       refine d_next (hx89.sh hF58 [0, 1, 2, 3, 4, 5, 6, 7, 8, 9, 10, 11] (by decide) rfl) ?_
                       refine d_two 2 9 rfl rfl (by kernel_rfl) ?_ ?_
                       ·have hG20 := ((((((hG9.trans hF32).trans hF33).trans hF34).trans hF35).trans hF36).trans hF37).trans hF58
                        obtain ⟨v71, hv41, hb21⟩ := bind_some hb21
                        refine r_callG0 ent10 rfl rfl rfl rfl hx89 (frac_Add_ok _ _ _ _ hv41 hx89.sat (hs1.mono hG20) (hs2.mono hG20) hs75 hs76) ?_
                        rintro _ Fx59 _ wx104 hF59 hx90 ⟨as77, ns77, cs77, as78, ns78, cs78, rfl, rfl, hs77, hs78⟩
                        refine d_next (hx90.sh (hF58.trans hF59) [0, 1, 2, 3, 4, 5, 6, 7, 8, 9, 10, 11] (by decide) rfl) ?_
                        refine d_take 3 (v := .agg #[.int .i64 v71.1.P.Sign, .slice as77 ns77 cs77, .int .i64 v71.1.Q.Sign, .slice as78 ns78 cs78]) rfl (by kernel_rfl) (by kernel_rfl) (by kernel_rfl) rfl rfl rfl rfl (hx90.sh (hF58.trans hF59) [0, 1, 2, 3, 4, 5, 6, 7, 8, 9, 10, 11] (by decide) rfl) (fun _ hC => ?_) ?_
                        ·obtain ⟨_, _, hleq, hq⟩ := hC
                         refine r_extract rfl rfl rfl rfl (r_nil (qq rfl))
                        refine d_take 4 (v := .int .i64 v71.2) rfl (by kernel_rfl) (by kernel_rfl) (by kernel_rfl) rfl rfl rfl rfl (hx90.sh (hF58.trans hF59) [0, 1, 2, 3, 4, 5, 6, 7, 8, 9, 10, 11] (by decide) rfl) (fun _ hC => ?_) ?_
                        ·obtain ⟨_, _, hleq, hq⟩ := hC
                         refine r_extract rfl rfl rfl rfl (r_nil (qq rfl))
                        refine d_two 5 9 rfl rfl (by kernel_rfl) ?_ ?_
                        ·obtain ⟨v72, hv42, hb21⟩ := bind_some hb21
                         refine r_callG0 ent45 rfl rfl rfl rfl hx90 (law05_right_ok _ _ _ _ hv42 hx90.sat hs77 hs78) ?_
                         rintro _ Fx60 _ wx105 hF60 hx91 ⟨as79, ns79, cs79, as80, ns80, cs80, rfl, rfl, hs79, hs80⟩
                         refine d_next (hx91.sh ((hF58.trans hF59).trans hF60) [0, 1, 2, 3, 4, 5, 6, 7, 8, 9, 10, 11] (by decide) rfl) ?_
                         refine d_take 6 (v := .tuple #[.agg #[.int .i64 v72.1.P.Sign, .slice as79 ns79 cs79, .int .i64 v72.1.Q.Sign, .slice as80 ns80 cs80], .bool v72.2]) rfl (by kernel_rfl) (by kernel_rfl) (by kernel_rfl) rfl rfl rfl rfl (hx91.sh ((hF58.trans hF59).trans hF60) [0, 1, 2, 3, 4, 5, 6, 7, 8, 9, 10, 11] (by decide) rfl) (fun _ hC => ?_) ?_
                         ·obtain ⟨_, _, hleq, hq⟩ := hC
                          refine r_move rfl rfl rfl (r_nil (qq rfl))
                         refine d_take 7 (v := .agg #[.int .i64 v72.1.P.Sign, .slice as79 ns79 cs79, .int .i64 v72.1.Q.Sign, .slice as80 ns80 cs80]) rfl (by kernel_rfl) (by kernel_rfl) (by kernel_rfl) rfl rfl rfl rfl (hx91.sh ((hF58.trans hF59).trans hF60) [0, 1, 2, 3, 4, 5, 6, 7, 8, 9, 10, 11] (by decide) rfl) (fun _ hC => ?_) ?_
                         ·obtain ⟨_, _, hleq, hq⟩ := hC
                          refine r_extract rfl rfl rfl rfl (r_nil (qq rfl))
                         refine d_take 8 (v := .bool v72.2) rfl (by kernel_rfl) (by kernel_rfl) (by kernel_rfl) rfl rfl rfl rfl (hx91.sh ((hF58.trans hF59).trans hF60) [0, 1, 2, 3, 4, 5, 6, 7, 8, 9, 10, 11] (by decide) rfl) (fun _ hC => ?_) ?_
                         ·obtain ⟨_, _, hleq, hq⟩ := hC
                          refine r_extract rfl rfl rfl rfl (r_nil (qq rfl))
                         refine d_step 9 rfl (by kernel_rfl) ?_
                         refine r_alloc ze26 rfl rfl rfl hx91 ?_
                         intro b17 wx106 hx92
                         refine d_next (hx92.sh ((hF58.trans hF59).trans hF60) [1, 2, 3, 4, 5, 6, 7, 8, 9, 10, 11, 12] (by decide) rfl) ?_
                         refine d_step 10 rfl (by kernel_rfl) ?_
                         refine r_store sz26 rfl hx92 rfl rfl rfl rfl (i := 0) rfl rfl rfl rfl ?_
                         intro wx107 hx93
                         refine d_next (hx93.sh ((hF58.trans hF59).trans hF60) [1, 2, 3, 4, 5, 6, 7, 8, 9, 10, 11, 12] (by decide) rfl) ?_
                         refine d_take 11 (v := .bool v72.2) rfl (by kernel_rfl) (by kernel_rfl) (by kernel_rfl) rfl rfl rfl rfl (hx93.sh ((hF58.trans hF59).trans hF60) [1, 2, 3, 4, 5, 6, 7, 8, 9, 10, 11, 12] (by decide) rfl) (fun _ hC => ?_) ?_
                         ·obtain ⟨_, _, hleq, hq⟩ := hC
                          refine r_assign rfl rfl rfl (r_nil (qq rfl))
                         refine d_done (by kernel_rfl) ?_
                         refine q_next (fun a ha => ?_)
                         cases hb21
                         exact ⟨_, b17, as79, ns79, cs79, as80, ns80, cs80, ((hF58.trans hF59).trans hF60), hx93.pick [0, 1, 2, 3, 4, 5, 6, 7, 8, 9, 10, 11, 12] (by decide) rfl, hs79, hs80, ha.cut (l := [3, 4, 7, 8, 9, 11, 13, 14, 15, 16, 18, 22]) rfl⟩
                        ·refine r_alloc ze26 rfl rfl rfl hx90 ?_
                         intro b17 wx105 hx91
                         refine d_next (hx91.sh (hF58.trans hF59) [1, 2, 3, 4, 5, 6, 7, 8, 9, 10, 11, 12] (by decide) rfl) ?_
                         refine d_step 5 rfl (by kernel_rfl) ?_
                         obtain ⟨v72, hv42, hb21⟩ := bind_some hb21
                         refine r_callG0 ent45 rfl rfl rfl rfl hx91 (law05_right_ok _ _ _ _ hv42 hx91.sat hs77 hs78) ?_
                         rintro _ Fx60 _ wx106 hF60 hx92 ⟨as79, ns79, cs79, as80, ns80, cs80, rfl, rfl, hs79, hs80⟩
                         refine d_next (hx92.sh ((hF58.trans hF59).trans hF60) [1, 2, 3, 4, 5, 6, 7, 8, 9, 10, 11, 12] (by decide) rfl) ?_
                         refine d_take 6 (v := .tuple #[.agg #[.int .i64 v72.1.P.Sign, .slice as79 ns79 cs79, .int .i64 v72.1.Q.Sign, .slice as80 ns80 cs80], .bool v72.2]) rfl (by kernel_rfl) (by kernel_rfl) (by kernel_rfl) rfl rfl rfl rfl (hx92.sh ((hF58.trans hF59).trans hF60) [1, 2, 3, 4, 5, 6, 7, 8, 9, 10, 11, 12] (by decide) rfl) (fun _ hC => ?_) ?_
                         ·obtain ⟨_, _, hleq, hq⟩ := hC
                          refine r_move rfl rfl rfl (r_nil (qq rfl))
                         refine d_take 7 (v := .agg #[.int .i64 v72.1.P.Sign, .slice as79 ns79 cs79, .int .i64 v72.1.Q.Sign, .slice as80 ns80 cs80]) rfl (by kernel_rfl) (by kernel_rfl) (by kernel_rfl) rfl rfl rfl rfl (hx92.sh ((hF58.trans hF59).trans hF60) [1, 2, 3, 4, 5, 6, 7, 8, 9, 10, 11, 12] (by decide) rfl) (fun _ hC => ?_) ?_
                         ·obtain ⟨_, _, hleq, hq⟩ := hC
                          refine r_extract rfl rfl rfl rfl (r_nil (qq rfl))
                         refine d_take 8 (v := .bool v72.2) rfl (by kernel_rfl) (by kernel_rfl) (by kernel_rfl) rfl rfl rfl rfl (hx92.sh ((hF58.trans hF59).trans hF60) [1, 2, 3, 4, 5, 6, 7, 8, 9, 10, 11, 12] (by decide) rfl) (fun _ hC => ?_) ?_
                         ·obtain ⟨_, _, hleq, hq⟩ := hC
                          refine r_extract rfl rfl rfl rfl (r_nil (qq rfl))
                         refine d_step 10 rfl (by kernel_rfl) ?_
                         refine r_store sz26 rfl hx92 rfl rfl rfl rfl (i := 0) rfl rfl rfl rfl ?_
                         intro wx107 hx93
                         refine d_next (hx93.sh ((hF58.trans hF59).trans hF60) [1, 2, 3, 4, 5, 6, 7, 8, 9, 10, 11, 12] (by decide) rfl) ?_
                         refine d_take 11 (v := .bool v72.2) rfl (by kernel_rfl) (by kernel_rfl) (by kernel_rfl) rfl rfl rfl rfl (hx93.sh ((hF58.trans hF59).trans hF60) [1, 2, 3, 4, 5, 6, 7, 8, 9, 10, 11, 12] (by decide) rfl) (fun _ hC => ?_) ?_
                         ·obtain ⟨_, _, hleq, hq⟩ := hC
                          refine r_assign rfl rfl rfl (r_nil (qq rfl))
                         refine d_done (by kernel_rfl) ?_
                         refine q_next (fun a ha => ?_)
                         cases hb21
                         exact ⟨_, b17, as79, ns79, cs79, as80, ns80, cs80, ((hF58.trans hF59).trans hF60), hx93.pick [0, 1, 2, 3, 4, 5, 6, 7, 8, 9, 10, 11, 12] (by decide) rfl, hs79, hs80, ha.cut (l := [3, 4, 7, 8, 9, 11, 13, 14, 15, 16, 18, 22]) rfl⟩
                       ·refine r_alloc ze26 rfl rfl rfl hx89 ?_
                        intro b17 wx104 hx90
                        refine d_next (hx90.sh hF58 [1, 2, 3, 4, 5, 6, 7, 8, 9, 10, 11, 12] (by decide) rfl) ?_
                        refine d_step 2 rfl (by kernel_rfl) ?_
                        have hG20 := ((((((hG9.trans hF32).trans hF33).trans hF34).trans hF35).trans hF36).trans hF37).trans hF58
                        obtain ⟨v71, hv41, hb21⟩ := bind_some hb21
                        refine r_callG0 ent10 rfl rfl rfl rfl hx90 (frac_Add_ok _ _ _ _ hv41 hx90.sat (hs1.mono hG20) (hs2.mono hG20) hs75 hs76) ?_
                        rintro _ Fx59 _ wx105 hF59 hx91 ⟨as77, ns77, cs77, as78, ns78, cs78, rfl, rfl, hs77, hs78⟩
                        refine d_next (hx91.sh (hF58.trans hF59) [1, 2, 3, 4, 5, 6, 7, 8, 9, 10, 11, 12] (by decide) rfl) ?_
                        refine d_take 3 (v := .agg #[.int .i64 v71.1.P.Sign, .slice as77 ns77 cs77, .int .i64 v71.1.Q.Sign, .slice as78 ns78 cs78]) rfl (by kernel_rfl) (by kernel_rfl) (by kernel_rfl) rfl rfl rfl rfl (hx91.sh (hF58.trans hF59) [1, 2, 3, 4, 5, 6, 7, 8, 9, 10, 11, 12] (by decide) rfl) (fun _ hC => ?_) ?_
                        ·obtain ⟨_, _, hleq, hq⟩ := hC
                         refine r_extract rfl rfl rfl rfl (r_nil (qq rfl))
                        refine d_take 4 (v := .int .i64 v71.2) rfl (by kernel_rfl) (by kernel_rfl) (by kernel_rfl) rfl rfl rfl rfl (hx91.sh (hF58.trans hF59) [1, 2, 3, 4, 5, 6, 7, 8, 9, 10, 11, 12] (by decide) rfl) (fun _ hC => ?_) ?_
                        ·obtain ⟨_, _, hleq, hq⟩ := hC
                         refine r_extract rfl rfl rfl rfl (r_nil (qq rfl))
                        refine d_step 5 rfl (by kernel_rfl) ?_
                        obtain ⟨v72, hv42, hb21⟩ := bind_some hb21
                        refine r_callG0 ent45 rfl rfl rfl rfl hx91 (law05_right_ok _ _ _ _ hv42 hx91.sat hs77 hs78) ?_
                        rintro _ Fx60 _ wx106 hF60 hx92 ⟨as79, ns79, cs79, as80, ns80, cs80, rfl, rfl, hs79, hs80⟩
                        refine d_next (hx92.sh ((hF58.trans hF59).trans hF60) [1, 2, 3, 4, 5, 6, 7, 8, 9, 10, 11, 12] (by decide) rfl) ?_
                        refine d_take 6 (v := .tuple #[.agg #[.int .i64 v72.1.P.Sign, .slice as79 ns79 cs79, .int .i64 v72.1.Q.Sign, .slice as80 ns80 cs80], .bool v72.2]) rfl (by kernel_rfl) (by kernel_rfl) (by kernel_rfl) rfl rfl rfl rfl (hx92.sh ((hF58.trans hF59).trans hF60) [1, 2, 3, 4, 5, 6, 7, 8, 9, 10, 11, 12] (by decide) rfl) (fun _ hC => ?_) ?_
                        ·obtain ⟨_, _, hleq, hq⟩ := hC
                         refine r_move rfl rfl rfl (r_nil (qq rfl))
                        refine d_take 7 (v := .agg #[.int .i64 v72.1.P.Sign, .slice as79 ns79 cs79, .int .i64 v72.1.Q.Sign, .slice as80 ns80 cs80]) rfl (by kernel_rfl) (by kernel_rfl) (by kernel_rfl) rfl rfl rfl rfl (hx92.sh ((hF58.trans hF59).trans hF60) [1, 2, 3, 4, 5, 6, 7, 8, 9, 10, 11, 12] (by decide) rfl) (fun _ hC => ?_) ?_
                        ·obtain ⟨_, _, hleq, hq⟩ := hC
                         refine r_extract rfl rfl rfl rfl (r_nil (qq rfl))
                        refine d_take 8 (v := .bool v72.2) rfl (by kernel_rfl) (by kernel_rfl) (by kernel_rfl) rfl rfl rfl rfl (hx92.sh ((hF58.trans hF59).trans hF60) [1, 2, 3, 4, 5, 6, 7, 8, 9, 10, 11, 12] (by decide) rfl) (fun _ hC => ?_) ?_
                        ·obtain ⟨_, _, hleq, hq⟩ := hC
                         refine r_extract rfl rfl rfl rfl (r_nil (qq rfl))
                        refine d_step 10 rfl (by kernel_rfl) ?_
                        refine r_store sz26 rfl hx92 rfl rfl rfl rfl (i := 0) rfl rfl rfl rfl ?_
                        intro wx107 hx93
                        refine d_next (hx93.sh ((hF58.trans hF59).trans hF60) [1, 2, 3, 4, 5, 6, 7, 8, 9, 10, 11, 12] (by decide) rfl) ?_
                        refine d_take 11 (v := .bool v72.2) rfl (by kernel_rfl) (by kernel_rfl) (by kernel_rfl) rfl rfl rfl rfl (hx93.sh ((hF58.trans hF59).trans hF60) [1, 2, 3, 4, 5, 6, 7, 8, 9, 10, 11, 12] (by decide) rfl) (fun _ hC => ?_) ?_
                        ·obtain ⟨_, _, hleq, hq⟩ := hC
                         refine r_assign rfl rfl rfl (r_nil (qq rfl))
                        refine d_done (by kernel_rfl) ?_
                        refine q_next (fun a ha => ?_)
                        cases hb21
                        exact ⟨_, b17, as79, ns79, cs79, as80, ns80, cs80, ((hF58.trans hF59).trans hF60), hx93.pick [0, 1, 2, 3, 4, 5, 6, 7, 8, 9, 10, 11, 12] (by decide) rfl, hs79, hs80, ha.cut (l := [3, 4, 7, 8, 9, 11, 13, 14, 15, 16, 18, 22]) rfl⟩
                      ·refine r_alloc ze26 rfl rfl rfl hx88 ?_
                       intro b17 wx103 hx89
                       refine d_next (hx89.sh (Frz.refl _) [1, 2, 3, 4, 5, 6, 7, 8, 9, 10, 11, 12] (by decide) rfl) ?_
                       refine d_step 1 rfl (by kernel_rfl) ?_
                       obtain ⟨v70, hv40, hb21⟩ := bind_some hb21
                       refine r_callG0 ent46 rfl rfl rfl rfl hx89 (law05_of_ok _ _ _ _ hv40 hx89.sat) ?_
                       rintro _ Fx58 _ wx104 hF58 hx90 ⟨as75, ns75, cs75, as76, ns76, cs76, rfl, rfl, hs75, hs76⟩
                       refine d_next (hx90.sh hF58 [1, 2, 3, 4, 5, 6, 7, 8, 9, 10, 11, 12] (by decide) rfl) ?_
                       refine d_step 2 rfl (by kernel_rfl) ?_
                       have hG20 := ((((((hG9.trans hF32).trans hF33).trans hF34).trans hF35).trans hF36).trans hF37).trans hF58
                       obtain ⟨v71, hv41, hb21⟩ := bind_some hb21
                       refine r_callG0 ent10 rfl rfl rfl rfl hx90 (frac_Add_ok _ _ _ _ hv41 hx90.sat (hs1.mono hG20) (hs2.mono hG20) hs75 hs76) ?_
                       rintro _ Fx59 _ wx105 hF59 hx91 ⟨as77, ns77, cs77, as78, ns78, cs78, rfl, rfl, hs77, hs78⟩
                       refine d_next (hx91.sh (hF58.trans hF59) [1, 2, 3, 4, 5, 6, 7, 8, 9, 10, 11, 12] (by decide) rfl) ?_
                       refine d_take 3 (v := .agg #[.int .i64 v71.1.P.Sign, .slice as77 ns77 cs77, .int .i64 v71.1.Q.Sign, .slice as78 ns78 cs78]) rfl (by kernel_rfl) (by kernel_rfl) (by kernel_rfl) rfl rfl rfl rfl (hx91.sh (hF58.trans hF59) [1, 2, 3, 4, 5, 6, 7, 8, 9, 10, 11, 12] (by decide) rfl) (fun _ hC => ?_) ?_
                       ·obtain ⟨_, _, hleq, hq⟩ := hC
                        refine r_extract rfl rfl rfl rfl (r_nil (qq rfl))
                       refine d_take 4 (v := .int .i64 v71.2) rfl (by kernel_rfl) (by kernel_rfl) (by kernel_rfl) rfl rfl rfl rfl (hx91.sh (hF58.trans hF59) [1, 2, 3, 4, 5, 6, 7, 8, 9, 10, 11, 12] (by decide) rfl) (fun _ hC => ?_) ?_
                       ·obtain ⟨_, _, hleq, hq⟩ := hC
                        refine r_extract rfl rfl rfl rfl (r_nil (qq rfl))
                       refine d_step 5 rfl (by kernel_rfl) ?_
                       obtain ⟨v72, hv42, hb21⟩ := bind_some hb21
                       refine r_callG0 ent45 rfl rfl rfl rfl hx91 (law05_right_ok _ _ _ _ hv42 hx91.sat hs77 hs78) ?_
                       rintro _ Fx60 _ wx106 hF60 hx92 ⟨as79, ns79, cs79, as80, ns80, cs80, rfl, rfl, hs79, hs80⟩
                       refine d_next (hx92.sh ((hF58.trans hF59).trans hF60) [1, 2, 3, 4, 5, 6, 7, 8, 9, 10, 11, 12] (by decide) rfl) ?_
                       refine d_take 6 (v := .tuple #[.agg #[.int .i64 v72.1.P.Sign, .slice as79 ns79 cs79, .int .i64 v72.1.Q.Sign, .slice as80 ns80 cs80], .bool v72.2]) rfl (by kernel_rfl) (by kernel_rfl) (by kernel_rfl) rfl rfl rfl rfl (hx92.sh ((hF58.trans hF59).trans hF60) [1, 2, 3, 4, 5, 6, 7, 8, 9, 10, 11, 12] (by decide) rfl) (fun _ hC => ?_) ?_
                       ·obtain ⟨_, _, hleq, hq⟩ := hC
                        refine r_move rfl rfl rfl (r_nil (qq rfl))
                       refine d_take 7 (v := .agg #[.int .i64 v72.1.P.Sign, .slice as79 ns79 cs79, .int .i64 v72.1.Q.Sign, .slice as80 ns80 cs80]) rfl (by kernel_rfl) (by kernel_rfl) (by kernel_rfl) rfl rfl rfl rfl (hx92.sh ((hF58.trans hF59).trans hF60) [1, 2, 3, 4, 5, 6, 7, 8, 9, 10, 11, 12] (by decide) rfl) (fun _ hC => ?_) ?_
                       ·obtain ⟨_, _, hleq, hq⟩ := hC
                        refine r_extract rfl rfl rfl rfl (r_nil (qq rfl))
                       refine d_take 8 (v := .bool v72.2) rfl (by kernel_rfl) (by kernel_rfl) (by kernel_rfl) rfl rfl rfl rfl (hx92.sh ((hF58.trans hF59).trans hF60) [1, 2, 3, 4, 5, 6, 7, 8, 9, 10, 11, 12] (by decide) rfl) (fun _ hC => ?_) ?_
                       ·obtain ⟨_, _, hleq, hq⟩ := hC
                        refine r_extract rfl rfl rfl rfl (r_nil (qq rfl))
                       refine d_step 10 rfl (by kernel_rfl) ?_
                       refine r_store sz26 rfl hx92 rfl rfl rfl rfl (i := 0) rfl rfl rfl rfl ?_
                       intro wx107 hx93
                       refine d_next (hx93.sh ((hF58.trans hF59).trans hF60) [1, 2, 3, 4, 5, 6, 7, 8, 9, 10, 11, 12] (by decide) rfl) ?_
                       refine d_take 11 (v := .bool v72.2) rfl (by kernel_rfl) (by kernel_rfl) (by kernel_rfl) rfl rfl rfl rfl (hx93.sh ((hF58.trans hF59).trans hF60) [1, 2, 3, 4, 5, 6, 7, 8, 9, 10, 11, 12] (by decide) rfl) (fun _ hC => ?_) ?_
                       ·obtain ⟨_, _, hleq, hq⟩ := hC
                        refine r_assign rfl rfl rfl (r_nil (qq rfl))
                       refine d_done (by kernel_rfl) ?_
                       refine q_next (fun a ha => ?_)
                       cases hb21
                       exact ⟨_, b17, as79, ns79, cs79, as80, ns80, cs80, ((hF58.trans hF59).trans hF60), hx93.pick [0, 1, 2, 3, 4, 5, 6, 7, 8, 9, 10, 11, 12] (by decide) rfl, hs79, hs80, ha.cut (l := [3, 4, 7, 8, 9, 11, 13, 14, 15, 16, 18, 22]) rfl⟩
                   ·clear hm
                    rcases cond_some hb19 with ⟨hb50, hb19⟩ | ⟨hb50, hb19⟩
                    ·refine r_lit 200 rfl hb50 ?_
                     refine r_off rfl (by decide) rfl (r_off rfl (by decide) rfl (r_off rfl (by decide) rfl (r_off rfl (by decide) rfl (r_pick_true rfl rfl rfl rfl (r_nil ?_)))))
                     refine q_next (fun a ha => ?_)
                     cases hb19
                     exact ⟨_, Frz.refl _, hx51.pick [0, 1, 2, 3, 4, 5, 6, 7, 8, 9, 10] (by decide) rfl, ha.cut (l := [3, 4, 5, 7, 8, 14, 16, 18, 20, 205]) rfl⟩
                    ·refine r_lit 200 rfl hb50 ?_
                     refine r_loadBA (cs' := [.int .i64 v31.1.P.Sign, .slice as41 ns41 cs41, .int .i64 v31.1.Q.Sign, .slice as42 ns42 cs42]) ag26 sz26 rfl rfl hx51 rfl (i := 4) rfl rfl rfl ?_
                     refine r_loadBA (cs' := [.int .i64 v33.1.P.Sign, .slice as45 ns45 cs45, .int .i64 v33.1.Q.Sign, .slice as46 ns46 cs46]) ag26 sz26 rfl rfl hx51 rfl (i := 3) rfl rfl rfl ?_
                     obtain ⟨v73, hv43, hb19⟩ := bind_some hb19
                     refine r_callG0 ent14 rfl rfl rfl rfl hx51 (ref05_Same_ok _ _ _ _ hv43 hx51.sat (((hs41.mono hF28).mono hF29).mono hF30) (((hs42.mono hF28).mono hF29).mono hF30) (hs45.mono hF30) (hs46.mono hF30)) ?_
                     rintro _ Fx61 _ wx108 hF61 hx94 ⟨rfl, rfl⟩
                     refine r_not rfl rfl rfl (r_pick_false rfl rfl rfl rfl (r_nil ?_))
                     refine q_next (fun a ha => ?_)
                     cases hb19
                     exact ⟨_, hF61, hx94.pick [0, 1, 2, 3, 4, 5, 6, 7, 8, 9, 10] (by decide) rfl, ha.cut (l := [3, 4, 5, 7, 8, 14, 16, 18, 20, 205]) rfl⟩
                  ·clear hm
                   rcases cond_some hb18 with ⟨hb51, hb18⟩ | ⟨hb51, hb18⟩
                   ·refine r_lit 194 rfl hb51 ?_
                    refine r_off rfl (by decide) rfl (r_off rfl (by decide) rfl (r_off rfl (by decide) rfl (r_off rfl (by decide) rfl (r_pick_true rfl rfl rfl rfl (r_nil ?_)))))
                    refine q_next (fun a ha => ?_)
                    cases hb18
                    exact ⟨_, Frz.refl _, hx50.pick [0, 1, 2, 3, 4, 5, 6, 7, 8, 9, 10] (by decide) rfl, ha.cut (l := [3, 4, 5, 7, 8, 14, 16, 18, 20, 199]) rfl⟩
                   ·refine r_lit 194 rfl hb51 ?_
                    refine r_loadBA (cs' := [.int .i64 v25.1.P.Sign, .slice as29 ns29 cs29, .int .i64 v25.1.Q.Sign, .slice as30 ns30 cs30]) ag26 sz26 rfl rfl hx50 rfl (i := 2) rfl rfl rfl ?_
                    refine r_loadBA (cs' := [.int .i64 v27.1.P.Sign, .slice as33 ns33 cs33, .int .i64 v27.1.Q.Sign, .slice as34 ns34 cs34]) ag26 sz26 rfl rfl hx50 rfl (i := 1) rfl rfl rfl ?_
                    have hG21 := (((hG7.trans hF26).trans hF27).trans hF28).trans hF29
                    have hG22 := ((((hF24.trans hF25).trans hF26).trans hF27).trans hF28).trans hF29
                    obtain ⟨v74, hv44, hb18⟩ := bind_some hb18
                    refine r_callG0 ent14 rfl rfl rfl rfl hx50 (ref05_Same_ok _ _ _ _ hv44 hx50.sat (hs29.mono hG21) (hs30.mono hG21) (hs33.mono hG22) (hs34.mono hG22)) ?_
                    rintro _ Fx62 _ wx109 hF62 hx95 ⟨rfl, rfl⟩
                    refine r_not rfl rfl rfl (r_pick_false rfl rfl rfl rfl (r_nil ?_))
                    refine q_next (fun a ha => ?_)
                    cases hb18
                    exact ⟨_, hF62, hx95.pick [0, 1, 2, 3, 4, 5, 6, 7, 8, 9, 10] (by decide) rfl, ha.cut (l := [3, 4, 5, 7, 8, 14, 16, 18, 20, 199]) rfl⟩
                 ·clear hm
                  rcases cond_some hb17 with ⟨hb52, hb17⟩ | ⟨hb52, hb17⟩
                  ·refine r_lit 190 rfl hb52 ?_
                   refine r_off rfl (by decide) rfl (r_off rfl (by decide) rfl (r_pick_true rfl rfl rfl rfl (r_nil ?_)))
                   refine q_next (fun a ha => ?_)
                   cases hb17
                   exact ⟨rfl, ha.cut (l := [3, 4, 5, 7, 8, 14, 16, 18, 19, 20, 193]) rfl⟩
                  ·refine r_lit 190 rfl hb52 ?_
                   refine r_move rfl rfl rfl (r_not rfl rfl rfl (r_pick_false rfl rfl rfl rfl (r_nil ?_)))
                   refine q_next (fun a ha => ?_)
                   cases hb17
                   exact ⟨rfl, ha.cut (l := [3, 4, 5, 7, 8, 14, 16, 18, 19, 20, 193]) rfl⟩
                ·clear hm
                 rcases cond_some hb16 with ⟨hb53, hb16⟩ | ⟨hb53, hb16⟩
                 ·refine r_lit 186 rfl hb53 ?_
                  refine r_off rfl (by decide) rfl (r_off rfl (by decide) rfl (r_pick_true rfl rfl rfl rfl (r_nil ?_)))
                  refine q_next (fun a ha => ?_)
                  cases hb16
                  exact ⟨rfl, ha.cut (l := [3, 4, 5, 7, 8, 14, 16, 17, 18, 19, 20, 189]) rfl⟩
                 ·refine r_lit 186 rfl hb53 ?_
                  refine r_move rfl rfl rfl (r_not rfl rfl rfl (r_pick_false rfl rfl rfl rfl (r_nil ?_)))
                  refine q_next (fun a ha => ?_)
                  cases hb16
                  exact ⟨rfl, ha.cut (l := [3, 4, 5, 7, 8, 14, 16, 17, 18, 19, 20, 189]) rfl⟩
               ·clear hm
                rcases cond_some hb15 with ⟨hb54, hb15⟩ | ⟨hb54, hb15⟩
                ·refine r_lit 182 rfl hb54 ?_
                 refine r_off rfl (by decide) rfl (r_off rfl (by decide) rfl (r_pick_true rfl rfl rfl rfl (r_nil ?_)))
                 refine q_next (fun a ha => ?_)
                 cases hb15
                 exact ⟨rfl, ha.cut (l := [3, 4, 5, 7, 8, 14, 15, 16, 17, 18, 19, 20, 185]) rfl⟩
                ·refine r_lit 182 rfl hb54 ?_
                 refine r_move rfl rfl rfl (r_not rfl rfl rfl (r_pick_false rfl rfl rfl rfl (r_nil ?_)))
                 refine q_next (fun a ha => ?_)
                 cases hb15
                 exact ⟨rfl, ha.cut (l := [3, 4, 5, 7, 8, 14, 15, 16, 17, 18, 19, 20, 185]) rfl⟩
              ·clear hm
               rcases cond_some hb14 with ⟨hb55, hb14⟩ | ⟨hb55, hb14⟩
               ·refine r_lit 178 rfl hb55 ?_
                refine r_off rfl (by decide) rfl (r_off rfl (by decide) rfl (r_pick_true rfl rfl rfl rfl (r_nil ?_)))
                refine q_next (fun a ha => ?_)
                cases hb14
                exact ⟨rfl, ha.cut (l := [3, 4, 5, 7, 8, 13, 14, 15, 16, 17, 18, 19, 20, 181]) rfl⟩
               ·refine r_lit 178 rfl hb55 ?_
                refine r_move rfl rfl rfl (r_not rfl rfl rfl (r_pick_false rfl rfl rfl rfl (r_nil ?_)))
                refine q_next (fun a ha => ?_)
                cases hb14
                exact ⟨rfl, ha.cut (l := [3, 4, 5, 7, 8, 13, 14, 15, 16, 17, 18, 19, 20, 181]) rfl⟩
            ·clear hm
             rcases cond_some hb12 with ⟨hb56, hb12⟩ | ⟨hb56, hb12⟩
             ·refine r_lit 125 rfl hb56 ?_
              refine r_off rfl (by decide) rfl (r_off rfl (by decide) rfl (r_off rfl (by decide) rfl (r_off rfl (by decide) rfl (r_pick_true rfl rfl rfl rfl (r_nil ?_)))))
              refine q_next (fun a ha => ?_)
              cases hb12
              exact ⟨_, Frz.refl _, hx31.pick [0, 1, 2, 3, 4, 5, 6, 7] (by decide) rfl, ha.cut (l := [3, 4, 5, 7, 8, 14, 16, 130]) rfl⟩
             ·refine r_lit 125 rfl hb56 ?_
              refine r_loadBA (cs' := [.int .i64 v15.1.P.Sign, .slice as21 ns21 cs21, .int .i64 v15.1.Q.Sign, .slice as22 ns22 cs22]) ag26 sz26 rfl rfl hx31 rfl (i := 1) rfl rfl rfl ?_
              refine r_loadBA (cs' := [.int .i64 v17.1.P.Sign, .slice as25 ns25 cs25, .int .i64 v17.1.Q.Sign, .slice as26 ns26 cs26]) ag26 sz26 rfl rfl hx31 rfl (i := 0) rfl rfl rfl ?_
              obtain ⟨v75, hv45, hb12⟩ := bind_some hb12
              refine r_callG0 ent14 rfl rfl rfl rfl hx31 (ref05_Same_ok _ _ _ _ hv45 hx31.sat (((hs21.mono hF16).mono hF17).mono hF18) (((hs22.mono hF16).mono hF17).mono hF18) (hs25.mono hF18) (hs26.mono hF18)) ?_
              rintro _ Fx63 _ wx110 hF63 hx96 ⟨rfl, rfl⟩
              refine r_not rfl rfl rfl (r_pick_false rfl rfl rfl rfl (r_nil ?_))
              refine q_next (fun a ha => ?_)
              cases hb12
              exact ⟨_, hF63, hx96.pick [0, 1, 2, 3, 4, 5, 6, 7] (by decide) rfl, ha.cut (l := [3, 4, 5, 7, 8, 14, 16, 130]) rfl⟩
           ·clear hm
            rcases cond_some hb11 with ⟨hb57, hb11⟩ | ⟨hb57, hb11⟩
            ·refine r_lit 119 rfl hb57 ?_
             refine r_off rfl (by decide) rfl (r_off rfl (by decide) rfl (r_off rfl (by decide) rfl (r_off rfl (by decide) rfl (r_pick_true rfl rfl rfl rfl (r_nil ?_)))))
             refine q_next (fun a ha => ?_)
             cases hb11
             exact ⟨_, Frz.refl _, hx30.pick [0, 1, 2, 3, 4, 5, 6, 7] (by decide) rfl, ha.cut (l := [3, 4, 5, 7, 8, 14, 16, 124]) rfl⟩
            ·refine r_lit 119 rfl hb57 ?_
             refine r_loadBA (cs' := [.int .i64 v9.1.P.Sign, .slice as9 ns9 cs9, .int .i64 v9.1.Q.Sign, .slice as10 ns10 cs10]) ag26 sz26 rfl rfl hx30 rfl (i := 4) rfl rfl rfl ?_
             refine r_loadBA (cs' := [.int .i64 v11.1.P.Sign, .slice as13 ns13 cs13, .int .i64 v11.1.Q.Sign, .slice as14 ns14 cs14]) ag26 sz26 rfl rfl hx30 rfl (i := 3) rfl rfl rfl ?_
             have hG23 := (((hG3.trans hF14).trans hF15).trans hF16).trans hF17
             have hG24 := ((((hF12.trans hF13).trans hF14).trans hF15).trans hF16).trans hF17
             obtain ⟨v76, hv46, hb11⟩ := bind_some hb11
             refine r_callG0 ent14 rfl rfl rfl rfl hx30 (ref05_Same_ok _ _ _ _ hv46 hx30.sat (hs9.mono hG23) (hs10.mono hG23) (hs13.mono hG24) (hs14.mono hG24)) ?_
             rintro _ Fx64 _ wx111 hF64 hx97 ⟨rfl, rfl⟩
             refine r_not rfl rfl rfl (r_pick_false rfl rfl rfl rfl (r_nil ?_))
             refine q_next (fun a ha => ?_)
             cases hb11
             exact ⟨_, hF64, hx97.pick [0, 1, 2, 3, 4, 5, 6, 7] (by decide) rfl, ha.cut (l := [3, 4, 5, 7, 8, 14, 16, 124]) rfl⟩
          ·clear hm
           rcases cond_some hb10 with ⟨hb58, hb10⟩ | ⟨hb58, hb10⟩
           ·refine r_lit 115 rfl hb58 ?_
            refine r_off rfl (by decide) rfl (r_off rfl (by decide) rfl (r_pick_true rfl rfl rfl rfl (r_nil ?_)))
            refine q_next (fun a ha => ?_)
            cases hb10
            exact ⟨rfl, ha.cut (l := [3, 4, 5, 7, 8, 10, 14, 16, 118]) rfl⟩
           ·refine r_lit 115 rfl hb58 ?_
            refine r_move rfl rfl rfl (r_not rfl rfl rfl (r_pick_false rfl rfl rfl rfl (r_nil ?_)))
            refine q_next (fun a ha => ?_)
            cases hb10
            exact ⟨rfl, ha.cut (l := [3, 4, 5, 7, 8, 10, 14, 16, 118]) rfl⟩
         ·clear hm
          rcases cond_some hb9 with ⟨hb59, hb9⟩ | ⟨hb59, hb9⟩
          ·refine r_lit 111 rfl hb59 ?_
           refine r_off rfl (by decide) rfl (r_off rfl (by decide) rfl (r_pick_true rfl rfl rfl rfl (r_nil ?_)))
           refine q_next (fun a ha => ?_)
           cases hb9
           exact ⟨rfl, ha.cut (l := [3, 4, 5, 7, 8, 10, 14, 16, 17, 114]) rfl⟩
          ·refine r_lit 111 rfl hb59 ?_
           refine r_move rfl rfl rfl (r_not rfl rfl rfl (r_pick_false rfl rfl rfl rfl (r_nil ?_)))
           refine q_next (fun a ha => ?_)
           cases hb9
           exact ⟨rfl, ha.cut (l := [3, 4, 5, 7, 8, 10, 14, 16, 17, 114]) rfl⟩
        ·clear hm
         rcases cond_some hb8 with ⟨hb60, hb8⟩ | ⟨hb60, hb8⟩
         ·refine r_lit 107 rfl hb60 ?_
          refine r_off rfl (by decide) rfl (r_off rfl (by decide) rfl (r_pick_true rfl rfl rfl rfl (r_nil ?_)))
          refine q_next (fun a ha => ?_)
          cases hb8
          exact ⟨rfl, ha.cut (l := [3, 4, 5, 7, 8, 10, 14, 15, 16, 17, 110]) rfl⟩
         ·refine r_lit 107 rfl hb60 ?_
          refine r_move rfl rfl rfl (r_not rfl rfl rfl (r_pick_false rfl rfl rfl rfl (r_nil ?_)))
          refine q_next (fun a ha => ?_)
          cases hb8
          exact ⟨rfl, ha.cut (l := [3, 4, 5, 7, 8, 10, 14, 15, 16, 17, 110]) rfl⟩
       ·clear hm
        rcases cond_some hb7 with ⟨hb61, hb7⟩ | ⟨hb61, hb7⟩
        ·refine r_lit 103 rfl hb61 ?_
         refine r_off rfl (by decide) rfl (r_off rfl (by decide) rfl (r_pick_true rfl rfl rfl rfl (r_nil ?_)))
         refine q_next (fun a ha => ?_)
         cases hb7
         exact ⟨rfl, ha.cut (l := [3, 4, 5, 7, 8, 10, 13, 14, 15, 16, 17, 106]) rfl⟩
        ·refine r_lit 103 rfl hb61 ?_
         refine r_move rfl rfl rfl (r_not rfl rfl rfl (r_pick_false rfl rfl rfl rfl (r_nil ?_)))
         refine q_next (fun a ha => ?_)
         cases hb7
         exact ⟨rfl, ha.cut (l := [3, 4, 5, 7, 8, 10, 13, 14, 15, 16, 17, 106]) rfl⟩
     ·clear hm
      rcases cond_some hb5 with ⟨hb62, hb5⟩ | ⟨hb62, hb5⟩
      ·refine r_lit 50 rfl hb62 ?_
       refine r_off rfl (by decide) rfl (r_off rfl (by decide) rfl (r_off rfl (by decide) rfl (r_pick_true rfl rfl rfl rfl (r_nil ?_))))
       refine q_next (fun a ha => ?_)
       cases hb5
       exact ⟨_, Frz.refl _, hx9.pick [0, 1, 2] (by decide) rfl, ha.cut (l := [3, 4, 5, 7, 54]) rfl⟩
      ·refine r_lit 50 rfl hb62 ?_
       refine r_loadBA (cs' := [.int .i64 c1.P.Sign, .slice as5 ns5 cs5, .int .i64 c1.Q.Sign, .slice as6 ns6 cs6]) ag26 sz26 rfl rfl hx9 rfl (i := 0) rfl rfl rfl ?_
       have hG25 := ((((hF1.trans hF2).trans hF3).trans hF4).trans hF5).trans hF6
       obtain ⟨v77, hv47, hb5⟩ := bind_some hb5
       refine r_callG0 ent25 rfl rfl rfl rfl hx9 (frac_Right_ok _ _ _ hv47 hx9.sat (hs5.mono hG25) (hs6.mono hG25)) ?_
       rintro _ Fx65 _ wx112 hF65 hx98 ⟨rfl, rfl⟩
       refine r_not rfl rfl rfl (r_pick_false rfl rfl rfl rfl (r_nil ?_))
       refine q_next (fun a ha => ?_)
       cases hb5
       exact ⟨_, hF65, hx98.pick [0, 1, 2] (by decide) rfl, ha.cut (l := [3, 4, 5, 7, 54]) rfl⟩
    ·clear hm
     rcases cond_some hb4 with ⟨hb63, hb4⟩ | ⟨hb63, hb4⟩
     ·refine r_lit 45 rfl hb63 ?_
      refine r_off rfl (by decide) rfl (r_off rfl (by decide) rfl (r_off rfl (by decide) rfl (r_pick_true rfl rfl rfl rfl (r_nil ?_))))
      refine q_next (fun a ha => ?_)
      cases hb4
      exact ⟨_, Frz.refl _, hx8.pick [0, 1, 2] (by decide) rfl, ha.cut (l := [3, 4, 5, 7, 49]) rfl⟩
     ·refine r_lit 45 rfl hb63 ?_
      refine r_loadBA (cs' := [.int .i64 b1.P.Sign, .slice as3 ns3 cs3, .int .i64 b1.Q.Sign, .slice as4 ns4 cs4]) ag26 sz26 rfl rfl hx8 rfl (i := 1) rfl rfl rfl ?_
      have hG26 := (((hF1.trans hF2).trans hF3).trans hF4).trans hF5
      obtain ⟨v78, hv48, hb4⟩ := bind_some hb4
      refine r_callG0 ent25 rfl rfl rfl rfl hx8 (frac_Right_ok _ _ _ hv48 hx8.sat (hs3.mono hG26) (hs4.mono hG26)) ?_
      rintro _ Fx66 _ wx113 hF66 hx99 ⟨rfl, rfl⟩
      refine r_not rfl rfl rfl (r_pick_false rfl rfl rfl rfl (r_nil ?_))
      refine q_next (fun a ha => ?_)
      cases hb4
      exact ⟨_, hF66, hx99.pick [0, 1, 2] (by decide) rfl, ha.cut (l := [3, 4, 5, 7, 49]) rfl⟩
   ·clear hm
    rcases cond_some hb3 with ⟨hb64, hb3⟩ | ⟨hb64, hb3⟩
    ·refine r_lit 40 rfl hb64 ?_
     refine r_off rfl (by decide) rfl (r_off rfl (by decide) rfl (r_off rfl (by decide) rfl (r_pick_true rfl rfl rfl rfl (r_nil ?_))))
     refine q_next (fun a ha => ?_)
     cases hb3
     exact ⟨_, Frz.refl _, hx7.pick [0, 1, 2] (by decide) rfl, ha.cut (l := [3, 4, 5, 7, 44]) rfl⟩
    ·refine r_lit 40 rfl hb64 ?_
     refine r_loadBA (cs' := [.int .i64 ax1.P.Sign, .slice as1 ns1 cs1, .int .i64 ax1.Q.Sign, .slice as2 ns2 cs2]) ag26 sz26 rfl rfl hx7 rfl (i := 2) rfl rfl rfl ?_
     have hG27 := ((hF1.trans hF2).trans hF3).trans hF4
     obtain ⟨v79, hv49, hb3⟩ := bind_some hb3
     refine r_callG0 ent25 rfl rfl rfl rfl hx7 (frac_Right_ok _ _ _ hv49 hx7.sat (hs1.mono hG27) (hs2.mono hG27)) ?_
     rintro _ Fx67 _ wx114 hF67 hx100 ⟨rfl, rfl⟩
     refine r_not rfl rfl rfl (r_pick_false rfl rfl rfl rfl (r_nil ?_))
     refine q_next (fun a ha => ?_)
     cases hb3
     exact ⟨_, hF67, hx100.pick [0, 1, 2] (by decide) rfl, ha.cut (l := [3, 4, 5, 7, 44]) rfl⟩
  ·clear hm
   rcases cond_some hb2 with ⟨hb65, hb2⟩ | ⟨hb65, hb2⟩
   ·refine r_lit 35 rfl hb65 ?_
    refine r_off rfl (by decide) rfl (r_off rfl (by decide) rfl (r_off rfl (by decide) rfl (r_pick_true rfl rfl rfl rfl (r_nil ?_))))
    refine q_next (fun a ha => ?_)
    cases hb2
    exact ⟨_, Frz.refl _, hx6.pick [0, 1, 2] (by decide) rfl, ha.cut (l := [3, 4, 5, 7, 39]) rfl⟩
   ·refine r_lit 35 rfl hb65 ?_
    refine r_loadBA (cs' := [.int .i64 c1.P.Sign, .slice as5 ns5 cs5, .int .i64 c1.Q.Sign, .slice as6 ns6 cs6]) ag26 sz26 rfl rfl hx6 rfl (i := 0) rfl rfl rfl ?_
    obtain ⟨v80, hv50, hb2⟩ := bind_some hb2
    refine r_callG0 ent9 rfl rfl rfl rfl hx6 (ref05_Few_ok _ _ _ _ hv50 hx6.sat (((hs5.mono hF1).mono hF2).mono hF3) (((hs6.mono hF1).mono hF2).mono hF3)) ?_
    rintro _ Fx68 _ wx115 hF68 hx101 ⟨rfl, rfl⟩
    refine r_not rfl rfl rfl (r_pick_false rfl rfl rfl rfl (r_nil ?_))
    refine q_next (fun a ha => ?_)
    cases hb2
    exact ⟨_, hF68, hx101.pick [0, 1, 2] (by decide) rfl, ha.cut (l := [3, 4, 5, 7, 39]) rfl⟩
 ·clear hm
  rcases cond_some hb1 with ⟨hb66, hb1⟩ | ⟨hb66, hb1⟩
  ·refine r_lit 30 rfl hb66 ?_
   refine r_off rfl (by decide) rfl (r_off rfl (by decide) rfl (r_off rfl (by decide) rfl (r_pick_true rfl rfl rfl rfl (r_nil ?_))))
   refine q_next (fun a ha => ?_)
   cases hb1
   exact ⟨_, Frz.refl _, hx5.pick [0, 1, 2] (by decide) rfl, ha.cut (l := [3, 4, 5, 7, 34]) rfl⟩
  ·refine r_lit 30 rfl hb66 ?_
   refine r_loadBA (cs' := [.int .i64 b1.P.Sign, .slice as3 ns3 cs3, .int .i64 b1.Q.Sign, .slice as4 ns4 cs4]) ag26 sz26 rfl rfl hx5 rfl (i := 1) rfl rfl rfl ?_
   obtain ⟨v81, hv51, hb1⟩ := bind_some hb1
   refine r_callG0 ent9 rfl rfl rfl rfl hx5 (ref05_Few_ok _ _ _ _ hv51 hx5.sat ((hs3.mono hF1).mono hF2) ((hs4.mono hF1).mono hF2)) ?_
   rintro _ Fx69 _ wx116 hF69 hx102 ⟨rfl, rfl⟩
   refine r_not rfl rfl rfl (r_pick_false rfl rfl rfl rfl (r_nil ?_))
   refine q_next (fun a ha => ?_)
   cases hb1
   exact ⟨_, hF69, hx102.pick [0, 1, 2] (by decide) rfl, ha.cut (l := [3, 4, 5, 7, 34]) rfl⟩


end Go.Proofs.YtaanocaobllohaaGreatDoor.M
