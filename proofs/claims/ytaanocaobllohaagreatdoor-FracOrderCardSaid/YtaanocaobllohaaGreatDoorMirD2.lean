/-
  THE MIRRORS of the fractions' and the big integers' functions, of their references and of the laws, and that each call returns what its mirror says. Printed by gen.py.
-/
import Derived.Test.YtaanocaobllohaaGreatDoorRows
import Derived.Test.YtaanocaobllohaaGreatDoorTrim
import Derived.Test.YtaanocaobllohaaGreatDoorExtC
import Derived.Test.YtaanocaobllohaaGreatDoorRtX
import Derived.Test.YtaanocaobllohaaGreatDoorMirS
namespace Go.Proofs.YtaanocaobllohaaGreatDoor.M
open Go Go.RowKit Rt

theorem ent8 : Ent Tryz.prog 8 := fun _ _ => by kernel_rfl

theorem ent9 : Ent Tryz.prog 9 := fun _ _ => by kernel_rfl

theorem u4 : Tryz.prog.underlying 4 = some .bool := by kernel_rfl

theorem ent45 : Ent Tryz.prog 45 := fun _ _ => by kernel_rfl

def law05_FracOrder (n : Nat) (ax1 : Frac) (b1 : Frac) (c1 : Frac) : Option Bool :=
 (law05_small n).bind fun v1 =>
 (ref05_Few n (⟨(⟨ax1.P.Sign, ax1.P.Digits⟩ : Big), (⟨ax1.Q.Sign, ax1.Q.Digits⟩ : Big)⟩ : Frac) 12).bind fun v2 =>
 (bif !v2 then
  some true
 else
  (ref05_Few n (⟨(⟨b1.P.Sign, b1.P.Digits⟩ : Big), (⟨b1.Q.Sign, b1.Q.Digits⟩ : Big)⟩ : Frac) 12).bind fun v77 =>
  some (!v77)).bind fun v3 =>
 (bif v3 then
  some true
 else
  (ref05_Few n (⟨(⟨c1.P.Sign, c1.P.Digits⟩ : Big), (⟨c1.Q.Sign, c1.Q.Digits⟩ : Big)⟩ : Frac) 12).bind fun v76 =>
  some (!v76)).bind fun v4 =>
 (bif v4 then
  some true
 else
  (frac_Right n (⟨(⟨ax1.P.Sign, ax1.P.Digits⟩ : Big), (⟨ax1.Q.Sign, ax1.Q.Digits⟩ : Big)⟩ : Frac)).bind fun v75 =>
  some (!v75)).bind fun v5 =>
 (bif v5 then
  some true
 else
  (frac_Right n (⟨(⟨b1.P.Sign, b1.P.Digits⟩ : Big), (⟨b1.Q.Sign, b1.Q.Digits⟩ : Big)⟩ : Frac)).bind fun v74 =>
  some (!v74)).bind fun v6 =>
 (bif v6 then
  some true
 else
  (frac_Right n (⟨(⟨c1.P.Sign, c1.P.Digits⟩ : Big), (⟨c1.Q.Sign, c1.Q.Digits⟩ : Big)⟩ : Frac)).bind fun v73 =>
  some (!v73)).bind fun v7 =>
 bif v7 then
  some v1
 else
  (frac_Compare n (⟨(⟨ax1.P.Sign, ax1.P.Digits⟩ : Big), (⟨ax1.Q.Sign, ax1.Q.Digits⟩ : Big)⟩ : Frac) (⟨(⟨b1.P.Sign, b1.P.Digits⟩ : Big), (⟨b1.Q.Sign, b1.Q.Digits⟩ : Big)⟩ : Frac)).bind fun v8 =>
  (ref05_Same n (⟨(⟨ax1.P.Sign, ax1.P.Digits⟩ : Big), (⟨ax1.Q.Sign, ax1.Q.Digits⟩ : Big)⟩ : Frac) (⟨(⟨b1.P.Sign, b1.P.Digits⟩ : Big), (⟨b1.Q.Sign, b1.Q.Digits⟩ : Big)⟩ : Frac)).bind fun v9 =>
  (bif !((v8 == 0) == v9) then
   some true
  else
   (frac_Compare n (⟨(⟨b1.P.Sign, b1.P.Digits⟩ : Big), (⟨b1.Q.Sign, b1.Q.Digits⟩ : Big)⟩ : Frac) (⟨(⟨ax1.P.Sign, ax1.P.Digits⟩ : Big), (⟨ax1.Q.Sign, ax1.Q.Digits⟩ : Big)⟩ : Frac)).bind fun v72 =>
   some (v72 != (IntKind.i64.wrap (0 - v8)))).bind fun v10 =>
  (bif v10 then
   some true
  else
   some (decide (v8 < (-1)))).bind fun v11 =>
  (bif v11 then
   some true
  else
   some (decide (1 < v8))).bind fun v12 =>
  bif v12 then
   some false
  else
   (bif decide (v8 ≤ 0) then
    (frac_Compare n (⟨(⟨b1.P.Sign, b1.P.Digits⟩ : Big), (⟨b1.Q.Sign, b1.Q.Digits⟩ : Big)⟩ : Frac) (⟨(⟨c1.P.Sign, c1.P.Digits⟩ : Big), (⟨c1.Q.Sign, c1.Q.Digits⟩ : Big)⟩ : Frac)).bind fun v71 =>
    some (decide (v71 ≤ 0))
   else
    some false).bind fun v13 =>
   (bif v13 then
    (frac_Compare n (⟨(⟨ax1.P.Sign, ax1.P.Digits⟩ : Big), (⟨ax1.Q.Sign, ax1.Q.Digits⟩ : Big)⟩ : Frac) (⟨(⟨c1.P.Sign, c1.P.Digits⟩ : Big), (⟨c1.Q.Sign, c1.Q.Digits⟩ : Big)⟩ : Frac)).bind fun v70 =>
    some (decide (0 < v70))
   else
    some false).bind fun v14 =>
   bif v14 then
    some false
   else
    (frac_Sub n (⟨(⟨ax1.P.Sign, ax1.P.Digits⟩ : Big), (⟨ax1.Q.Sign, ax1.Q.Digits⟩ : Big)⟩ : Frac) (⟨(⟨b1.P.Sign, b1.P.Digits⟩ : Big), (⟨b1.Q.Sign, b1.Q.Digits⟩ : Big)⟩ : Frac)).bind fun v15 =>
    (law05_right n v15.1 v15.2).bind fun v16 =>
    (frac_Add n (⟨(⟨ax1.P.Sign, ax1.P.Digits⟩ : Big), (⟨ax1.Q.Sign, ax1.Q.Digits⟩ : Big)⟩ : Frac) (⟨(⟨c1.P.Sign, c1.P.Digits⟩ : Big), (⟨c1.Q.Sign, c1.Q.Digits⟩ : Big)⟩ : Frac)).bind fun v17 =>
    (law05_right n v17.1 v17.2).bind fun v18 =>
    (frac_Add n (⟨(⟨b1.P.Sign, b1.P.Digits⟩ : Big), (⟨b1.Q.Sign, b1.Q.Digits⟩ : Big)⟩ : Frac) (⟨(⟨c1.P.Sign, c1.P.Digits⟩ : Big), (⟨c1.Q.Sign, c1.Q.Digits⟩ : Big)⟩ : Frac)).bind fun v19 =>
    (law05_right n v19.1 v19.2).bind fun v20 =>
    (frac_Mul n (⟨(⟨ax1.P.Sign, ax1.P.Digits⟩ : Big), (⟨ax1.Q.Sign, ax1.Q.Digits⟩ : Big)⟩ : Frac) (⟨(⟨c1.P.Sign, c1.P.Digits⟩ : Big), (⟨c1.Q.Sign, c1.Q.Digits⟩ : Big)⟩ : Frac)).bind fun v21 =>
    (law05_right n v21.1 v21.2).bind fun v22 =>
    (frac_Mul n (⟨(⟨b1.P.Sign, b1.P.Digits⟩ : Big), (⟨b1.Q.Sign, b1.Q.Digits⟩ : Big)⟩ : Frac) (⟨(⟨c1.P.Sign, c1.P.Digits⟩ : Big), (⟨c1.Q.Sign, c1.Q.Digits⟩ : Big)⟩ : Frac)).bind fun v23 =>
    (law05_right n v23.1 v23.2).bind fun v24 =>
    (bif !v16.2 then
     some true
    else
     some (!v18.2)).bind fun v25 =>
    (bif v25 then
     some true
    else
     some (!v20.2)).bind fun v26 =>
    (bif v26 then
     some true
    else
     some (!v22.2)).bind fun v27 =>
    (bif v27 then
     some true
    else
     some (!v24.2)).bind fun v28 =>
    (bif v28 then
     some true
    else
     some (v16.1.P.Sign != v8)).bind fun v29 =>
    (bif v29 then
     some true
    else
     (frac_Compare n (⟨(⟨v18.1.P.Sign, v18.1.P.Digits⟩ : Big), (⟨v18.1.Q.Sign, v18.1.Q.Digits⟩ : Big)⟩ : Frac) (⟨(⟨v20.1.P.Sign, v20.1.P.Digits⟩ : Big), (⟨v20.1.Q.Sign, v20.1.Q.Digits⟩ : Big)⟩ : Frac)).bind fun v69 =>
     some (v69 != v8)).bind fun v30 =>
    bif v30 then
     some false
    else
     (frac_Compare n (⟨(⟨v22.1.P.Sign, v22.1.P.Digits⟩ : Big), (⟨v22.1.Q.Sign, v22.1.Q.Digits⟩ : Big)⟩ : Frac) (⟨(⟨v24.1.P.Sign, v24.1.P.Digits⟩ : Big), (⟨v24.1.Q.Sign, v24.1.Q.Digits⟩ : Big)⟩ : Frac)).bind fun v31 =>
     (bif v31 != (imul .i64 v8 c1.P.Sign) then
      some true
     else
      (frac_Neg n (⟨(⟨ax1.P.Sign, ax1.P.Digits⟩ : Big), (⟨ax1.Q.Sign, ax1.Q.Digits⟩ : Big)⟩ : Frac)).bind fun v66 =>
      (frac_Neg n (⟨(⟨b1.P.Sign, b1.P.Digits⟩ : Big), (⟨b1.Q.Sign, b1.Q.Digits⟩ : Big)⟩ : Frac)).bind fun v67 =>
      (frac_Compare n v66 v67).bind fun v68 =>
      some (v68 != (IntKind.i64.wrap (0 - v8)))).bind fun v32 =>
     (bif v32 then
      some true
     else
      (frac_Sign n (⟨(⟨v16.1.P.Sign, v16.1.P.Digits⟩ : Big), (⟨v16.1.Q.Sign, v16.1.Q.Digits⟩ : Big)⟩ : Frac)).bind fun v65 =>
      some (v65 != v8)).bind fun v33 =>
     bif v33 then
      some false
     else
      (frac_Min n (⟨(⟨ax1.P.Sign, ax1.P.Digits⟩ : Big), (⟨ax1.Q.Sign, ax1.Q.Digits⟩ : Big)⟩ : Frac) (⟨(⟨b1.P.Sign, b1.P.Digits⟩ : Big), (⟨b1.Q.Sign, b1.Q.Digits⟩ : Big)⟩ : Frac)).bind fun v34 =>
      (law05_right n v34.1 v34.2).bind fun v35 =>
      (frac_Max n (⟨(⟨ax1.P.Sign, ax1.P.Digits⟩ : Big), (⟨ax1.Q.Sign, ax1.Q.Digits⟩ : Big)⟩ : Frac) (⟨(⟨b1.P.Sign, b1.P.Digits⟩ : Big), (⟨b1.Q.Sign, b1.Q.Digits⟩ : Big)⟩ : Frac)).bind fun v36 =>
      (law05_right n v36.1 v36.2).bind fun v37 =>
      (frac_Add n (⟨(⟨v35.1.P.Sign, v35.1.P.Digits⟩ : Big), (⟨v35.1.Q.Sign, v35.1.Q.Digits⟩ : Big)⟩ : Frac) (⟨(⟨v37.1.P.Sign, v37.1.P.Digits⟩ : Big), (⟨v37.1.Q.Sign, v37.1.Q.Digits⟩ : Big)⟩ : Frac)).bind fun v38 =>
      (law05_right n v38.1 v38.2).bind fun v39 =>
      (frac_Add n (⟨(⟨ax1.P.Sign, ax1.P.Digits⟩ : Big), (⟨ax1.Q.Sign, ax1.Q.Digits⟩ : Big)⟩ : Frac) (⟨(⟨b1.P.Sign, b1.P.Digits⟩ : Big), (⟨b1.Q.Sign, b1.Q.Digits⟩ : Big)⟩ : Frac)).bind fun v40 =>
      (law05_right n v40.1 v40.2).bind fun v41 =>
      ((frac_Neg n (⟨(⟨ax1.P.Sign, ax1.P.Digits⟩ : Big), (⟨ax1.Q.Sign, ax1.Q.Digits⟩ : Big)⟩ : Frac)).bind fun v62 =>
      (frac_Add n (⟨(⟨ax1.P.Sign, ax1.P.Digits⟩ : Big), (⟨ax1.Q.Sign, ax1.Q.Digits⟩ : Big)⟩ : Frac) v62).bind fun v63 =>
      (law05_right n v63.1 v63.2).bind fun v64 =>
      some (v64.2, v64.1.P.Sign, v64.1.P.Digits, v64.1.Q.Sign, v64.1.Q.Digits)).bind fun (five1, f1, f2, f3, f4) =>
      (ref05_Same n (⟨(⟨v35.1.P.Sign, v35.1.P.Digits⟩ : Big), (⟨v35.1.Q.Sign, v35.1.Q.Digits⟩ : Big)⟩ : Frac) (⟨(⟨ax1.P.Sign, ax1.P.Digits⟩ : Big), (⟨ax1.Q.Sign, ax1.Q.Digits⟩ : Big)⟩ : Frac)).bind fun v42 =>
      (bif v42 then
       (ref05_Same n (⟨(⟨v37.1.P.Sign, v37.1.P.Digits⟩ : Big), (⟨v37.1.Q.Sign, v37.1.Q.Digits⟩ : Big)⟩ : Frac) (⟨(⟨b1.P.Sign, b1.P.Digits⟩ : Big), (⟨b1.Q.Sign, b1.Q.Digits⟩ : Big)⟩ : Frac)).bind fun v61 =>
       some v61
      else
       some false).bind fun v43 =>
      (bif v43 then
       some true
      else
       (ref05_Same n (⟨(⟨v35.1.P.Sign, v35.1.P.Digits⟩ : Big), (⟨v35.1.Q.Sign, v35.1.Q.Digits⟩ : Big)⟩ : Frac) (⟨(⟨b1.P.Sign, b1.P.Digits⟩ : Big), (⟨b1.Q.Sign, b1.Q.Digits⟩ : Big)⟩ : Frac)).bind fun v58 =>
       (bif v58 then
        (ref05_Same n (⟨(⟨v37.1.P.Sign, v37.1.P.Digits⟩ : Big), (⟨v37.1.Q.Sign, v37.1.Q.Digits⟩ : Big)⟩ : Frac) (⟨(⟨ax1.P.Sign, ax1.P.Digits⟩ : Big), (⟨ax1.Q.Sign, ax1.Q.Digits⟩ : Big)⟩ : Frac)).bind fun v60 =>
        some v60
       else
        some false).bind fun v59 =>
       some v59).bind fun v44 =>
      (bif v1 then
       some v35.2
      else
       some false).bind fun v45 =>
      (bif v45 then
       some v37.2
      else
       some false).bind fun v46 =>
      (bif v46 then
       some v39.2
      else
       some false).bind fun v47 =>
      (bif v47 then
       some v41.2
      else
       some false).bind fun v48 =>
      (bif v48 then
       some five1
      else
       some false).bind fun v49 =>
      (bif v49 then
       some v44
      else
       some false).bind fun v50 =>
      (bif v50 then
       (ref05_Same n (⟨(⟨v39.1.P.Sign, v39.1.P.Digits⟩ : Big), (⟨v39.1.Q.Sign, v39.1.Q.Digits⟩ : Big)⟩ : Frac) (⟨(⟨v41.1.P.Sign, v41.1.P.Digits⟩ : Big), (⟨v41.1.Q.Sign, v41.1.Q.Digits⟩ : Big)⟩ : Frac)).bind fun v57 =>
       some v57
      else
       some false).bind fun v51 =>
      (bif v51 then
       (frac_Compare n (⟨(⟨v35.1.P.Sign, v35.1.P.Digits⟩ : Big), (⟨v35.1.Q.Sign, v35.1.Q.Digits⟩ : Big)⟩ : Frac) (⟨(⟨v37.1.P.Sign, v37.1.P.Digits⟩ : Big), (⟨v37.1.Q.Sign, v37.1.Q.Digits⟩ : Big)⟩ : Frac)).bind fun v56 =>
       some (decide (v56 ≤ 0))
      else
       some false).bind fun v52 =>
      (bif v52 then
       (frac_Int n 0).bind fun v54 =>
       (ref05_Same n (⟨(⟨f1, f2⟩ : Big), (⟨f3, f4⟩ : Big)⟩ : Frac) v54).bind fun v55 =>
       some v55
      else
       some false).bind fun v53 =>
      some v53

set_option maxHeartbeats 1000000 in
set_option maxRecDepth 1000000 in
theorem law05_FracOrder_ok (n : Nat) (ax1 : Frac) (b1 : Frac) (c1 : Frac) (r : Bool) (hm : law05_FracOrder n ax1 b1 c1 = some r) {w : World} {F : Frz} (hs : Sat F w) {as1 : Option Addr} {ns1 : Nat} {cs1 : Nat} {as2 : Option Addr} {ns2 : Nat} {cs2 : Nat} {as3 : Option Addr} {ns3 : Nat} {cs3 : Nat} {as4 : Option Addr} {ns4 : Nat} {cs4 : Nat} {as5 : Option Addr} {ns5 : Nat} {cs5 : Nat} {as6 : Option Addr} {ns6 : Nat} {cs6 : Nat} (hs1 : SlR (Rp.int .i64) F as1 ns1 cs1 ax1.P.Digits) (hs2 : SlR (Rp.int .i64) F as2 ns2 cs2 ax1.Q.Digits) (hs3 : SlR (Rp.int .i64) F as3 ns3 cs3 b1.P.Digits) (hs4 : SlR (Rp.int .i64) F as4 ns4 cs4 b1.Q.Digits) (hs5 : SlR (Rp.int .i64) F as5 ns5 cs5 c1.P.Digits) (hs6 : SlR (Rp.int .i64) F as6 ns6 cs6 c1.Q.Digits) (hg3 : FX F 3 (Lib.pow10Tab.map (Value.int .u64))) :
  Calls Tryz.prog 5 #[.agg #[.int .i64 ax1.P.Sign, .slice as1 ns1 cs1, .int .i64 ax1.Q.Sign, .slice as2 ns2 cs2], .agg #[.int .i64 b1.P.Sign, .slice as3 ns3 cs3, .int .i64 b1.Q.Sign, .slice as4 ns4 cs4], .agg #[.int .i64 c1.P.Sign, .slice as5 ns5 cs5, .int .i64 c1.Q.Sign, .slice as6 ns6 cs6]] w fun e w' => ∃ v F' O', e = .returned v ∧ HS F w [] F' O' w' ∧ (v = .bool r ∧ O' = []) := by
 unfold law05_FracOrder at hm
 have h := HS.init hs
 refine calls_of (args := [.agg #[.int .i64 ax1.P.Sign, .slice as1 ns1 cs1, .int .i64 ax1.Q.Sign, .slice as2 ns2 cs2], .agg #[.int .i64 b1.P.Sign, .slice as3 ns3 cs3, .int .i64 b1.Q.Sign, .slice as4 ns4 cs4], .agg #[.int .i64 c1.P.Sign, .slice as5 ns5 cs5, .int .i64 c1.Q.Sign, .slice as6 ns6 cs6]]) 295 Tryz.func5 rfl rfl rfl ?_
 refine c_seq (c_region ?_)
 refine r_box rfl rfl rfl rfl h ?_
 intro b2 wx1 hx1
 refine r_box rfl rfl rfl rfl hx1 ?_
 intro b3 wx2 hx2
 refine r_box rfl rfl rfl rfl hx2 ?_
 intro b4 wx3 hx3
 refine r_assign rfl rfl rfl (r_nil (q_then (c_seq (c_region ?_))))
 obtain ⟨v1, hv1, hm⟩ := bind_some hm
 refine r_callG0 ent8 rfl rfl rfl rfl hx3 (law05_small_ok _ _ hv1 hx3.sat hg3) ?_
 rintro _ Fx1 _ wx4 hF1 hx4 ⟨rfl, rfl⟩
 refine r_assign rfl rfl rfl (r_nil (q_then (c_seq (c_seq (c_region ?_)))))
 refine r_loadBA (cs' := [.int .i64 ax1.P.Sign, .slice as1 ns1 cs1, .int .i64 ax1.Q.Sign, .slice as2 ns2 cs2]) ag26 sz26 rfl rfl hx4 rfl (i := 2) rfl rfl rfl ?_
 obtain ⟨v2, hv2, hm⟩ := bind_some hm
 refine r_callG0 ent9 rfl rfl rfl rfl hx4 (ref05_Few_ok _ _ _ _ hv2 hx4.sat (hs1.mono hF1) (hs2.mono hF1)) ?_
 rintro _ Fx2 _ wx5 hF2 hx5 ⟨rfl, rfl⟩
 refine r_not rfl rfl rfl (r_move rfl rfl rfl ?_)
 obtain ⟨v3, hb1, hm⟩ := bind_some hm
 refine r_mid 4 (fun a w' => ∃ (Fx3 : Frz), Frz.le Fx2 Fx3 ∧ HS F w [] Fx3 [.box b4 26 [.int .i64 c1.P.Sign, .slice as5 ns5 cs5, .int .i64 c1.Q.Sign, .slice as6 ns6 cs6], .box b3 26 [.int .i64 b1.P.Sign, .slice as3 ns3 cs3, .int .i64 b1.Q.Sign, .slice as4 ns4 cs4], .box b2 26 [.int .i64 ax1.P.Sign, .slice as1 ns1 cs1, .int .i64 ax1.Q.Sign, .slice as2 ns2 cs2]] w' ∧ Has 295 a [(3, .pointer (some ⟨b2, 0, none⟩)), (4, .pointer (some ⟨b3, 0, none⟩)), (5, .pointer (some ⟨b4, 0, none⟩)), (7, .bool v1), (33, .bool v3)]) ?_ ?_
 ·rintro a wx6 ⟨Fx3, hF3, hx6, hax1⟩
  refine rw_apply hax1 ?_
  refine r_move rfl rfl rfl ?_
  obtain ⟨v4, hb2, hm⟩ := bind_some hm
  refine r_mid 4 (fun a w' => ∃ (Fx4 : Frz), Frz.le Fx3 Fx4 ∧ HS F w [] Fx4 [.box b4 26 [.int .i64 c1.P.Sign, .slice as5 ns5 cs5, .int .i64 c1.Q.Sign, .slice as6 ns6 cs6], .box b3 26 [.int .i64 b1.P.Sign, .slice as3 ns3 cs3, .int .i64 b1.Q.Sign, .slice as4 ns4 cs4], .box b2 26 [.int .i64 ax1.P.Sign, .slice as1 ns1 cs1, .int .i64 ax1.Q.Sign, .slice as2 ns2 cs2]] w' ∧ Has 295 a [(3, .pointer (some ⟨b2, 0, none⟩)), (4, .pointer (some ⟨b3, 0, none⟩)), (5, .pointer (some ⟨b4, 0, none⟩)), (7, .bool v1), (38, .bool v4)]) ?_ ?_
  ·rintro a wx7 ⟨Fx4, hF4, hx7, hax2⟩
   refine rw_apply hax2 ?_
   refine r_move rfl rfl rfl ?_
   obtain ⟨v5, hb3, hm⟩ := bind_some hm
   refine r_mid 4 (fun a w' => ∃ (Fx5 : Frz), Frz.le Fx4 Fx5 ∧ HS F w [] Fx5 [.box b4 26 [.int .i64 c1.P.Sign, .slice as5 ns5 cs5, .int .i64 c1.Q.Sign, .slice as6 ns6 cs6], .box b3 26 [.int .i64 b1.P.Sign, .slice as3 ns3 cs3, .int .i64 b1.Q.Sign, .slice as4 ns4 cs4], .box b2 26 [.int .i64 ax1.P.Sign, .slice as1 ns1 cs1, .int .i64 ax1.Q.Sign, .slice as2 ns2 cs2]] w' ∧ Has 295 a [(3, .pointer (some ⟨b2, 0, none⟩)), (4, .pointer (some ⟨b3, 0, none⟩)), (5, .pointer (some ⟨b4, 0, none⟩)), (7, .bool v1), (43, .bool v5)]) ?_ ?_
   ·rintro a wx8 ⟨Fx5, hF5, hx8, hax3⟩
    refine rw_apply hax3 ?_
    refine r_move rfl rfl rfl ?_
    obtain ⟨v6, hb4, hm⟩ := bind_some hm
    refine r_mid 4 (fun a w' => ∃ (Fx6 : Frz), Frz.le Fx5 Fx6 ∧ HS F w [] Fx6 [.box b4 26 [.int .i64 c1.P.Sign, .slice as5 ns5 cs5, .int .i64 c1.Q.Sign, .slice as6 ns6 cs6], .box b3 26 [.int .i64 b1.P.Sign, .slice as3 ns3 cs3, .int .i64 b1.Q.Sign, .slice as4 ns4 cs4], .box b2 26 [.int .i64 ax1.P.Sign, .slice as1 ns1 cs1, .int .i64 ax1.Q.Sign, .slice as2 ns2 cs2]] w' ∧ Has 295 a [(3, .pointer (some ⟨b2, 0, none⟩)), (4, .pointer (some ⟨b3, 0, none⟩)), (5, .pointer (some ⟨b4, 0, none⟩)), (7, .bool v1), (48, .bool v6)]) ?_ ?_
    ·rintro a wx9 ⟨Fx6, hF6, hx9, hax4⟩
     refine rw_apply hax4 ?_
     refine r_move rfl rfl rfl ?_
     obtain ⟨v7, hb5, hm⟩ := bind_some hm
     refine r_mid 4 (fun a w' => ∃ (Fx7 : Frz), Frz.le Fx6 Fx7 ∧ HS F w [] Fx7 [.box b4 26 [.int .i64 c1.P.Sign, .slice as5 ns5 cs5, .int .i64 c1.Q.Sign, .slice as6 ns6 cs6], .box b3 26 [.int .i64 b1.P.Sign, .slice as3 ns3 cs3, .int .i64 b1.Q.Sign, .slice as4 ns4 cs4], .box b2 26 [.int .i64 ax1.P.Sign, .slice as1 ns1 cs1, .int .i64 ax1.Q.Sign, .slice as2 ns2 cs2]] w' ∧ Has 295 a [(3, .pointer (some ⟨b2, 0, none⟩)), (4, .pointer (some ⟨b3, 0, none⟩)), (5, .pointer (some ⟨b4, 0, none⟩)), (7, .bool v1), (53, .bool v7)]) ?_ ?_
     ·rintro a wx10 ⟨Fx7, hF7, hx10, hax5⟩
      refine rw_apply hax5 ?_
      refine r_nil (q_then ?_)
      rcases cond_some hm with ⟨hb6, hm⟩ | ⟨hb6, hm⟩
      ·refine c_lit 53 rfl hb6 ?_
       refine c_true rfl (c_seq (c_region (r_move rfl rfl rfl (r_assign rfl rfl rfl (r_nil (q_then (c_ret (q_then_ret ?_))))))))
       refine b_ret1 rfl rfl ?_
       obtain rfl := Option.some.inj hm
       exact ⟨_, _, _, rfl, hx10.pick [] (by decide) rfl, rfl, rfl⟩
      ·refine c_lit 53 rfl hb6 ?_
       refine c_false rfl (c_skip (q_then (c_seq (c_region ?_))))
       refine r_loadBA (cs' := [.int .i64 ax1.P.Sign, .slice as1 ns1 cs1, .int .i64 ax1.Q.Sign, .slice as2 ns2 cs2]) ag26 sz26 rfl rfl hx10 rfl (i := 2) rfl rfl rfl ?_
       refine r_loadBA (cs' := [.int .i64 b1.P.Sign, .slice as3 ns3 cs3, .int .i64 b1.Q.Sign, .slice as4 ns4 cs4]) ag26 sz26 rfl rfl hx10 rfl (i := 1) rfl rfl rfl ?_
       have hG1 := (((((hF1.trans hF2).trans hF3).trans hF4).trans hF5).trans hF6).trans hF7
       obtain ⟨v8, hv3, hm⟩ := bind_some hm
       refine r_callG0 ent27 rfl rfl rfl rfl hx10 (frac_Compare_ok _ _ _ _ hv3 hx10.sat (hs1.mono hG1) (hs2.mono hG1) (hs3.mono hG1) (hs4.mono hG1)) ?_
       rintro _ Fx8 _ wx11 hF8 hx11 ⟨rfl, rfl⟩
       refine r_assign rfl rfl rfl (r_nil (q_then (c_seq (c_seq (c_region (r_move rfl rfl rfl ?_))))))
       refine r_bin rfl rfl rfl rfl rfl ?_
       refine r_loadBA (cs' := [.int .i64 ax1.P.Sign, .slice as1 ns1 cs1, .int .i64 ax1.Q.Sign, .slice as2 ns2 cs2]) ag26 sz26 rfl rfl hx11 rfl (i := 2) rfl rfl rfl ?_
       refine r_loadBA (cs' := [.int .i64 b1.P.Sign, .slice as3 ns3 cs3, .int .i64 b1.Q.Sign, .slice as4 ns4 cs4]) ag26 sz26 rfl rfl hx11 rfl (i := 1) rfl rfl rfl ?_
       obtain ⟨v9, hv4, hm⟩ := bind_some hm
       refine r_callG0 ent14 rfl rfl rfl rfl hx11 (ref05_Same_ok _ _ _ _ hv4 hx11.sat ((hs1.mono hG1).mono hF8) ((hs2.mono hG1).mono hF8) ((hs3.mono hG1).mono hF8) ((hs4.mono hG1).mono hF8)) ?_
       rintro _ Fx9 _ wx12 hF9 hx12 ⟨rfl, rfl⟩
       refine r_bne u4 rfl rfl rfl rfl ?_
       refine r_move rfl rfl rfl ?_
       obtain ⟨v10, hb7, hm⟩ := bind_some hm
       refine r_mid 7 (fun a w' => ∃ (Fx10 : Frz), Frz.le Fx9 Fx10 ∧ HS F w [] Fx10 [.box b4 26 [.int .i64 c1.P.Sign, .slice as5 ns5 cs5, .int .i64 c1.Q.Sign, .slice as6 ns6 cs6], .box b3 26 [.int .i64 b1.P.Sign, .slice as3 ns3 cs3, .int .i64 b1.Q.Sign, .slice as4 ns4 cs4], .box b2 26 [.int .i64 ax1.P.Sign, .slice as1 ns1 cs1, .int .i64 ax1.Q.Sign, .slice as2 ns2 cs2]] w' ∧ Has 295 a [(3, .pointer (some ⟨b2, 0, none⟩)), (4, .pointer (some ⟨b3, 0, none⟩)), (5, .pointer (some ⟨b4, 0, none⟩)), (7, .bool v1), (8, .int .i64 v8), (71, .bool v10)]) ?_ ?_
       ·rintro a wx13 ⟨Fx10, hF10, hx13, hax6⟩
        refine rw_apply hax6 ?_
        refine r_move rfl rfl rfl ?_
        obtain ⟨v11, hb8, hm⟩ := bind_some hm
        refine r_mid 3 (fun a w' => wx13 = w' ∧ Has 295 a [(3, .pointer (some ⟨b2, 0, none⟩)), (4, .pointer (some ⟨b3, 0, none⟩)), (5, .pointer (some ⟨b4, 0, none⟩)), (7, .bool v1), (8, .int .i64 v8), (75, .bool v11)]) ?_ ?_
        ·rintro a wx14 ⟨rfl, hax7⟩
         refine rw_apply hax7 ?_
         refine r_move rfl rfl rfl ?_
         obtain ⟨v12, hb9, hm⟩ := bind_some hm
         refine r_mid 3 (fun a w' => wx13 = w' ∧ Has 295 a [(3, .pointer (some ⟨b2, 0, none⟩)), (4, .pointer (some ⟨b3, 0, none⟩)), (5, .pointer (some ⟨b4, 0, none⟩)), (7, .bool v1), (8, .int .i64 v8), (79, .bool v12)]) ?_ ?_
         ·rintro a wx15 ⟨rfl, hax8⟩
          refine rw_apply hax8 ?_
          refine r_nil (q_then ?_)
          rcases cond_some hm with ⟨hb10, hm⟩ | ⟨hb10, hm⟩
          ·refine c_lit 79 rfl hb10 ?_
           refine c_true rfl (c_seq (c_region (r_assign rfl rfl rfl (r_nil (q_then (c_ret (q_then_ret ?_)))))))
           refine b_ret1 rfl rfl ?_
           obtain rfl := Option.some.inj hm
           exact ⟨_, _, _, rfl, hx13.pick [] (by decide) rfl, rfl, rfl⟩
          ·refine c_lit 79 rfl hb10 ?_
           refine c_false rfl (c_skip (q_then (c_seq (c_seq (c_region (r_move rfl rfl rfl ?_))))))
           refine r_bin rfl rfl rfl rfl rfl ?_
           refine r_move rfl rfl rfl ?_
           obtain ⟨v13, hb11, hm⟩ := bind_some hm
           refine r_mid 5 (fun a w' => ∃ (Fx11 : Frz), Frz.le Fx10 Fx11 ∧ HS F w [] Fx11 [.box b4 26 [.int .i64 c1.P.Sign, .slice as5 ns5 cs5, .int .i64 c1.Q.Sign, .slice as6 ns6 cs6], .box b3 26 [.int .i64 b1.P.Sign, .slice as3 ns3 cs3, .int .i64 b1.Q.Sign, .slice as4 ns4 cs4], .box b2 26 [.int .i64 ax1.P.Sign, .slice as1 ns1 cs1, .int .i64 ax1.Q.Sign, .slice as2 ns2 cs2]] w' ∧ Has 295 a [(3, .pointer (some ⟨b2, 0, none⟩)), (4, .pointer (some ⟨b3, 0, none⟩)), (5, .pointer (some ⟨b4, 0, none⟩)), (7, .bool v1), (8, .int .i64 v8), (87, .bool v13)]) ?_ ?_
           ·rintro a wx16 ⟨Fx11, hF11, hx14, hax9⟩
            refine rw_apply hax9 ?_
            refine r_move rfl rfl rfl ?_
            obtain ⟨v14, hb12, hm⟩ := bind_some hm
            refine r_mid 5 (fun a w' => ∃ (Fx12 : Frz), Frz.le Fx11 Fx12 ∧ HS F w [] Fx12 [.box b4 26 [.int .i64 c1.P.Sign, .slice as5 ns5 cs5, .int .i64 c1.Q.Sign, .slice as6 ns6 cs6], .box b3 26 [.int .i64 b1.P.Sign, .slice as3 ns3 cs3, .int .i64 b1.Q.Sign, .slice as4 ns4 cs4], .box b2 26 [.int .i64 ax1.P.Sign, .slice as1 ns1 cs1, .int .i64 ax1.Q.Sign, .slice as2 ns2 cs2]] w' ∧ Has 295 a [(3, .pointer (some ⟨b2, 0, none⟩)), (4, .pointer (some ⟨b3, 0, none⟩)), (5, .pointer (some ⟨b4, 0, none⟩)), (7, .bool v1), (8, .int .i64 v8), (93, .bool v14)]) ?_ ?_
            ·rintro a wx17 ⟨Fx12, hF12, hx15, hax10⟩
             refine rw_apply hax10 ?_
             refine r_nil (q_then ?_)
             rcases cond_some hm with ⟨hb13, hm⟩ | ⟨hb13, hm⟩
             ·refine c_lit 93 rfl hb13 ?_
              refine c_true rfl (c_seq (c_region (r_assign rfl rfl rfl (r_nil (q_then (c_ret (q_then_ret ?_)))))))
              refine b_ret1 rfl rfl ?_
              obtain rfl := Option.some.inj hm
              exact ⟨_, _, _, rfl, hx15.pick [] (by decide) rfl, rfl, rfl⟩
             ·refine c_lit 93 rfl hb13 ?_
              refine c_false rfl (c_skip (q_then (c_seq (c_region ?_))))
              refine r_loadBA (cs' := [.int .i64 ax1.P.Sign, .slice as1 ns1 cs1, .int .i64 ax1.Q.Sign, .slice as2 ns2 cs2]) ag26 sz26 rfl rfl hx15 rfl (i := 2) rfl rfl rfl ?_
              refine r_loadBA (cs' := [.int .i64 b1.P.Sign, .slice as3 ns3 cs3, .int .i64 b1.Q.Sign, .slice as4 ns4 cs4]) ag26 sz26 rfl rfl hx15 rfl (i := 1) rfl rfl rfl ?_
              have hG2 := ((((hG1.trans hF8).trans hF9).trans hF10).trans hF11).trans hF12
              obtain ⟨v15, hv5, hm⟩ := bind_some hm
              refine r_callG0 ent12 rfl rfl rfl rfl hx15 (frac_Sub_ok _ _ _ _ hv5 hx15.sat (hs1.mono hG2) (hs2.mono hG2) (hs3.mono hG2) (hs4.mono hG2)) ?_
              rintro _ Fx13 _ wx18 hF13 hx16 ⟨as7, ns7, cs7, as8, ns8, cs8, rfl, rfl, hs7, hs8⟩
              refine r_extract rfl rfl rfl rfl (r_extract rfl rfl rfl rfl ?_)
              obtain ⟨v16, hv6, hm⟩ := bind_some hm
              refine r_callG0 ent45 rfl rfl rfl rfl hx16 (law05_right_ok _ _ _ _ hv6 hx16.sat hs7 hs8) ?_
              rintro _ Fx14 _ wx19 hF14 hx17 ⟨as9, ns9, cs9, as10, ns10, cs10, rfl, rfl, hs9, hs10⟩
              refine r_move rfl rfl rfl (r_extract rfl rfl rfl rfl (r_extract rfl rfl rfl rfl ?_))
              refine r_alloc ze26 rfl rfl rfl hx17 ?_
              intro b5 wx20 hx18
              refine r_store sz26 rfl hx18 rfl rfl rfl rfl (i := 0) rfl rfl rfl rfl ?_
              intro wx21 hx19
              refine r_assign rfl rfl rfl (r_nil (q_then (c_seq (c_region ?_))))
              refine r_loadBA (cs' := [.int .i64 ax1.P.Sign, .slice as1 ns1 cs1, .int .i64 ax1.Q.Sign, .slice as2 ns2 cs2]) ag26 sz26 rfl rfl hx19 rfl (i := 3) rfl rfl rfl ?_
              refine r_loadBA (cs' := [.int .i64 c1.P.Sign, .slice as5 ns5 cs5, .int .i64 c1.Q.Sign, .slice as6 ns6 cs6]) ag26 sz26 rfl rfl hx19 rfl (i := 1) rfl rfl rfl ?_
              obtain ⟨v17, hv7, hm⟩ := bind_some hm
              refine r_callG0 ent10 rfl rfl rfl rfl hx19 (frac_Add_ok _ _ _ _ hv7 hx19.sat (((hs1.mono hG2).mono hF13).mono hF14) (((hs2.mono hG2).mono hF13).mono hF14) (((hs5.mono hG2).mono hF13).mono hF14) (((hs6.mono hG2).mono hF13).mono hF14)) ?_
              rintro _ Fx15 _ wx22 hF15 hx20 ⟨as11, ns11, cs11, as12, ns12, cs12, rfl, rfl, hs11, hs12⟩
              refine r_extract rfl rfl rfl rfl (r_extract rfl rfl rfl rfl ?_)
              obtain ⟨v18, hv8, hm⟩ := bind_some hm
              refine r_callG0 ent45 rfl rfl rfl rfl hx20 (law05_right_ok _ _ _ _ hv8 hx20.sat hs11 hs12) ?_
              rintro _ Fx16 _ wx23 hF16 hx21 ⟨as13, ns13, cs13, as14, ns14, cs14, rfl, rfl, hs13, hs14⟩
              refine r_move rfl rfl rfl (r_extract rfl rfl rfl rfl (r_extract rfl rfl rfl rfl ?_))
              refine r_alloc ze26 rfl rfl rfl hx21 ?_
              intro b6 wx24 hx22
              refine r_store sz26 rfl hx22 rfl rfl rfl rfl (i := 0) rfl rfl rfl rfl ?_
              intro wx25 hx23
              refine r_assign rfl rfl rfl (r_nil (q_then (c_seq (c_region ?_))))
              refine r_loadBA (cs' := [.int .i64 b1.P.Sign, .slice as3 ns3 cs3, .int .i64 b1.Q.Sign, .slice as4 ns4 cs4]) ag26 sz26 rfl rfl hx23 rfl (i := 3) rfl rfl rfl ?_
              refine r_loadBA (cs' := [.int .i64 c1.P.Sign, .slice as5 ns5 cs5, .int .i64 c1.Q.Sign, .slice as6 ns6 cs6]) ag26 sz26 rfl rfl hx23 rfl (i := 2) rfl rfl rfl ?_
              have hG3 := (((hG2.trans hF13).trans hF14).trans hF15).trans hF16
              obtain ⟨v19, hv9, hm⟩ := bind_some hm
              refine r_callG0 ent10 rfl rfl rfl rfl hx23 (frac_Add_ok _ _ _ _ hv9 hx23.sat (hs3.mono hG3) (hs4.mono hG3) (hs5.mono hG3) (hs6.mono hG3)) ?_
              rintro _ Fx17 _ wx26 hF17 hx24 ⟨as15, ns15, cs15, as16, ns16, cs16, rfl, rfl, hs15, hs16⟩
              refine r_extract rfl rfl rfl rfl (r_extract rfl rfl rfl rfl ?_)
              obtain ⟨v20, hv10, hm⟩ := bind_some hm
              refine r_callG0 ent45 rfl rfl rfl rfl hx24 (law05_right_ok _ _ _ _ hv10 hx24.sat hs15 hs16) ?_
              rintro _ Fx18 _ wx27 hF18 hx25 ⟨as17, ns17, cs17, as18, ns18, cs18, rfl, rfl, hs17, hs18⟩
              refine r_move rfl rfl rfl (r_extract rfl rfl rfl rfl (r_extract rfl rfl rfl rfl ?_))
              refine r_alloc ze26 rfl rfl rfl hx25 ?_
              intro b7 wx28 hx26
              refine r_store sz26 rfl hx26 rfl rfl rfl rfl (i := 0) rfl rfl rfl rfl ?_
              intro wx29 hx27
              refine r_assign rfl rfl rfl (r_nil (q_then (c_seq (c_region ?_))))
              refine r_loadBA (cs' := [.int .i64 ax1.P.Sign, .slice as1 ns1 cs1, .int .i64 ax1.Q.Sign, .slice as2 ns2 cs2]) ag26 sz26 rfl rfl hx27 rfl (i := 5) rfl rfl rfl ?_
              refine r_loadBA (cs' := [.int .i64 c1.P.Sign, .slice as5 ns5 cs5, .int .i64 c1.Q.Sign, .slice as6 ns6 cs6]) ag26 sz26 rfl rfl hx27 rfl (i := 3) rfl rfl rfl ?_
              obtain ⟨v21, hv11, hm⟩ := bind_some hm
              refine r_callG0 ent15 rfl rfl rfl rfl hx27 (frac_Mul_ok _ _ _ _ hv11 hx27.sat (((hs1.mono hG3).mono hF17).mono hF18) (((hs2.mono hG3).mono hF17).mono hF18) (((hs5.mono hG3).mono hF17).mono hF18) (((hs6.mono hG3).mono hF17).mono hF18)) ?_
              rintro _ Fx19 _ wx30 hF19 hx28 ⟨as19, ns19, cs19, as20, ns20, cs20, rfl, rfl, hs19, hs20⟩
              refine r_extract rfl rfl rfl rfl (r_extract rfl rfl rfl rfl ?_)
              obtain ⟨v22, hv12, hm⟩ := bind_some hm
              refine r_callG0 ent45 rfl rfl rfl rfl hx28 (law05_right_ok _ _ _ _ hv12 hx28.sat hs19 hs20) ?_
              rintro _ Fx20 _ wx31 hF20 hx29 ⟨as21, ns21, cs21, as22, ns22, cs22, rfl, rfl, hs21, hs22⟩
              refine r_move rfl rfl rfl (r_extract rfl rfl rfl rfl (r_extract rfl rfl rfl rfl ?_))
              refine r_alloc ze26 rfl rfl rfl hx29 ?_
              intro b8 wx32 hx30
              refine r_store sz26 rfl hx30 rfl rfl rfl rfl (i := 0) rfl rfl rfl rfl ?_
              intro wx33 hx31
              refine r_assign rfl rfl rfl (r_nil (q_then (c_seq (c_region ?_))))
              refine r_loadBA (cs' := [.int .i64 b1.P.Sign, .slice as3 ns3 cs3, .int .i64 b1.Q.Sign, .slice as4 ns4 cs4]) ag26 sz26 rfl rfl hx31 rfl (i := 5) rfl rfl rfl ?_
              refine r_loadBA (cs' := [.int .i64 c1.P.Sign, .slice as5 ns5 cs5, .int .i64 c1.Q.Sign, .slice as6 ns6 cs6]) ag26 sz26 rfl rfl hx31 rfl (i := 4) rfl rfl rfl ?_
              have hG4 := (((hG3.trans hF17).trans hF18).trans hF19).trans hF20
              obtain ⟨v23, hv13, hm⟩ := bind_some hm
              refine r_callG0 ent15 rfl rfl rfl rfl hx31 (frac_Mul_ok _ _ _ _ hv13 hx31.sat (hs3.mono hG4) (hs4.mono hG4) (hs5.mono hG4) (hs6.mono hG4)) ?_
              rintro _ Fx21 _ wx34 hF21 hx32 ⟨as23, ns23, cs23, as24, ns24, cs24, rfl, rfl, hs23, hs24⟩
              refine r_extract rfl rfl rfl rfl (r_extract rfl rfl rfl rfl ?_)
              obtain ⟨v24, hv14, hm⟩ := bind_some hm
              refine r_callG0 ent45 rfl rfl rfl rfl hx32 (law05_right_ok _ _ _ _ hv14 hx32.sat hs23 hs24) ?_
              rintro _ Fx22 _ wx35 hF22 hx33 ⟨as25, ns25, cs25, as26, ns26, cs26, rfl, rfl, hs25, hs26⟩
              refine r_move rfl rfl rfl (r_extract rfl rfl rfl rfl (r_extract rfl rfl rfl rfl ?_))
              refine r_alloc ze26 rfl rfl rfl hx33 ?_
              intro b9 wx36 hx34
              refine r_store sz26 rfl hx34 rfl rfl rfl rfl (i := 0) rfl rfl rfl rfl ?_
              intro wx37 hx35
              refine r_assign rfl rfl rfl (r_nil (q_then (c_seq (c_seq (c_region (r_move rfl rfl rfl (r_not rfl rfl rfl (r_move rfl rfl rfl ?_))))))))
              obtain ⟨v25, hb14, hm⟩ := bind_some hm
              refine r_mid 3 (fun a w' => wx37 = w' ∧ Has 295 a [(3, .pointer (some ⟨b2, 0, none⟩)), (4, .pointer (some ⟨b3, 0, none⟩)), (5, .pointer (some ⟨b4, 0, none⟩)), (7, .bool v1), (8, .int .i64 v8), (9, .pointer (some ⟨b5, 0, none⟩)), (11, .pointer (some ⟨b6, 0, none⟩)), (13, .pointer (some ⟨b7, 0, none⟩)), (14, .bool v20.2), (15, .pointer (some ⟨b8, 0, none⟩)), (16, .bool v22.2), (17, .pointer (some ⟨b9, 0, none⟩)), (18, .bool v24.2), (144, .bool v25)]) ?_ ?_
              ·rintro a wx38 ⟨rfl, hax11⟩
               refine rw_apply hax11 ?_
               refine r_move rfl rfl rfl ?_
               obtain ⟨v26, hb15, hm⟩ := bind_some hm
               refine r_mid 3 (fun a w' => wx37 = w' ∧ Has 295 a [(3, .pointer (some ⟨b2, 0, none⟩)), (4, .pointer (some ⟨b3, 0, none⟩)), (5, .pointer (some ⟨b4, 0, none⟩)), (7, .bool v1), (8, .int .i64 v8), (9, .pointer (some ⟨b5, 0, none⟩)), (11, .pointer (some ⟨b6, 0, none⟩)), (13, .pointer (some ⟨b7, 0, none⟩)), (15, .pointer (some ⟨b8, 0, none⟩)), (16, .bool v22.2), (17, .pointer (some ⟨b9, 0, none⟩)), (18, .bool v24.2), (148, .bool v26)]) ?_ ?_
               ·rintro a wx39 ⟨rfl, hax12⟩
                refine rw_apply hax12 ?_
                refine r_move rfl rfl rfl ?_
                obtain ⟨v27, hb16, hm⟩ := bind_some hm
                refine r_mid 3 (fun a w' => wx37 = w' ∧ Has 295 a [(3, .pointer (some ⟨b2, 0, none⟩)), (4, .pointer (some ⟨b3, 0, none⟩)), (5, .pointer (some ⟨b4, 0, none⟩)), (7, .bool v1), (8, .int .i64 v8), (9, .pointer (some ⟨b5, 0, none⟩)), (11, .pointer (some ⟨b6, 0, none⟩)), (13, .pointer (some ⟨b7, 0, none⟩)), (15, .pointer (some ⟨b8, 0, none⟩)), (17, .pointer (some ⟨b9, 0, none⟩)), (18, .bool v24.2), (152, .bool v27)]) ?_ ?_
                ·rintro a wx40 ⟨rfl, hax13⟩
                 refine rw_apply hax13 ?_
                 refine r_move rfl rfl rfl ?_
                 obtain ⟨v28, hb17, hm⟩ := bind_some hm
                 refine r_mid 3 (fun a w' => wx37 = w' ∧ Has 295 a [(3, .pointer (some ⟨b2, 0, none⟩)), (4, .pointer (some ⟨b3, 0, none⟩)), (5, .pointer (some ⟨b4, 0, none⟩)), (7, .bool v1), (8, .int .i64 v8), (9, .pointer (some ⟨b5, 0, none⟩)), (11, .pointer (some ⟨b6, 0, none⟩)), (13, .pointer (some ⟨b7, 0, none⟩)), (15, .pointer (some ⟨b8, 0, none⟩)), (17, .pointer (some ⟨b9, 0, none⟩)), (156, .bool v28)]) ?_ ?_
                 ·rintro a wx41 ⟨rfl, hax14⟩
                  refine rw_apply hax14 ?_
                  refine r_move rfl rfl rfl ?_
                  obtain ⟨v29, hb18, hm⟩ := bind_some hm
                  refine r_mid 6 (fun a w' => wx37 = w' ∧ Has 295 a [(3, .pointer (some ⟨b2, 0, none⟩)), (4, .pointer (some ⟨b3, 0, none⟩)), (5, .pointer (some ⟨b4, 0, none⟩)), (7, .bool v1), (8, .int .i64 v8), (9, .pointer (some ⟨b5, 0, none⟩)), (11, .pointer (some ⟨b6, 0, none⟩)), (13, .pointer (some ⟨b7, 0, none⟩)), (15, .pointer (some ⟨b8, 0, none⟩)), (17, .pointer (some ⟨b9, 0, none⟩)), (163, .bool v29)]) ?_ ?_
                  ·rintro a wx42 ⟨rfl, hax15⟩
                   refine rw_apply hax15 ?_
                   refine r_move rfl rfl rfl ?_
                   obtain ⟨v30, hb19, hm⟩ := bind_some hm
                   refine r_mid 6 (fun a w' => ∃ (Fx23 : Frz), Frz.le Fx22 Fx23 ∧ HS F w [] Fx23 [.box b9 26 [.int .i64 v24.1.P.Sign, .slice as25 ns25 cs25, .int .i64 v24.1.Q.Sign, .slice as26 ns26 cs26], .box b8 26 [.int .i64 v22.1.P.Sign, .slice as21 ns21 cs21, .int .i64 v22.1.Q.Sign, .slice as22 ns22 cs22], .box b7 26 [.int .i64 v20.1.P.Sign, .slice as17 ns17 cs17, .int .i64 v20.1.Q.Sign, .slice as18 ns18 cs18], .box b6 26 [.int .i64 v18.1.P.Sign, .slice as13 ns13 cs13, .int .i64 v18.1.Q.Sign, .slice as14 ns14 cs14], .box b5 26 [.int .i64 v16.1.P.Sign, .slice as9 ns9 cs9, .int .i64 v16.1.Q.Sign, .slice as10 ns10 cs10], .box b4 26 [.int .i64 c1.P.Sign, .slice as5 ns5 cs5, .int .i64 c1.Q.Sign, .slice as6 ns6 cs6], .box b3 26 [.int .i64 b1.P.Sign, .slice as3 ns3 cs3, .int .i64 b1.Q.Sign, .slice as4 ns4 cs4], .box b2 26 [.int .i64 ax1.P.Sign, .slice as1 ns1 cs1, .int .i64 ax1.Q.Sign, .slice as2 ns2 cs2]] w' ∧ Has 295 a [(3, .pointer (some ⟨b2, 0, none⟩)), (4, .pointer (some ⟨b3, 0, none⟩)), (5, .pointer (some ⟨b4, 0, none⟩)), (7, .bool v1), (8, .int .i64 v8), (9, .pointer (some ⟨b5, 0, none⟩)), (15, .pointer (some ⟨b8, 0, none⟩)), (17, .pointer (some ⟨b9, 0, none⟩)), (170, .bool v30)]) ?_ ?_
                   ·rintro a wx43 ⟨Fx23, hF23, hx36, hax16⟩
                    refine rw_apply hax16 ?_
                    refine r_nil (q_then ?_)
                    rcases cond_some hm with ⟨hb20, hm⟩ | ⟨hb20, hm⟩
                    ·refine c_lit 170 rfl hb20 ?_
                     refine c_true rfl (c_seq (c_region (r_assign rfl rfl rfl (r_nil (q_then (c_ret (q_then_ret ?_)))))))
                     refine b_ret1 rfl rfl ?_
                     obtain rfl := Option.some.inj hm
                     exact ⟨_, _, _, rfl, hx36.pick [] (by decide) rfl, rfl, rfl⟩
                    ·refine c_lit 170 rfl hb20 ?_
                     refine c_false rfl (c_skip (q_then (c_seq (c_seq ?_))))
                     refine c_regionH (SH Fx23 [.box b9 26 [.int .i64 v24.1.P.Sign, .slice as25 ns25 cs25, .int .i64 v24.1.Q.Sign, .slice as26 ns26 cs26], .box b8 26 [.int .i64 v22.1.P.Sign, .slice as21 ns21 cs21, .int .i64 v22.1.Q.Sign, .slice as22 ns22 cs22], .box b7 26 [.int .i64 v20.1.P.Sign, .slice as17 ns17 cs17, .int .i64 v20.1.Q.Sign, .slice as18 ns18 cs18], .box b6 26 [.int .i64 v18.1.P.Sign, .slice as13 ns13 cs13, .int .i64 v18.1.Q.Sign, .slice as14 ns14 cs14], .box b5 26 [.int .i64 v16.1.P.Sign, .slice as9 ns9 cs9, .int .i64 v16.1.Q.Sign, .slice as10 ns10 cs10], .box b4 26 [.int .i64 c1.P.Sign, .slice as5 ns5 cs5, .int .i64 c1.Q.Sign, .slice as6 ns6 cs6], .box b3 26 [.int .i64 b1.P.Sign, .slice as3 ns3 cs3, .int .i64 b1.Q.Sign, .slice as4 ns4 cs4], .box b2 26 [.int .i64 ax1.P.Sign, .slice as1 ns1 cs1, .int .i64 ax1.Q.Sign, .slice as2 ns2 cs2]]) 25 rfl (by kernel_rfl) hx36 ?_
                     intro wx44 hx37
                     refine d_take 0 (v := .agg #[.int .i64 v22.1.P.Sign, .slice as21 ns21 cs21, .int .i64 v22.1.Q.Sign, .slice as22 ns22 cs22]) rfl (by kernel_rfl) (by kernel_rfl) (by kernel_rfl) rfl rfl rfl rfl (hx37.sh (Frz.refl _) [0, 1, 2, 3, 4, 5, 6, 7] (by decide) rfl) (fun _ hC => ?_) ?_
                     ·obtain ⟨_, _, hleq, hq⟩ := hC
                      refine r_loadBA (cs' := [.int .i64 v22.1.P.Sign, .slice as21 ns21 cs21, .int .i64 v22.1.Q.Sign, .slice as22 ns22 cs22]) ag26 sz26 rfl rfl hq rfl (i := 1) rfl rfl rfl (r_nil (qq rfl))
                     refine d_take 1 (v := .agg #[.int .i64 v24.1.P.Sign, .slice as25 ns25 cs25, .int .i64 v24.1.Q.Sign, .slice as26 ns26 cs26]) rfl (by kernel_rfl) (by kernel_rfl) (by kernel_rfl) rfl rfl rfl rfl (hx37.sh (Frz.refl _) [0, 1, 2, 3, 4, 5, 6, 7] (by decide) rfl) (fun _ hC => ?_) ?_
                     ·obtain ⟨_, _, hleq, hq⟩ := hC
                      refine r_loadBA (cs' := [.int .i64 v24.1.P.Sign, .slice as25 ns25 cs25, .int .i64 v24.1.Q.Sign, .slice as26 ns26 cs26]) ag26 sz26 rfl rfl hq rfl (i := 0) rfl rfl rfl (r_nil (qq rfl))
                     refine d_take 3 (v := .int .i64 v8) rfl (by kernel_rfl) (by kernel_rfl) (by kernel_rfl) rfl rfl rfl rfl (hx37.sh (Frz.refl _) [0, 1, 2, 3, 4, 5, 6, 7] (by decide) rfl) (fun _ hC => ?_) ?_
                     ·obtain ⟨_, _, hleq, hq⟩ := hC
                      refine r_move rfl rfl rfl (r_nil (qq rfl))
                     refine d_take 4 (v := .pointer (some ⟨b4, 0, none⟩)) rfl (by kernel_rfl) (by kernel_rfl) (by kernel_rfl) rfl rfl rfl rfl (hx37.sh (Frz.refl _) [0, 1, 2, 3, 4, 5, 6, 7] (by decide) rfl) (fun _ hC => ?_) ?_
                     ·obtain ⟨_, _, hleq, hq⟩ := hC
                      refine r_fieldAddr fa26_0 rfl rfl rfl (r_nil (qq rfl))
                     refine d_take 5 (v := .pointer (some ⟨b4, 0, none⟩)) rfl (by kernel_rfl) (by kernel_rfl) (by kernel_rfl) rfl rfl rfl rfl (hx37.sh (Frz.refl _) [0, 1, 2, 3, 4, 5, 6, 7] (by decide) rfl) (fun _ hC => ?_) ?_
                     ·obtain ⟨_, _, hleq, hq⟩ := hC
                      refine r_fieldAddr fa24_0 rfl rfl rfl (r_nil (qq rfl))
                     refine d_take 6 (v := .int .i64 c1.P.Sign) rfl (by kernel_rfl) (by kernel_rfl) (by kernel_rfl) rfl rfl rfl rfl (hx37.sh (Frz.refl _) [0, 1, 2, 3, 4, 5, 6, 7] (by decide) rfl) (fun _ hC => ?_) ?_
                     ·obtain ⟨_, _, hleq, hq⟩ := hC
                      refine r_loadB1 ag3 rfl rfl hq rfl (i := 5) rfl rfl (r_nil (qq rfl))
                     refine d_take 7 (v := .int .i64 (imul .i64 v8 c1.P.Sign)) rfl (by kernel_rfl) (by kernel_rfl) (by kernel_rfl) rfl rfl rfl rfl (hx37.sh (Frz.refl _) [0, 1, 2, 3, 4, 5, 6, 7] (by decide) rfl) (fun _ hC => ?_) ?_
                     ·obtain ⟨_, _, hleq, hq⟩ := hC
                      refine r_bin rfl rfl rfl rfl rfl (r_nil (qq rfl))
                     refine d_step 2 rfl (by kernel_rfl) ?_
                     obtain ⟨v31, hv15, hm⟩ := bind_some hm
                     refine r_callG0 ent27 rfl rfl rfl rfl hx37 (frac_Compare_ok _ _ _ _ hv15 hx37.sat (((hs21.mono hF21).mono hF22).mono hF23) (((hs22.mono hF21).mono hF22).mono hF23) (hs25.mono hF23) (hs26.mono hF23)) ?_
                     rintro _ Fx24 _ wx45 hF24 hx38 ⟨rfl, rfl⟩
                     refine d_next (hx38.sh hF24 [0, 1, 2, 3, 4, 5, 6, 7] (by decide) rfl) ?_
                     refine d_take 8 (v := .bool (v31 != (imul .i64 v8 c1.P.Sign))) rfl (by kernel_rfl) (by kernel_rfl) (by kernel_rfl) rfl rfl rfl rfl (hx38.sh hF24 [0, 1, 2, 3, 4, 5, 6, 7] (by decide) rfl) (fun _ hC => ?_) ?_
                     ·obtain ⟨_, _, hleq, hq⟩ := hC
                      refine r_bin rfl rfl rfl rfl rfl (r_nil (qq rfl))
                     refine d_take 9 (v := .bool (v31 != (imul .i64 v8 c1.P.Sign))) rfl (by kernel_rfl) (by kernel_rfl) (by kernel_rfl) rfl rfl rfl rfl (hx38.sh hF24 [0, 1, 2, 3, 4, 5, 6, 7] (by decide) rfl) (fun _ hC => ?_) ?_
                     ·obtain ⟨_, _, hleq, hq⟩ := hC
                      refine r_move rfl rfl rfl (r_nil (qq rfl))
                     obtain ⟨v32, hb21, hm⟩ := bind_some hm
                     refine d_mid (fuel' := 6) (listed' := #[true, true, true, true, true, true, true, true, true, true, true, true, true, true, true, true, true, true, true, false, false, false, false, false, false]) (fun a w' => ∃ (Fx25 : Frz), Frz.le Fx24 Fx25 ∧ HS F w [] Fx25 [.box b9 26 [.int .i64 v24.1.P.Sign, .slice as25 ns25 cs25, .int .i64 v24.1.Q.Sign, .slice as26 ns26 cs26], .box b8 26 [.int .i64 v22.1.P.Sign, .slice as21 ns21 cs21, .int .i64 v22.1.Q.Sign, .slice as22 ns22 cs22], .box b7 26 [.int .i64 v20.1.P.Sign, .slice as17 ns17 cs17, .int .i64 v20.1.Q.Sign, .slice as18 ns18 cs18], .box b6 26 [.int .i64 v18.1.P.Sign, .slice as13 ns13 cs13, .int .i64 v18.1.Q.Sign, .slice as14 ns14 cs14], .box b5 26 [.int .i64 v16.1.P.Sign, .slice as9 ns9 cs9, .int .i64 v16.1.Q.Sign, .slice as10 ns10 cs10], .box b4 26 [.int .i64 c1.P.Sign, .slice as5 ns5 cs5, .int .i64 c1.Q.Sign, .slice as6 ns6 cs6], .box b3 26 [.int .i64 b1.P.Sign, .slice as3 ns3 cs3, .int .i64 b1.Q.Sign, .slice as4 ns4 cs4], .box b2 26 [.int .i64 ax1.P.Sign, .slice as1 ns1 cs1, .int .i64 ax1.Q.Sign, .slice as2 ns2 cs2]] w' ∧ Has 295 a [(3, .pointer (some ⟨b2, 0, none⟩)), (4, .pointer (some ⟨b3, 0, none⟩)), (7, .bool v1), (8, .int .i64 v8), (9, .pointer (some ⟨b5, 0, none⟩)), (189, .bool v32)]) ?_ (fun hK1 => ?_)
                     ·rintro a wx46 ⟨Fx25, hF25, hx39, hax17⟩
                      refine dw_apply hax17 ?_
                      refine d_take 19 (v := .bool v32) rfl (by kernel_rfl) (by kernel_rfl) (by kernel_rfl) rfl rfl rfl rfl (hx39.sh (hF24.trans hF25) [0, 1, 2, 3, 4, 5, 6, 7] (by decide) rfl) (fun _ hC => ?_) ?_
                      ·obtain ⟨_, _, hleq, hq⟩ := hC
                       refine r_move rfl rfl rfl (r_nil (qq rfl))
                      obtain ⟨v33, hb22, hm⟩ := bind_some hm
                      refine d_mid (fuel' := 0) (listed' := #[true, true, true, true, true, true, true, true, true, true, true, true, true, true, true, true, true, true, true, true, true, true, true, true, true]) (fun a w' => ∃ (Fx26 : Frz), Frz.le Fx25 Fx26 ∧ HS F w [] Fx26 [.box b9 26 [.int .i64 v24.1.P.Sign, .slice as25 ns25 cs25, .int .i64 v24.1.Q.Sign, .slice as26 ns26 cs26], .box b8 26 [.int .i64 v22.1.P.Sign, .slice as21 ns21 cs21, .int .i64 v22.1.Q.Sign, .slice as22 ns22 cs22], .box b7 26 [.int .i64 v20.1.P.Sign, .slice as17 ns17 cs17, .int .i64 v20.1.Q.Sign, .slice as18 ns18 cs18], .box b6 26 [.int .i64 v18.1.P.Sign, .slice as13 ns13 cs13, .int .i64 v18.1.Q.Sign, .slice as14 ns14 cs14], .box b5 26 [.int .i64 v16.1.P.Sign, .slice as9 ns9 cs9, .int .i64 v16.1.Q.Sign, .slice as10 ns10 cs10], .box b4 26 [.int .i64 c1.P.Sign, .slice as5 ns5 cs5, .int .i64 c1.Q.Sign, .slice as6 ns6 cs6], .box b3 26 [.int .i64 b1.P.Sign, .slice as3 ns3 cs3, .int .i64 b1.Q.Sign, .slice as4 ns4 cs4], .box b2 26 [.int .i64 ax1.P.Sign, .slice as1 ns1 cs1, .int .i64 ax1.Q.Sign, .slice as2 ns2 cs2]] w' ∧ Has 295 a [(3, .pointer (some ⟨b2, 0, none⟩)), (4, .pointer (some ⟨b3, 0, none⟩)), (7, .bool v1), (195, .bool v33)]) ?_ (fun hK2 => ?_)
                      ·rintro a wx47 ⟨Fx26, hF26, hx40, hax18⟩
                       refine dw_apply hax18 ?_
                       refine d_done (by kernel_rfl) ?_
                       refine q_then ?_
                       rcases cond_some hm with ⟨hb23, hm⟩ | ⟨hb23, hm⟩
                       ·refine c_lit 195 rfl hb23 ?_
                        refine c_true rfl (c_seq (c_region (r_assign rfl rfl rfl (r_nil (q_then (c_ret (q_then_ret ?_)))))))
                        refine b_ret1 rfl rfl ?_
                        obtain rfl := Option.some.inj hm
                        exact ⟨_, _, _, rfl, hx40.pick [] (by decide) rfl, rfl, rfl⟩
                       ·refine c_lit 195 rfl hb23 ?_
                        refine c_false rfl (c_skip (q_then (c_seq (c_region ?_))))
                        refine r_loadBA (cs' := [.int .i64 ax1.P.Sign, .slice as1 ns1 cs1, .int .i64 ax1.Q.Sign, .slice as2 ns2 cs2]) ag26 sz26 rfl rfl hx40 rfl (i := 7) rfl rfl rfl ?_
                        refine r_loadBA (cs' := [.int .i64 b1.P.Sign, .slice as3 ns3 cs3, .int .i64 b1.Q.Sign, .slice as4 ns4 cs4]) ag26 sz26 rfl rfl hx40 rfl (i := 6) rfl rfl rfl ?_
                        have hG5 := (((((hG4.trans hF21).trans hF22).trans hF23).trans hF24).trans hF25).trans hF26
                        obtain ⟨v34, hv16, hm⟩ := bind_some hm
                        refine r_callG0 ent30 rfl rfl rfl rfl hx40 (frac_Min_ok _ _ _ _ hv16 hx40.sat (hs1.mono hG5) (hs2.mono hG5) (hs3.mono hG5) (hs4.mono hG5)) ?_
                        rintro _ Fx27 _ wx48 hF27 hx41 ⟨as27, ns27, cs27, as28, ns28, cs28, rfl, rfl, hs27, hs28⟩
                        refine r_extract rfl rfl rfl rfl (r_extract rfl rfl rfl rfl ?_)
                        obtain ⟨v35, hv17, hm⟩ := bind_some hm
                        refine r_callG0 ent45 rfl rfl rfl rfl hx41 (law05_right_ok _ _ _ _ hv17 hx41.sat hs27 hs28) ?_
                        rintro _ Fx28 _ wx49 hF28 hx42 ⟨as29, ns29, cs29, as30, ns30, cs30, rfl, rfl, hs29, hs30⟩
                        refine r_move rfl rfl rfl (r_extract rfl rfl rfl rfl (r_extract rfl rfl rfl rfl ?_))
                        refine r_alloc ze26 rfl rfl rfl hx42 ?_
                        intro b10 wx50 hx43
                        refine r_store sz26 rfl hx43 rfl rfl rfl rfl (i := 0) rfl rfl rfl rfl ?_
                        intro wx51 hx44
                        refine r_assign rfl rfl rfl (r_nil (q_then (c_seq (c_region ?_))))
                        refine r_loadBA (cs' := [.int .i64 ax1.P.Sign, .slice as1 ns1 cs1, .int .i64 ax1.Q.Sign, .slice as2 ns2 cs2]) ag26 sz26 rfl rfl hx44 rfl (i := 8) rfl rfl rfl ?_
                        refine r_loadBA (cs' := [.int .i64 b1.P.Sign, .slice as3 ns3 cs3, .int .i64 b1.Q.Sign, .slice as4 ns4 cs4]) ag26 sz26 rfl rfl hx44 rfl (i := 7) rfl rfl rfl ?_
                        obtain ⟨v36, hv18, hm⟩ := bind_some hm
                        refine r_callG0 ent32 rfl rfl rfl rfl hx44 (frac_Max_ok _ _ _ _ hv18 hx44.sat (((hs1.mono hG5).mono hF27).mono hF28) (((hs2.mono hG5).mono hF27).mono hF28) (((hs3.mono hG5).mono hF27).mono hF28) (((hs4.mono hG5).mono hF27).mono hF28)) ?_
                        rintro _ Fx29 _ wx52 hF29 hx45 ⟨as31, ns31, cs31, as32, ns32, cs32, rfl, rfl, hs31, hs32⟩
                        refine r_extract rfl rfl rfl rfl (r_extract rfl rfl rfl rfl ?_)
                        obtain ⟨v37, hv19, hm⟩ := bind_some hm
                        refine r_callG0 ent45 rfl rfl rfl rfl hx45 (law05_right_ok _ _ _ _ hv19 hx45.sat hs31 hs32) ?_
                        rintro _ Fx30 _ wx53 hF30 hx46 ⟨as33, ns33, cs33, as34, ns34, cs34, rfl, rfl, hs33, hs34⟩
                        refine r_move rfl rfl rfl (r_extract rfl rfl rfl rfl (r_extract rfl rfl rfl rfl ?_))
                        refine r_alloc ze26 rfl rfl rfl hx46 ?_
                        intro b11 wx54 hx47
                        refine r_store sz26 rfl hx47 rfl rfl rfl rfl (i := 0) rfl rfl rfl rfl ?_
                        intro wx55 hx48
                        refine r_assign rfl rfl rfl (r_nil (q_then (c_seq (c_region ?_))))
                        refine r_loadBA (cs' := [.int .i64 v35.1.P.Sign, .slice as29 ns29 cs29, .int .i64 v35.1.Q.Sign, .slice as30 ns30 cs30]) ag26 sz26 rfl rfl hx48 rfl (i := 1) rfl rfl rfl ?_
                        refine r_loadBA (cs' := [.int .i64 v37.1.P.Sign, .slice as33 ns33 cs33, .int .i64 v37.1.Q.Sign, .slice as34 ns34 cs34]) ag26 sz26 rfl rfl hx48 rfl (i := 0) rfl rfl rfl ?_
                        obtain ⟨v38, hv20, hm⟩ := bind_some hm
                        refine r_callG0 ent10 rfl rfl rfl rfl hx48 (frac_Add_ok _ _ _ _ hv20 hx48.sat ((hs29.mono hF29).mono hF30) ((hs30.mono hF29).mono hF30) hs33 hs34) ?_
                        rintro _ Fx31 _ wx56 hF31 hx49 ⟨as35, ns35, cs35, as36, ns36, cs36, rfl, rfl, hs35, hs36⟩
                        refine r_extract rfl rfl rfl rfl (r_extract rfl rfl rfl rfl ?_)
                        obtain ⟨v39, hv21, hm⟩ := bind_some hm
                        refine r_callG0 ent45 rfl rfl rfl rfl hx49 (law05_right_ok _ _ _ _ hv21 hx49.sat hs35 hs36) ?_
                        rintro _ Fx32 _ wx57 hF32 hx50 ⟨as37, ns37, cs37, as38, ns38, cs38, rfl, rfl, hs37, hs38⟩
                        refine r_move rfl rfl rfl (r_extract rfl rfl rfl rfl (r_extract rfl rfl rfl rfl ?_))
                        refine r_alloc ze26 rfl rfl rfl hx50 ?_
                        intro b12 wx58 hx51
                        refine r_store sz26 rfl hx51 rfl rfl rfl rfl (i := 0) rfl rfl rfl rfl ?_
                        intro wx59 hx52
                        refine r_assign rfl rfl rfl (r_nil (q_then (c_seq (c_region ?_))))
                        refine r_loadBA (cs' := [.int .i64 ax1.P.Sign, .slice as1 ns1 cs1, .int .i64 ax1.Q.Sign, .slice as2 ns2 cs2]) ag26 sz26 rfl rfl hx52 rfl (i := 10) rfl rfl rfl ?_
                        refine r_loadBA (cs' := [.int .i64 b1.P.Sign, .slice as3 ns3 cs3, .int .i64 b1.Q.Sign, .slice as4 ns4 cs4]) ag26 sz26 rfl rfl hx52 rfl (i := 9) rfl rfl rfl ?_
                        have hG6 := (((((hG5.trans hF27).trans hF28).trans hF29).trans hF30).trans hF31).trans hF32
                        obtain ⟨v40, hv22, hm⟩ := bind_some hm
                        refine r_callG0 ent10 rfl rfl rfl rfl hx52 (frac_Add_ok _ _ _ _ hv22 hx52.sat (hs1.mono hG6) (hs2.mono hG6) (hs3.mono hG6) (hs4.mono hG6)) ?_
                        rintro _ Fx33 _ wx60 hF33 hx53 ⟨as39, ns39, cs39, as40, ns40, cs40, rfl, rfl, hs39, hs40⟩
                        refine r_extract rfl rfl rfl rfl (r_extract rfl rfl rfl rfl ?_)
                        obtain ⟨v41, hv23, hm⟩ := bind_some hm
                        refine r_callG0 ent45 rfl rfl rfl rfl hx53 (law05_right_ok _ _ _ _ hv23 hx53.sat hs39 hs40) ?_
                        rintro _ Fx34 _ wx61 hF34 hx54 ⟨as41, ns41, cs41, as42, ns42, cs42, rfl, rfl, hs41, hs42⟩
                        refine r_move rfl rfl rfl (r_extract rfl rfl rfl rfl (r_extract rfl rfl rfl rfl ?_))
                        refine r_alloc ze26 rfl rfl rfl hx54 ?_
                        intro b13 wx62 hx55
                        refine r_store sz26 rfl hx55 rfl rfl rfl rfl (i := 0) rfl rfl rfl rfl ?_
                        intro wx63 hx56
                        refine r_assign rfl rfl rfl (r_nil (q_then ?_))
                        obtain ⟨⟨five1, f1, f2, f3, f4⟩, hb24, hm⟩ := bind_some hm
                        refine c_mid (fun a w' => ∃ (Fx35 : Frz) (b14 : Nat) (as43 : Option Addr) (ns43 : Nat) (cs43 : Nat) (as44 : Option Addr) (ns44 : Nat) (cs44 : Nat), Frz.le Fx34 Fx35 ∧ HS F w [] Fx35 [.box b14 26 [.int .i64 f1, .slice as43 ns43 cs43, .int .i64 f3, .slice as44 ns44 cs44], .box b13 26 [.int .i64 v41.1.P.Sign, .slice as41 ns41 cs41, .int .i64 v41.1.Q.Sign, .slice as42 ns42 cs42], .box b12 26 [.int .i64 v39.1.P.Sign, .slice as37 ns37 cs37, .int .i64 v39.1.Q.Sign, .slice as38 ns38 cs38], .box b11 26 [.int .i64 v37.1.P.Sign, .slice as33 ns33 cs33, .int .i64 v37.1.Q.Sign, .slice as34 ns34 cs34], .box b10 26 [.int .i64 v35.1.P.Sign, .slice as29 ns29 cs29, .int .i64 v35.1.Q.Sign, .slice as30 ns30 cs30], .box b9 26 [.int .i64 v24.1.P.Sign, .slice as25 ns25 cs25, .int .i64 v24.1.Q.Sign, .slice as26 ns26 cs26], .box b8 26 [.int .i64 v22.1.P.Sign, .slice as21 ns21 cs21, .int .i64 v22.1.Q.Sign, .slice as22 ns22 cs22], .box b7 26 [.int .i64 v20.1.P.Sign, .slice as17 ns17 cs17, .int .i64 v20.1.Q.Sign, .slice as18 ns18 cs18], .box b6 26 [.int .i64 v18.1.P.Sign, .slice as13 ns13 cs13, .int .i64 v18.1.Q.Sign, .slice as14 ns14 cs14], .box b5 26 [.int .i64 v16.1.P.Sign, .slice as9 ns9 cs9, .int .i64 v16.1.Q.Sign, .slice as10 ns10 cs10], .box b4 26 [.int .i64 c1.P.Sign, .slice as5 ns5 cs5, .int .i64 c1.Q.Sign, .slice as6 ns6 cs6], .box b3 26 [.int .i64 b1.P.Sign, .slice as3 ns3 cs3, .int .i64 b1.Q.Sign, .slice as4 ns4 cs4], .box b2 26 [.int .i64 ax1.P.Sign, .slice as1 ns1 cs1, .int .i64 ax1.Q.Sign, .slice as2 ns2 cs2]] w' ∧ (SlR (Rp.int .i64) Fx35 as43 ns43 cs43 f2) ∧ (SlR (Rp.int .i64) Fx35 as44 ns44 cs44 f4) ∧ Has 295 a [(3, .pointer (some ⟨b2, 0, none⟩)), (4, .pointer (some ⟨b3, 0, none⟩)), (7, .bool v1), (10, .bool v35.2), (12, .bool v37.2), (14, .bool v39.2), (16, .bool v41.2), (18, .bool five1), (19, .pointer (some ⟨b10, 0, none⟩)), (20, .pointer (some ⟨b11, 0, none⟩)), (21, .pointer (some ⟨b12, 0, none⟩)), (22, .pointer (some ⟨b13, 0, none⟩)), (23, .pointer (some ⟨b14, 0, none⟩))]) ?_ ?_
                        ·rintro a wx64 ⟨Fx35, b14, as43, ns43, cs43, as44, ns44, cs44, hF35, hx57, hs43, hs44, hax19⟩
                         refine cw_apply hax19 ?_
                         refine c_seq (c_region ?_)
                         refine r_loadBA (cs' := [.int .i64 v35.1.P.Sign, .slice as29 ns29 cs29, .int .i64 v35.1.Q.Sign, .slice as30 ns30 cs30]) ag26 sz26 rfl rfl hx57 rfl (i := 4) rfl rfl rfl ?_
                         refine r_loadBA (cs' := [.int .i64 ax1.P.Sign, .slice as1 ns1 cs1, .int .i64 ax1.Q.Sign, .slice as2 ns2 cs2]) ag26 sz26 rfl rfl hx57 rfl (i := 12) rfl rfl rfl ?_
                         have hG7 := (((((hF29.trans hF30).trans hF31).trans hF32).trans hF33).trans hF34).trans hF35
                         obtain ⟨v42, hv24, hm⟩ := bind_some hm
                         refine r_callG0 ent14 rfl rfl rfl rfl hx57 (ref05_Same_ok _ _ _ _ hv24 hx57.sat (hs29.mono hG7) (hs30.mono hG7) ((((hs1.mono hG6).mono hF33).mono hF34).mono hF35) ((((hs2.mono hG6).mono hF33).mono hF34).mono hF35)) ?_
                         rintro _ Fx36 _ wx65 hF36 hx58 ⟨rfl, rfl⟩
                         refine r_move rfl rfl rfl ?_
                         obtain ⟨v43, hb25, hm⟩ := bind_some hm
                         refine r_mid 4 (fun a w' => ∃ (Fx37 : Frz), Frz.le Fx36 Fx37 ∧ HS F w [] Fx37 [.box b14 26 [.int .i64 f1, .slice as43 ns43 cs43, .int .i64 f3, .slice as44 ns44 cs44], .box b13 26 [.int .i64 v41.1.P.Sign, .slice as41 ns41 cs41, .int .i64 v41.1.Q.Sign, .slice as42 ns42 cs42], .box b12 26 [.int .i64 v39.1.P.Sign, .slice as37 ns37 cs37, .int .i64 v39.1.Q.Sign, .slice as38 ns38 cs38], .box b11 26 [.int .i64 v37.1.P.Sign, .slice as33 ns33 cs33, .int .i64 v37.1.Q.Sign, .slice as34 ns34 cs34], .box b10 26 [.int .i64 v35.1.P.Sign, .slice as29 ns29 cs29, .int .i64 v35.1.Q.Sign, .slice as30 ns30 cs30], .box b9 26 [.int .i64 v24.1.P.Sign, .slice as25 ns25 cs25, .int .i64 v24.1.Q.Sign, .slice as26 ns26 cs26], .box b8 26 [.int .i64 v22.1.P.Sign, .slice as21 ns21 cs21, .int .i64 v22.1.Q.Sign, .slice as22 ns22 cs22], .box b7 26 [.int .i64 v20.1.P.Sign, .slice as17 ns17 cs17, .int .i64 v20.1.Q.Sign, .slice as18 ns18 cs18], .box b6 26 [.int .i64 v18.1.P.Sign, .slice as13 ns13 cs13, .int .i64 v18.1.Q.Sign, .slice as14 ns14 cs14], .box b5 26 [.int .i64 v16.1.P.Sign, .slice as9 ns9 cs9, .int .i64 v16.1.Q.Sign, .slice as10 ns10 cs10], .box b4 26 [.int .i64 c1.P.Sign, .slice as5 ns5 cs5, .int .i64 c1.Q.Sign, .slice as6 ns6 cs6], .box b3 26 [.int .i64 b1.P.Sign, .slice as3 ns3 cs3, .int .i64 b1.Q.Sign, .slice as4 ns4 cs4], .box b2 26 [.int .i64 ax1.P.Sign, .slice as1 ns1 cs1, .int .i64 ax1.Q.Sign, .slice as2 ns2 cs2]] w' ∧ Has 295 a [(3, .pointer (some ⟨b2, 0, none⟩)), (4, .pointer (some ⟨b3, 0, none⟩)), (7, .bool v1), (10, .bool v35.2), (12, .bool v37.2), (14, .bool v39.2), (16, .bool v41.2), (18, .bool five1), (19, .pointer (some ⟨b10, 0, none⟩)), (20, .pointer (some ⟨b11, 0, none⟩)), (21, .pointer (some ⟨b12, 0, none⟩)), (22, .pointer (some ⟨b13, 0, none⟩)), (23, .pointer (some ⟨b14, 0, none⟩)), (249, .bool v43)]) ?_ ?_
                         ·rintro a wx66 ⟨Fx37, hF37, hx59, hax20⟩
                          refine rw_apply hax20 ?_
                          refine r_move rfl rfl rfl ?_
                          obtain ⟨v44, hb26, hm⟩ := bind_some hm
                          refine r_mid 9 (fun a w' => ∃ (Fx38 : Frz), Frz.le Fx37 Fx38 ∧ HS F w [] Fx38 [.box b14 26 [.int .i64 f1, .slice as43 ns43 cs43, .int .i64 f3, .slice as44 ns44 cs44], .box b13 26 [.int .i64 v41.1.P.Sign, .slice as41 ns41 cs41, .int .i64 v41.1.Q.Sign, .slice as42 ns42 cs42], .box b12 26 [.int .i64 v39.1.P.Sign, .slice as37 ns37 cs37, .int .i64 v39.1.Q.Sign, .slice as38 ns38 cs38], .box b11 26 [.int .i64 v37.1.P.Sign, .slice as33 ns33 cs33, .int .i64 v37.1.Q.Sign, .slice as34 ns34 cs34], .box b10 26 [.int .i64 v35.1.P.Sign, .slice as29 ns29 cs29, .int .i64 v35.1.Q.Sign, .slice as30 ns30 cs30], .box b9 26 [.int .i64 v24.1.P.Sign, .slice as25 ns25 cs25, .int .i64 v24.1.Q.Sign, .slice as26 ns26 cs26], .box b8 26 [.int .i64 v22.1.P.Sign, .slice as21 ns21 cs21, .int .i64 v22.1.Q.Sign, .slice as22 ns22 cs22], .box b7 26 [.int .i64 v20.1.P.Sign, .slice as17 ns17 cs17, .int .i64 v20.1.Q.Sign, .slice as18 ns18 cs18], .box b6 26 [.int .i64 v18.1.P.Sign, .slice as13 ns13 cs13, .int .i64 v18.1.Q.Sign, .slice as14 ns14 cs14], .box b5 26 [.int .i64 v16.1.P.Sign, .slice as9 ns9 cs9, .int .i64 v16.1.Q.Sign, .slice as10 ns10 cs10], .box b4 26 [.int .i64 c1.P.Sign, .slice as5 ns5 cs5, .int .i64 c1.Q.Sign, .slice as6 ns6 cs6], .box b3 26 [.int .i64 b1.P.Sign, .slice as3 ns3 cs3, .int .i64 b1.Q.Sign, .slice as4 ns4 cs4], .box b2 26 [.int .i64 ax1.P.Sign, .slice as1 ns1 cs1, .int .i64 ax1.Q.Sign, .slice as2 ns2 cs2]] w' ∧ Has 295 a [(7, .bool v1), (10, .bool v35.2), (12, .bool v37.2), (14, .bool v39.2), (16, .bool v41.2), (18, .bool five1), (19, .pointer (some ⟨b10, 0, none⟩)), (20, .pointer (some ⟨b11, 0, none⟩)), (21, .pointer (some ⟨b12, 0, none⟩)), (22, .pointer (some ⟨b13, 0, none⟩)), (23, .pointer (some ⟨b14, 0, none⟩)), (259, .bool v44)]) ?_ ?_
                          ·rintro a wx67 ⟨Fx38, hF38, hx60, hax21⟩
                           refine rw_apply hax21 ?_
                           refine r_assign rfl rfl rfl (r_nil (q_then (c_seq ?_)))
                           refine c_regionH (SH Fx38 [.box b14 26 [.int .i64 f1, .slice as43 ns43 cs43, .int .i64 f3, .slice as44 ns44 cs44], .box b13 26 [.int .i64 v41.1.P.Sign, .slice as41 ns41 cs41, .int .i64 v41.1.Q.Sign, .slice as42 ns42 cs42], .box b12 26 [.int .i64 v39.1.P.Sign, .slice as37 ns37 cs37, .int .i64 v39.1.Q.Sign, .slice as38 ns38 cs38], .box b11 26 [.int .i64 v37.1.P.Sign, .slice as33 ns33 cs33, .int .i64 v37.1.Q.Sign, .slice as34 ns34 cs34], .box b10 26 [.int .i64 v35.1.P.Sign, .slice as29 ns29 cs29, .int .i64 v35.1.Q.Sign, .slice as30 ns30 cs30], .box b9 26 [.int .i64 v24.1.P.Sign, .slice as25 ns25 cs25, .int .i64 v24.1.Q.Sign, .slice as26 ns26 cs26], .box b8 26 [.int .i64 v22.1.P.Sign, .slice as21 ns21 cs21, .int .i64 v22.1.Q.Sign, .slice as22 ns22 cs22], .box b7 26 [.int .i64 v20.1.P.Sign, .slice as17 ns17 cs17, .int .i64 v20.1.Q.Sign, .slice as18 ns18 cs18], .box b6 26 [.int .i64 v18.1.P.Sign, .slice as13 ns13 cs13, .int .i64 v18.1.Q.Sign, .slice as14 ns14 cs14], .box b5 26 [.int .i64 v16.1.P.Sign, .slice as9 ns9 cs9, .int .i64 v16.1.Q.Sign, .slice as10 ns10 cs10], .box b4 26 [.int .i64 c1.P.Sign, .slice as5 ns5 cs5, .int .i64 c1.Q.Sign, .slice as6 ns6 cs6], .box b3 26 [.int .i64 b1.P.Sign, .slice as3 ns3 cs3, .int .i64 b1.Q.Sign, .slice as4 ns4 cs4], .box b2 26 [.int .i64 ax1.P.Sign, .slice as1 ns1 cs1, .int .i64 ax1.Q.Sign, .slice as2 ns2 cs2]]) 36 rfl (by kernel_rfl) hx60 ?_
                           intro wx68 hx61
                           refine d_take 0 (v := .bool v1) rfl (by kernel_rfl) (by kernel_rfl) (by kernel_rfl) rfl rfl rfl rfl (hx61.sh (Frz.refl _) [0, 1, 2, 3, 4, 5, 6, 7, 8, 9, 10, 11, 12] (by decide) rfl) (fun _ hC => ?_) ?_
                           ·obtain ⟨_, _, hleq, hq⟩ := hC
                            refine r_move rfl rfl rfl (r_nil (qq rfl))
                           refine d_take 1 (v := .bool v1) rfl (by kernel_rfl) (by kernel_rfl) (by kernel_rfl) rfl rfl rfl rfl (hx61.sh (Frz.refl _) [0, 1, 2, 3, 4, 5, 6, 7, 8, 9, 10, 11, 12] (by decide) rfl) (fun _ hC => ?_) ?_
                           ·obtain ⟨_, _, hleq, hq⟩ := hC
                            refine r_move rfl rfl rfl (r_nil (qq rfl))
                           obtain ⟨v45, hb27, hm⟩ := bind_some hm
                           refine d_mid (fuel' := 32) (listed' := #[true, true, true, true, false, false, false, false, false, false, false, false, false, false, false, false, false, false, false, false, false, false, false, false, false, false, false, false, false, false, false, false, false, false, false, false]) (fun a w' => wx68 = w' ∧ Has 295 a [(12, .bool v37.2), (14, .bool v39.2), (16, .bool v41.2), (18, .bool five1), (19, .pointer (some ⟨b10, 0, none⟩)), (20, .pointer (some ⟨b11, 0, none⟩)), (21, .pointer (some ⟨b12, 0, none⟩)), (22, .pointer (some ⟨b13, 0, none⟩)), (23, .pointer (some ⟨b14, 0, none⟩)), (24, .bool v44), (263, .bool v45)]) ?_ (fun hK3 => ?_)
                           ·rintro a wx69 ⟨rfl, hax22⟩
                            refine dw_apply hax22 ?_
                            refine d_take 4 (v := .bool v45) rfl (by kernel_rfl) (by kernel_rfl) (by kernel_rfl) rfl rfl rfl rfl (hx61.sh (Frz.refl _) [0, 1, 2, 3, 4, 5, 6, 7, 8, 9, 10, 11, 12] (by decide) rfl) (fun _ hC => ?_) ?_
                            ·obtain ⟨_, _, hleq, hq⟩ := hC
                             refine r_move rfl rfl rfl (r_nil (qq rfl))
                            obtain ⟨v46, hb28, hm⟩ := bind_some hm
                            refine d_mid (fuel' := 29) (listed' := #[true, true, true, true, true, true, true, false, false, false, false, false, false, false, false, false, false, false, false, false, false, false, false, false, false, false, false, false, false, false, false, false, false, false, false, false]) (fun a w' => wx68 = w' ∧ Has 295 a [(14, .bool v39.2), (16, .bool v41.2), (18, .bool five1), (19, .pointer (some ⟨b10, 0, none⟩)), (20, .pointer (some ⟨b11, 0, none⟩)), (21, .pointer (some ⟨b12, 0, none⟩)), (22, .pointer (some ⟨b13, 0, none⟩)), (23, .pointer (some ⟨b14, 0, none⟩)), (24, .bool v44), (266, .bool v46)]) ?_ (fun hK4 => ?_)
                            ·rintro a wx70 ⟨rfl, hax23⟩
                             refine dw_apply hax23 ?_
                             refine d_take 7 (v := .bool v46) rfl (by kernel_rfl) (by kernel_rfl) (by kernel_rfl) rfl rfl rfl rfl (hx61.sh (Frz.refl _) [0, 1, 2, 3, 4, 5, 6, 7, 8, 9, 10, 11, 12] (by decide) rfl) (fun _ hC => ?_) ?_
                             ·obtain ⟨_, _, hleq, hq⟩ := hC
                              refine r_move rfl rfl rfl (r_nil (qq rfl))
                             obtain ⟨v47, hb29, hm⟩ := bind_some hm
                             refine d_mid (fuel' := 26) (listed' := #[true, true, true, true, true, true, true, true, true, true, false, false, false, false, false, false, false, false, false, false, false, false, false, false, false, false, false, false, false, false, false, false, false, false, false, false]) (fun a w' => wx68 = w' ∧ Has 295 a [(16, .bool v41.2), (18, .bool five1), (19, .pointer (some ⟨b10, 0, none⟩)), (20, .pointer (some ⟨b11, 0, none⟩)), (21, .pointer (some ⟨b12, 0, none⟩)), (22, .pointer (some ⟨b13, 0, none⟩)), (23, .pointer (some ⟨b14, 0, none⟩)), (24, .bool v44), (269, .bool v47)]) ?_ (fun hK5 => ?_)
                             ·rintro a wx71 ⟨rfl, hax24⟩
                              refine dw_apply hax24 ?_
                              refine d_take 10 (v := .bool v47) rfl (by kernel_rfl) (by kernel_rfl) (by kernel_rfl) rfl rfl rfl rfl (hx61.sh (Frz.refl _) [0, 1, 2, 3, 4, 5, 6, 7, 8, 9, 10, 11, 12] (by decide) rfl) (fun _ hC => ?_) ?_
                              ·obtain ⟨_, _, hleq, hq⟩ := hC
                               refine r_move rfl rfl rfl (r_nil (qq rfl))
                              obtain ⟨v48, hb30, hm⟩ := bind_some hm
                              refine d_mid (fuel' := 23) (listed' := #[true, true, true, true, true, true, true, true, true, true, true, true, true, false, false, false, false, false, false, false, false, false, false, false, false, false, false, false, false, false, false, false, false, false, false, false]) (fun a w' => wx68 = w' ∧ Has 295 a [(18, .bool five1), (19, .pointer (some ⟨b10, 0, none⟩)), (20, .pointer (some ⟨b11, 0, none⟩)), (21, .pointer (some ⟨b12, 0, none⟩)), (22, .pointer (some ⟨b13, 0, none⟩)), (23, .pointer (some ⟨b14, 0, none⟩)), (24, .bool v44), (272, .bool v48)]) ?_ (fun hK6 => ?_)
                              ·rintro a wx72 ⟨rfl, hax25⟩
                               refine dw_apply hax25 ?_
                               refine d_take 13 (v := .bool v48) rfl (by kernel_rfl) (by kernel_rfl) (by kernel_rfl) rfl rfl rfl rfl (hx61.sh (Frz.refl _) [0, 1, 2, 3, 4, 5, 6, 7, 8, 9, 10, 11, 12] (by decide) rfl) (fun _ hC => ?_) ?_
                               ·obtain ⟨_, _, hleq, hq⟩ := hC
                                refine r_move rfl rfl rfl (r_nil (qq rfl))
                               obtain ⟨v49, hb31, hm⟩ := bind_some hm
                               refine d_mid (fuel' := 20) (listed' := #[true, true, true, true, true, true, true, true, true, true, true, true, true, true, true, true, false, false, false, false, false, false, false, false, false, false, false, false, false, false, false, false, false, false, false, false]) (fun a w' => wx68 = w' ∧ Has 295 a [(19, .pointer (some ⟨b10, 0, none⟩)), (20, .pointer (some ⟨b11, 0, none⟩)), (21, .pointer (some ⟨b12, 0, none⟩)), (22, .pointer (some ⟨b13, 0, none⟩)), (23, .pointer (some ⟨b14, 0, none⟩)), (24, .bool v44), (275, .bool v49)]) ?_ (fun hK7 => ?_)
                               ·rintro a wx73 ⟨rfl, hax26⟩
                                refine dw_apply hax26 ?_
                                refine d_take 16 (v := .bool v49) rfl (by kernel_rfl) (by kernel_rfl) (by kernel_rfl) rfl rfl rfl rfl (hx61.sh (Frz.refl _) [0, 1, 2, 3, 4, 5, 6, 7, 8, 9, 10, 11, 12] (by decide) rfl) (fun _ hC => ?_) ?_
                                ·obtain ⟨_, _, hleq, hq⟩ := hC
                                 refine r_move rfl rfl rfl (r_nil (qq rfl))
                                obtain ⟨v50, hb32, hm⟩ := bind_some hm
                                refine d_mid (fuel' := 17) (listed' := #[true, true, true, true, true, true, true, true, true, true, true, true, true, true, true, true, true, true, true, false, false, false, false, false, false, false, false, false, false, false, false, false, false, false, false, false]) (fun a w' => wx68 = w' ∧ Has 295 a [(19, .pointer (some ⟨b10, 0, none⟩)), (20, .pointer (some ⟨b11, 0, none⟩)), (21, .pointer (some ⟨b12, 0, none⟩)), (22, .pointer (some ⟨b13, 0, none⟩)), (23, .pointer (some ⟨b14, 0, none⟩)), (278, .bool v50)]) ?_ (fun hK8 => ?_)
                                ·rintro a wx74 ⟨rfl, hax27⟩
                                 refine dw_apply hax27 ?_
                                 refine d_take 19 (v := .bool v50) rfl (by kernel_rfl) (by kernel_rfl) (by kernel_rfl) rfl rfl rfl rfl (hx61.sh (Frz.refl _) [0, 1, 2, 3, 4, 5, 6, 7, 8, 9, 10, 11, 12] (by decide) rfl) (fun _ hC => ?_) ?_
                                 ·obtain ⟨_, _, hleq, hq⟩ := hC
                                  refine r_move rfl rfl rfl (r_nil (qq rfl))
                                 obtain ⟨v51, hb33, hm⟩ := bind_some hm
                                 refine d_mid (fuel' := 12) (listed' := #[true, true, true, true, true, true, true, true, true, true, true, true, true, true, true, true, true, true, true, true, true, true, true, true, false, false, false, false, false, false, false, false, false, false, false, false]) (fun a w' => ∃ (Fx39 : Frz), Frz.le Fx38 Fx39 ∧ HS F w [] Fx39 [.box b14 26 [.int .i64 f1, .slice as43 ns43 cs43, .int .i64 f3, .slice as44 ns44 cs44], .box b13 26 [.int .i64 v41.1.P.Sign, .slice as41 ns41 cs41, .int .i64 v41.1.Q.Sign, .slice as42 ns42 cs42], .box b12 26 [.int .i64 v39.1.P.Sign, .slice as37 ns37 cs37, .int .i64 v39.1.Q.Sign, .slice as38 ns38 cs38], .box b11 26 [.int .i64 v37.1.P.Sign, .slice as33 ns33 cs33, .int .i64 v37.1.Q.Sign, .slice as34 ns34 cs34], .box b10 26 [.int .i64 v35.1.P.Sign, .slice as29 ns29 cs29, .int .i64 v35.1.Q.Sign, .slice as30 ns30 cs30], .box b9 26 [.int .i64 v24.1.P.Sign, .slice as25 ns25 cs25, .int .i64 v24.1.Q.Sign, .slice as26 ns26 cs26], .box b8 26 [.int .i64 v22.1.P.Sign, .slice as21 ns21 cs21, .int .i64 v22.1.Q.Sign, .slice as22 ns22 cs22], .box b7 26 [.int .i64 v20.1.P.Sign, .slice as17 ns17 cs17, .int .i64 v20.1.Q.Sign, .slice as18 ns18 cs18], .box b6 26 [.int .i64 v18.1.P.Sign, .slice as13 ns13 cs13, .int .i64 v18.1.Q.Sign, .slice as14 ns14 cs14], .box b5 26 [.int .i64 v16.1.P.Sign, .slice as9 ns9 cs9, .int .i64 v16.1.Q.Sign, .slice as10 ns10 cs10], .box b4 26 [.int .i64 c1.P.Sign, .slice as5 ns5 cs5, .int .i64 c1.Q.Sign, .slice as6 ns6 cs6], .box b3 26 [.int .i64 b1.P.Sign, .slice as3 ns3 cs3, .int .i64 b1.Q.Sign, .slice as4 ns4 cs4], .box b2 26 [.int .i64 ax1.P.Sign, .slice as1 ns1 cs1, .int .i64 ax1.Q.Sign, .slice as2 ns2 cs2]] w' ∧ Has 295 a [(19, .pointer (some ⟨b10, 0, none⟩)), (20, .pointer (some ⟨b11, 0, none⟩)), (23, .pointer (some ⟨b14, 0, none⟩)), (283, .bool v51)]) ?_ (fun hK9 => ?_)
                                 ·rintro a wx75 ⟨Fx39, hF39, hx62, hax28⟩
                                  refine dw_apply hax28 ?_
                                  refine d_take 24 (v := .bool v51) rfl (by kernel_rfl) (by kernel_rfl) (by kernel_rfl) rfl rfl rfl rfl (hx62.sh hF39 [0, 1, 2, 3, 4, 5, 6, 7, 8, 9, 10, 11, 12] (by decide) rfl) (fun _ hC => ?_) ?_
                                  ·obtain ⟨_, _, hleq, hq⟩ := hC
                                   refine r_move rfl rfl rfl (r_nil (qq rfl))
                                  obtain ⟨v52, hb34, hm⟩ := bind_some hm
                                  refine d_mid (fuel' := 6) (listed' := #[true, true, true, true, true, true, true, true, true, true, true, true, true, true, true, true, true, true, true, true, true, true, true, true, true, true, true, true, true, true, false, false, false, false, false, false]) (fun a w' => ∃ (Fx40 : Frz), Frz.le Fx39 Fx40 ∧ HS F w [] Fx40 [.box b14 26 [.int .i64 f1, .slice as43 ns43 cs43, .int .i64 f3, .slice as44 ns44 cs44], .box b13 26 [.int .i64 v41.1.P.Sign, .slice as41 ns41 cs41, .int .i64 v41.1.Q.Sign, .slice as42 ns42 cs42], .box b12 26 [.int .i64 v39.1.P.Sign, .slice as37 ns37 cs37, .int .i64 v39.1.Q.Sign, .slice as38 ns38 cs38], .box b11 26 [.int .i64 v37.1.P.Sign, .slice as33 ns33 cs33, .int .i64 v37.1.Q.Sign, .slice as34 ns34 cs34], .box b10 26 [.int .i64 v35.1.P.Sign, .slice as29 ns29 cs29, .int .i64 v35.1.Q.Sign, .slice as30 ns30 cs30], .box b9 26 [.int .i64 v24.1.P.Sign, .slice as25 ns25 cs25, .int .i64 v24.1.Q.Sign, .slice as26 ns26 cs26], .box b8 26 [.int .i64 v22.1.P.Sign, .slice as21 ns21 cs21, .int .i64 v22.1.Q.Sign, .slice as22 ns22 cs22], .box b7 26 [.int .i64 v20.1.P.Sign, .slice as17 ns17 cs17, .int .i64 v20.1.Q.Sign, .slice as18 ns18 cs18], .box b6 26 [.int .i64 v18.1.P.Sign, .slice as13 ns13 cs13, .int .i64 v18.1.Q.Sign, .slice as14 ns14 cs14], .box b5 26 [.int .i64 v16.1.P.Sign, .slice as9 ns9 cs9, .int .i64 v16.1.Q.Sign, .slice as10 ns10 cs10], .box b4 26 [.int .i64 c1.P.Sign, .slice as5 ns5 cs5, .int .i64 c1.Q.Sign, .slice as6 ns6 cs6], .box b3 26 [.int .i64 b1.P.Sign, .slice as3 ns3 cs3, .int .i64 b1.Q.Sign, .slice as4 ns4 cs4], .box b2 26 [.int .i64 ax1.P.Sign, .slice as1 ns1 cs1, .int .i64 ax1.Q.Sign, .slice as2 ns2 cs2]] w' ∧ Has 295 a [(23, .pointer (some ⟨b14, 0, none⟩)), (289, .bool v52)]) ?_ (fun hK10 => ?_)
                                  ·rintro a wx76 ⟨Fx40, hF40, hx63, hax29⟩
                                   refine dw_apply hax29 ?_
                                   refine d_take 30 (v := .bool v52) rfl (by kernel_rfl) (by kernel_rfl) (by kernel_rfl) rfl rfl rfl rfl (hx63.sh (hF39.trans hF40) [0, 1, 2, 3, 4, 5, 6, 7, 8, 9, 10, 11, 12] (by decide) rfl) (fun _ hC => ?_) ?_
                                   ·obtain ⟨_, _, hleq, hq⟩ := hC
                                    refine r_move rfl rfl rfl (r_nil (qq rfl))
                                   obtain ⟨v53, hb35, hm⟩ := bind_some hm
                                   refine d_mid (fuel' := 1) (listed' := #[true, true, true, true, true, true, true, true, true, true, true, true, true, true, true, true, true, true, true, true, true, true, true, true, true, true, true, true, true, true, true, true, true, true, true, false]) (fun a w' => ∃ (Fx41 : Frz), Frz.le Fx40 Fx41 ∧ HS F w [] Fx41 [.box b14 26 [.int .i64 f1, .slice as43 ns43 cs43, .int .i64 f3, .slice as44 ns44 cs44], .box b13 26 [.int .i64 v41.1.P.Sign, .slice as41 ns41 cs41, .int .i64 v41.1.Q.Sign, .slice as42 ns42 cs42], .box b12 26 [.int .i64 v39.1.P.Sign, .slice as37 ns37 cs37, .int .i64 v39.1.Q.Sign, .slice as38 ns38 cs38], .box b11 26 [.int .i64 v37.1.P.Sign, .slice as33 ns33 cs33, .int .i64 v37.1.Q.Sign, .slice as34 ns34 cs34], .box b10 26 [.int .i64 v35.1.P.Sign, .slice as29 ns29 cs29, .int .i64 v35.1.Q.Sign, .slice as30 ns30 cs30], .box b9 26 [.int .i64 v24.1.P.Sign, .slice as25 ns25 cs25, .int .i64 v24.1.Q.Sign, .slice as26 ns26 cs26], .box b8 26 [.int .i64 v22.1.P.Sign, .slice as21 ns21 cs21, .int .i64 v22.1.Q.Sign, .slice as22 ns22 cs22], .box b7 26 [.int .i64 v20.1.P.Sign, .slice as17 ns17 cs17, .int .i64 v20.1.Q.Sign, .slice as18 ns18 cs18], .box b6 26 [.int .i64 v18.1.P.Sign, .slice as13 ns13 cs13, .int .i64 v18.1.Q.Sign, .slice as14 ns14 cs14], .box b5 26 [.int .i64 v16.1.P.Sign, .slice as9 ns9 cs9, .int .i64 v16.1.Q.Sign, .slice as10 ns10 cs10], .box b4 26 [.int .i64 c1.P.Sign, .slice as5 ns5 cs5, .int .i64 c1.Q.Sign, .slice as6 ns6 cs6], .box b3 26 [.int .i64 b1.P.Sign, .slice as3 ns3 cs3, .int .i64 b1.Q.Sign, .slice as4 ns4 cs4], .box b2 26 [.int .i64 ax1.P.Sign, .slice as1 ns1 cs1, .int .i64 ax1.Q.Sign, .slice as2 ns2 cs2]] w' ∧ Has 295 a [(294, .bool v53)]) ?_ (fun hK11 => ?_)
                                   ·rintro a wx77 ⟨Fx41, hF41, hx64, hax30⟩
                                    refine dw_apply hax30 ?_
                                    refine d_take 35 (v := .bool v53) rfl (by kernel_rfl) (by kernel_rfl) (by kernel_rfl) rfl rfl rfl rfl (hx64.sh ((hF39.trans hF40).trans hF41) [0, 1, 2, 3, 4, 5, 6, 7, 8, 9, 10, 11, 12] (by decide) rfl) (fun _ hC => ?_) ?_
                                    ·obtain ⟨_, _, hleq, hq⟩ := hC
                                     refine r_assign rfl rfl rfl (r_nil (qq rfl))
                                    refine d_done (by kernel_rfl) ?_
                                    refine q_then (c_ret ?_)
                                    refine b_ret1 rfl rfl ?_
                                    obtain rfl := Option.some.inj hm
                                    exact ⟨_, _, _, rfl, hx64.pick [] (by decide) rfl, rfl, rfl⟩
                                   ·clear hm
                                    rcases cond_some hb35 with ⟨hb36, hb35⟩ | ⟨hb36, hb35⟩
                                    ·refine d_lit 290 rfl hb36 ?_
                                     refine d_take 31 (v := .agg #[.int .i64 f1, .slice as43 ns43 cs43, .int .i64 f3, .slice as44 ns44 cs44]) rfl (by kernel_rfl) (by kernel_rfl) (by kernel_rfl) rfl rfl rfl rfl (hx63.sh (hF39.trans hF40) [0, 1, 2, 3, 4, 5, 6, 7, 8, 9, 10, 11, 12] (by decide) rfl) (fun _ hC => ?_) ?_
                                     ·obtain ⟨_, _, hleq, hq⟩ := hC
                                      refine r_loadBA (cs' := [.int .i64 f1, .slice as43 ns43 cs43, .int .i64 f3, .slice as44 ns44 cs44]) ag26 sz26 rfl rfl hq rfl (i := 0) rfl rfl rfl (r_nil (qq rfl))
                                     refine d_step 32 rfl (by kernel_rfl) ?_
                                     obtain ⟨v54, hv25, hb35⟩ := bind_some hb35
                                     refine r_callG0 ent38 rfl rfl rfl rfl hx63 (frac_Int_ok _ _ _ hv25 hx63.sat) ?_
                                     rintro _ Fx42 _ wx78 hF42 hx65 ⟨as45, ns45, cs45, as46, ns46, cs46, rfl, rfl, hs45, hs46⟩
                                     refine d_next (hx65.sh ((hF39.trans hF40).trans hF42) [0, 1, 2, 3, 4, 5, 6, 7, 8, 9, 10, 11, 12] (by decide) rfl) ?_
                                     refine d_step 33 rfl (by kernel_rfl) ?_
                                     have hG8 := ((((hF36.trans hF37).trans hF38).trans hF39).trans hF40).trans hF42
                                     obtain ⟨v55, hv26, hb35⟩ := bind_some hb35
                                     refine r_callG0 ent14 rfl rfl rfl rfl hx65 (ref05_Same_ok _ _ _ _ hv26 hx65.sat (hs43.mono hG8) (hs44.mono hG8) hs45 hs46) ?_
                                     rintro _ Fx43 _ wx79 hF43 hx66 ⟨rfl, rfl⟩
                                     refine d_next (hx66.sh (((hF39.trans hF40).trans hF42).trans hF43) [0, 1, 2, 3, 4, 5, 6, 7, 8, 9, 10, 11, 12] (by decide) rfl) ?_
                                     refine d_take 34 (v := .bool v55) rfl (by kernel_rfl) (by kernel_rfl) (by kernel_rfl) rfl rfl rfl rfl (hx66.sh (((hF39.trans hF40).trans hF42).trans hF43) [0, 1, 2, 3, 4, 5, 6, 7, 8, 9, 10, 11, 12] (by decide) rfl) (fun _ hC => ?_) ?_
                                     ·obtain ⟨_, _, hleq, hq⟩ := hC
                                      refine r_pick_true rfl rfl rfl rfl (r_nil (qq rfl))
                                     refine d_fin hK11 (by kernel_rfl) (fun a ha => ?_)
                                     cases hb35
                                     exact ⟨_, (hF42.trans hF43), hx66.pick [0, 1, 2, 3, 4, 5, 6, 7, 8, 9, 10, 11, 12] (by decide) rfl, ha.cut (l := [294]) rfl⟩
                                    ·refine d_lit 290 rfl hb36 ?_
                                     refine d_off 31 rfl (by kernel_rfl) (by kernel_rfl) (by kernel_rfl) rfl rfl rfl (hx63.sh (hF39.trans hF40) [0, 1, 2, 3, 4, 5, 6, 7, 8, 9, 10, 11, 12] (by decide) rfl) ?_
                                     refine d_off 32 rfl (by kernel_rfl) (by kernel_rfl) (by kernel_rfl) rfl rfl rfl (hx63.sh (hF39.trans hF40) [0, 1, 2, 3, 4, 5, 6, 7, 8, 9, 10, 11, 12] (by decide) rfl) ?_
                                     refine d_off 33 rfl (by kernel_rfl) (by kernel_rfl) (by kernel_rfl) rfl rfl rfl (hx63.sh (hF39.trans hF40) [0, 1, 2, 3, 4, 5, 6, 7, 8, 9, 10, 11, 12] (by decide) rfl) ?_
                                     refine d_take 34 (v := .bool false) rfl (by kernel_rfl) (by kernel_rfl) (by kernel_rfl) rfl rfl rfl rfl (hx63.sh (hF39.trans hF40) [0, 1, 2, 3, 4, 5, 6, 7, 8, 9, 10, 11, 12] (by decide) rfl) (fun _ hC => ?_) ?_
                                     ·obtain ⟨_, _, hleq, hq⟩ := hC
                                      refine r_pick_false rfl rfl rfl rfl (r_nil (qq rfl))
                                     refine d_fin hK11 (by kernel_rfl) (fun a ha => ?_)
                                     cases hb35
                                     exact ⟨_, Frz.refl _, hx63.pick [0, 1, 2, 3, 4, 5, 6, 7, 8, 9, 10, 11, 12] (by decide) rfl, ha.cut (l := [294]) rfl⟩
                                  ·clear hm
                                   rcases cond_some hb34 with ⟨hb37, hb34⟩ | ⟨hb37, hb34⟩
                                   ·refine d_lit 284 rfl hb37 ?_
                                    refine d_take 25 (v := .agg #[.int .i64 v35.1.P.Sign, .slice as29 ns29 cs29, .int .i64 v35.1.Q.Sign, .slice as30 ns30 cs30]) rfl (by kernel_rfl) (by kernel_rfl) (by kernel_rfl) rfl rfl rfl rfl (hx62.sh hF39 [0, 1, 2, 3, 4, 5, 6, 7, 8, 9, 10, 11, 12] (by decide) rfl) (fun _ hC => ?_) ?_
                                    ·obtain ⟨_, _, hleq, hq⟩ := hC
                                     refine r_loadBA (cs' := [.int .i64 v35.1.P.Sign, .slice as29 ns29 cs29, .int .i64 v35.1.Q.Sign, .slice as30 ns30 cs30]) ag26 sz26 rfl rfl hq rfl (i := 4) rfl rfl rfl (r_nil (qq rfl))
                                    refine d_take 26 (v := .agg #[.int .i64 v37.1.P.Sign, .slice as33 ns33 cs33, .int .i64 v37.1.Q.Sign, .slice as34 ns34 cs34]) rfl (by kernel_rfl) (by kernel_rfl) (by kernel_rfl) rfl rfl rfl rfl (hx62.sh hF39 [0, 1, 2, 3, 4, 5, 6, 7, 8, 9, 10, 11, 12] (by decide) rfl) (fun _ hC => ?_) ?_
                                    ·obtain ⟨_, _, hleq, hq⟩ := hC
                                     refine r_loadBA (cs' := [.int .i64 v37.1.P.Sign, .slice as33 ns33 cs33, .int .i64 v37.1.Q.Sign, .slice as34 ns34 cs34]) ag26 sz26 rfl rfl hq rfl (i := 3) rfl rfl rfl (r_nil (qq rfl))
                                    refine d_step 27 rfl (by kernel_rfl) ?_
                                    have hG9 := (((hG7.trans hF36).trans hF37).trans hF38).trans hF39
                                    have hG10 := (((((((hF31.trans hF32).trans hF33).trans hF34).trans hF35).trans hF36).trans hF37).trans hF38).trans hF39
                                    obtain ⟨v56, hv27, hb34⟩ := bind_some hb34
                                    refine r_callG0 ent27 rfl rfl rfl rfl hx62 (frac_Compare_ok _ _ _ _ hv27 hx62.sat (hs29.mono hG9) (hs30.mono hG9) (hs33.mono hG10) (hs34.mono hG10)) ?_
                                    rintro _ Fx44 _ wx80 hF44 hx67 ⟨rfl, rfl⟩
                                    refine d_next (hx67.sh (hF39.trans hF44) [0, 1, 2, 3, 4, 5, 6, 7, 8, 9, 10, 11, 12] (by decide) rfl) ?_
                                    refine d_take 28 (v := .bool (decide (v56 ≤ 0))) rfl (by kernel_rfl) (by kernel_rfl) (by kernel_rfl) rfl rfl rfl rfl (hx67.sh (hF39.trans hF44) [0, 1, 2, 3, 4, 5, 6, 7, 8, 9, 10, 11, 12] (by decide) rfl) (fun _ hC => ?_) ?_
                                    ·obtain ⟨_, _, hleq, hq⟩ := hC
                                     refine r_bin rfl rfl rfl rfl rfl (r_nil (qq rfl))
                                    refine d_take 29 (v := .bool (decide (v56 ≤ 0))) rfl (by kernel_rfl) (by kernel_rfl) (by kernel_rfl) rfl rfl rfl rfl (hx67.sh (hF39.trans hF44) [0, 1, 2, 3, 4, 5, 6, 7, 8, 9, 10, 11, 12] (by decide) rfl) (fun _ hC => ?_) ?_
                                    ·obtain ⟨_, _, hleq, hq⟩ := hC
                                     refine r_pick_true rfl rfl rfl rfl (r_nil (qq rfl))
                                    refine d_fin hK10 (by kernel_rfl) (fun a ha => ?_)
                                    cases hb34
                                    exact ⟨_, hF44, hx67.pick [0, 1, 2, 3, 4, 5, 6, 7, 8, 9, 10, 11, 12] (by decide) rfl, ha.cut (l := [23, 289]) rfl⟩
                                   ·refine d_lit 284 rfl hb37 ?_
                                    refine d_off 25 rfl (by kernel_rfl) (by kernel_rfl) (by kernel_rfl) rfl rfl rfl (hx62.sh hF39 [0, 1, 2, 3, 4, 5, 6, 7, 8, 9, 10, 11, 12] (by decide) rfl) ?_
                                    refine d_off 26 rfl (by kernel_rfl) (by kernel_rfl) (by kernel_rfl) rfl rfl rfl (hx62.sh hF39 [0, 1, 2, 3, 4, 5, 6, 7, 8, 9, 10, 11, 12] (by decide) rfl) ?_
                                    refine d_off 27 rfl (by kernel_rfl) (by kernel_rfl) (by kernel_rfl) rfl rfl rfl (hx62.sh hF39 [0, 1, 2, 3, 4, 5, 6, 7, 8, 9, 10, 11, 12] (by decide) rfl) ?_
                                    refine d_off 28 rfl (by kernel_rfl) (by kernel_rfl) (by kernel_rfl) rfl rfl rfl (hx62.sh hF39 [0, 1, 2, 3, 4, 5, 6, 7, 8, 9, 10, 11, 12] (by decide) rfl) ?_
                                    refine d_take 29 (v := .bool false) rfl (by kernel_rfl) (by kernel_rfl) (by kernel_rfl) rfl rfl rfl rfl (hx62.sh hF39 [0, 1, 2, 3, 4, 5, 6, 7, 8, 9, 10, 11, 12] (by decide) rfl) (fun _ hC => ?_) ?_
                                    ·obtain ⟨_, _, hleq, hq⟩ := hC
                                     refine r_pick_false rfl rfl rfl rfl (r_nil (qq rfl))
                                    refine d_fin hK10 (by kernel_rfl) (fun a ha => ?_)
                                    cases hb34
                                    exact ⟨_, Frz.refl _, hx62.pick [0, 1, 2, 3, 4, 5, 6, 7, 8, 9, 10, 11, 12] (by decide) rfl, ha.cut (l := [23, 289]) rfl⟩
                                 ·clear hm
                                  rcases cond_some hb33 with ⟨hb38, hb33⟩ | ⟨hb38, hb33⟩
                                  ·refine d_lit 279 rfl hb38 ?_
                                   refine d_take 20 (v := .agg #[.int .i64 v39.1.P.Sign, .slice as37 ns37 cs37, .int .i64 v39.1.Q.Sign, .slice as38 ns38 cs38]) rfl (by kernel_rfl) (by kernel_rfl) (by kernel_rfl) rfl rfl rfl rfl (hx61.sh (Frz.refl _) [0, 1, 2, 3, 4, 5, 6, 7, 8, 9, 10, 11, 12] (by decide) rfl) (fun _ hC => ?_) ?_
                                   ·obtain ⟨_, _, hleq, hq⟩ := hC
                                    refine r_loadBA (cs' := [.int .i64 v39.1.P.Sign, .slice as37 ns37 cs37, .int .i64 v39.1.Q.Sign, .slice as38 ns38 cs38]) ag26 sz26 rfl rfl hq rfl (i := 2) rfl rfl rfl (r_nil (qq rfl))
                                   refine d_take 21 (v := .agg #[.int .i64 v41.1.P.Sign, .slice as41 ns41 cs41, .int .i64 v41.1.Q.Sign, .slice as42 ns42 cs42]) rfl (by kernel_rfl) (by kernel_rfl) (by kernel_rfl) rfl rfl rfl rfl (hx61.sh (Frz.refl _) [0, 1, 2, 3, 4, 5, 6, 7, 8, 9, 10, 11, 12] (by decide) rfl) (fun _ hC => ?_) ?_
                                   ·obtain ⟨_, _, hleq, hq⟩ := hC
                                    refine r_loadBA (cs' := [.int .i64 v41.1.P.Sign, .slice as41 ns41 cs41, .int .i64 v41.1.Q.Sign, .slice as42 ns42 cs42]) ag26 sz26 rfl rfl hq rfl (i := 1) rfl rfl rfl (r_nil (qq rfl))
                                   refine d_step 22 rfl (by kernel_rfl) ?_
                                   have hG11 := ((((hF33.trans hF34).trans hF35).trans hF36).trans hF37).trans hF38
                                   have hG12 := ((hF35.trans hF36).trans hF37).trans hF38
                                   obtain ⟨v57, hv28, hb33⟩ := bind_some hb33
                                   refine r_callG0 ent14 rfl rfl rfl rfl hx61 (ref05_Same_ok _ _ _ _ hv28 hx61.sat (hs37.mono hG11) (hs38.mono hG11) (hs41.mono hG12) (hs42.mono hG12)) ?_
                                   rintro _ Fx45 _ wx81 hF45 hx68 ⟨rfl, rfl⟩
                                   refine d_next (hx68.sh hF45 [0, 1, 2, 3, 4, 5, 6, 7, 8, 9, 10, 11, 12] (by decide) rfl) ?_
                                   refine d_take 23 (v := .bool v57) rfl (by kernel_rfl) (by kernel_rfl) (by kernel_rfl) rfl rfl rfl rfl (hx68.sh hF45 [0, 1, 2, 3, 4, 5, 6, 7, 8, 9, 10, 11, 12] (by decide) rfl) (fun _ hC => ?_) ?_
                                   ·obtain ⟨_, _, hleq, hq⟩ := hC
                                    refine r_pick_true rfl rfl rfl rfl (r_nil (qq rfl))
                                   refine d_fin hK9 (by kernel_rfl) (fun a ha => ?_)
                                   cases hb33
                                   exact ⟨_, hF45, hx68.pick [0, 1, 2, 3, 4, 5, 6, 7, 8, 9, 10, 11, 12] (by decide) rfl, ha.cut (l := [19, 20, 23, 283]) rfl⟩
                                  ·refine d_lit 279 rfl hb38 ?_
                                   refine d_off 20 rfl (by kernel_rfl) (by kernel_rfl) (by kernel_rfl) rfl rfl rfl (hx61.sh (Frz.refl _) [0, 1, 2, 3, 4, 5, 6, 7, 8, 9, 10, 11, 12] (by decide) rfl) ?_
                                   refine d_off 21 rfl (by kernel_rfl) (by kernel_rfl) (by kernel_rfl) rfl rfl rfl (hx61.sh (Frz.refl _) [0, 1, 2, 3, 4, 5, 6, 7, 8, 9, 10, 11, 12] (by decide) rfl) ?_
                                   refine d_off 22 rfl (by kernel_rfl) (by kernel_rfl) (by kernel_rfl) rfl rfl rfl (hx61.sh (Frz.refl _) [0, 1, 2, 3, 4, 5, 6, 7, 8, 9, 10, 11, 12] (by decide) rfl) ?_
                                   refine d_take 23 (v := .bool false) rfl (by kernel_rfl) (by kernel_rfl) (by kernel_rfl) rfl rfl rfl rfl (hx61.sh (Frz.refl _) [0, 1, 2, 3, 4, 5, 6, 7, 8, 9, 10, 11, 12] (by decide) rfl) (fun _ hC => ?_) ?_
                                   ·obtain ⟨_, _, hleq, hq⟩ := hC
                                    refine r_pick_false rfl rfl rfl rfl (r_nil (qq rfl))
                                   refine d_fin hK9 (by kernel_rfl) (fun a ha => ?_)
                                   cases hb33
                                   exact ⟨_, Frz.refl _, hx61.pick [0, 1, 2, 3, 4, 5, 6, 7, 8, 9, 10, 11, 12] (by decide) rfl, ha.cut (l := [19, 20, 23, 283]) rfl⟩
                                ·clear hm
                                 rcases cond_some hb32 with ⟨hb39, hb32⟩ | ⟨hb39, hb32⟩
                                 ·refine d_lit 276 rfl hb39 ?_
                                  refine d_take 17 (v := .bool v44) rfl (by kernel_rfl) (by kernel_rfl) (by kernel_rfl) rfl rfl rfl rfl (hx61.sh (Frz.refl _) [0, 1, 2, 3, 4, 5, 6, 7, 8, 9, 10, 11, 12] (by decide) rfl) (fun _ hC => ?_) ?_
                                  ·obtain ⟨_, _, hleq, hq⟩ := hC
                                   refine r_move rfl rfl rfl (r_nil (qq rfl))
                                  refine d_take 18 (v := .bool v44) rfl (by kernel_rfl) (by kernel_rfl) (by kernel_rfl) rfl rfl rfl rfl (hx61.sh (Frz.refl _) [0, 1, 2, 3, 4, 5, 6, 7, 8, 9, 10, 11, 12] (by decide) rfl) (fun _ hC => ?_) ?_
                                  ·obtain ⟨_, _, hleq, hq⟩ := hC
                                   refine r_pick_true rfl rfl rfl rfl (r_nil (qq rfl))
                                  refine d_fin hK8 (by kernel_rfl) (fun a ha => ?_)
                                  cases hb32
                                  exact ⟨rfl, ha.cut (l := [19, 20, 21, 22, 23, 278]) rfl⟩
                                 ·refine d_lit 276 rfl hb39 ?_
                                  refine d_off 17 rfl (by kernel_rfl) (by kernel_rfl) (by kernel_rfl) rfl rfl rfl (hx61.sh (Frz.refl _) [0, 1, 2, 3, 4, 5, 6, 7, 8, 9, 10, 11, 12] (by decide) rfl) ?_
                                  refine d_take 18 (v := .bool false) rfl (by kernel_rfl) (by kernel_rfl) (by kernel_rfl) rfl rfl rfl rfl (hx61.sh (Frz.refl _) [0, 1, 2, 3, 4, 5, 6, 7, 8, 9, 10, 11, 12] (by decide) rfl) (fun _ hC => ?_) ?_
                                  ·obtain ⟨_, _, hleq, hq⟩ := hC
                                   refine r_pick_false rfl rfl rfl rfl (r_nil (qq rfl))
                                  refine d_fin hK8 (by kernel_rfl) (fun a ha => ?_)
                                  cases hb32
                                  exact ⟨rfl, ha.cut (l := [19, 20, 21, 22, 23, 278]) rfl⟩
                               ·clear hm
                                rcases cond_some hb31 with ⟨hb40, hb31⟩ | ⟨hb40, hb31⟩
                                ·refine d_lit 273 rfl hb40 ?_
                                 refine d_take 14 (v := .bool five1) rfl (by kernel_rfl) (by kernel_rfl) (by kernel_rfl) rfl rfl rfl rfl (hx61.sh (Frz.refl _) [0, 1, 2, 3, 4, 5, 6, 7, 8, 9, 10, 11, 12] (by decide) rfl) (fun _ hC => ?_) ?_
                                 ·obtain ⟨_, _, hleq, hq⟩ := hC
                                  refine r_move rfl rfl rfl (r_nil (qq rfl))
                                 refine d_take 15 (v := .bool five1) rfl (by kernel_rfl) (by kernel_rfl) (by kernel_rfl) rfl rfl rfl rfl (hx61.sh (Frz.refl _) [0, 1, 2, 3, 4, 5, 6, 7, 8, 9, 10, 11, 12] (by decide) rfl) (fun _ hC => ?_) ?_
                                 ·obtain ⟨_, _, hleq, hq⟩ := hC
                                  refine r_pick_true rfl rfl rfl rfl (r_nil (qq rfl))
                                 refine d_fin hK7 (by kernel_rfl) (fun a ha => ?_)
                                 cases hb31
                                 exact ⟨rfl, ha.cut (l := [19, 20, 21, 22, 23, 24, 275]) rfl⟩
                                ·refine d_lit 273 rfl hb40 ?_
                                 refine d_off 14 rfl (by kernel_rfl) (by kernel_rfl) (by kernel_rfl) rfl rfl rfl (hx61.sh (Frz.refl _) [0, 1, 2, 3, 4, 5, 6, 7, 8, 9, 10, 11, 12] (by decide) rfl) ?_
                                 refine d_take 15 (v := .bool false) rfl (by kernel_rfl) (by kernel_rfl) (by kernel_rfl) rfl rfl rfl rfl (hx61.sh (Frz.refl _) [0, 1, 2, 3, 4, 5, 6, 7, 8, 9, 10, 11, 12] (by decide) rfl) (fun _ hC => ?_) ?_
                                 ·obtain ⟨_, _, hleq, hq⟩ := hC
                                  refine r_pick_false rfl rfl rfl rfl (r_nil (qq rfl))
                                 refine d_fin hK7 (by kernel_rfl) (fun a ha => ?_)
                                 cases hb31
                                 exact ⟨rfl, ha.cut (l := [19, 20, 21, 22, 23, 24, 275]) rfl⟩
                              ·clear hm
                               rcases cond_some hb30 with ⟨hb41, hb30⟩ | ⟨hb41, hb30⟩
                               ·refine d_lit 270 rfl hb41 ?_
                                refine d_take 11 (v := .bool v41.2) rfl (by kernel_rfl) (by kernel_rfl) (by kernel_rfl) rfl rfl rfl rfl (hx61.sh (Frz.refl _) [0, 1, 2, 3, 4, 5, 6, 7, 8, 9, 10, 11, 12] (by decide) rfl) (fun _ hC => ?_) ?_
                                ·obtain ⟨_, _, hleq, hq⟩ := hC
                                 refine r_move rfl rfl rfl (r_nil (qq rfl))
                                refine d_take 12 (v := .bool v41.2) rfl (by kernel_rfl) (by kernel_rfl) (by kernel_rfl) rfl rfl rfl rfl (hx61.sh (Frz.refl _) [0, 1, 2, 3, 4, 5, 6, 7, 8, 9, 10, 11, 12] (by decide) rfl) (fun _ hC => ?_) ?_
                                ·obtain ⟨_, _, hleq, hq⟩ := hC
                                 refine r_pick_true rfl rfl rfl rfl (r_nil (qq rfl))
                                refine d_fin hK6 (by kernel_rfl) (fun a ha => ?_)
                                cases hb30
                                exact ⟨rfl, ha.cut (l := [18, 19, 20, 21, 22, 23, 24, 272]) rfl⟩
                               ·refine d_lit 270 rfl hb41 ?_
                                refine d_off 11 rfl (by kernel_rfl) (by kernel_rfl) (by kernel_rfl) rfl rfl rfl (hx61.sh (Frz.refl _) [0, 1, 2, 3, 4, 5, 6, 7, 8, 9, 10, 11, 12] (by decide) rfl) ?_
                                refine d_take 12 (v := .bool false) rfl (by kernel_rfl) (by kernel_rfl) (by kernel_rfl) rfl rfl rfl rfl (hx61.sh (Frz.refl _) [0, 1, 2, 3, 4, 5, 6, 7, 8, 9, 10, 11, 12] (by decide) rfl) (fun _ hC => ?_) ?_
                                ·obtain ⟨_, _, hleq, hq⟩ := hC
                                 refine r_pick_false rfl rfl rfl rfl (r_nil (qq rfl))
                                refine d_fin hK6 (by kernel_rfl) (fun a ha => ?_)
                                cases hb30
                                exact ⟨rfl, ha.cut (l := [18, 19, 20, 21, 22, 23, 24, 272]) rfl⟩
                             ·clear hm
                              rcases cond_some hb29 with ⟨hb42, hb29⟩ | ⟨hb42, hb29⟩
                              ·refine d_lit 267 rfl hb42 ?_
                               refine d_take 8 (v := .bool v39.2) rfl (by kernel_rfl) (by kernel_rfl) (by kernel_rfl) rfl rfl rfl rfl (hx61.sh (Frz.refl _) [0, 1, 2, 3, 4, 5, 6, 7, 8, 9, 10, 11, 12] (by decide) rfl) (fun _ hC => ?_) ?_
                               ·obtain ⟨_, _, hleq, hq⟩ := hC
                                refine r_move rfl rfl rfl (r_nil (qq rfl))
                               refine d_take 9 (v := .bool v39.2) rfl (by kernel_rfl) (by kernel_rfl) (by kernel_rfl) rfl rfl rfl rfl (hx61.sh (Frz.refl _) [0, 1, 2, 3, 4, 5, 6, 7, 8, 9, 10, 11, 12] (by decide) rfl) (fun _ hC => ?_) ?_
                               ·obtain ⟨_, _, hleq, hq⟩ := hC
                                refine r_pick_true rfl rfl rfl rfl (r_nil (qq rfl))
                               refine d_fin hK5 (by kernel_rfl) (fun a ha => ?_)
                               cases hb29
                               exact ⟨rfl, ha.cut (l := [16, 18, 19, 20, 21, 22, 23, 24, 269]) rfl⟩
                              ·refine d_lit 267 rfl hb42 ?_
                               refine d_off 8 rfl (by kernel_rfl) (by kernel_rfl) (by kernel_rfl) rfl rfl rfl (hx61.sh (Frz.refl _) [0, 1, 2, 3, 4, 5, 6, 7, 8, 9, 10, 11, 12] (by decide) rfl) ?_
                               refine d_take 9 (v := .bool false) rfl (by kernel_rfl) (by kernel_rfl) (by kernel_rfl) rfl rfl rfl rfl (hx61.sh (Frz.refl _) [0, 1, 2, 3, 4, 5, 6, 7, 8, 9, 10, 11, 12] (by decide) rfl) (fun _ hC => ?_) ?_
                               ·obtain ⟨_, _, hleq, hq⟩ := hC
                                refine r_pick_false rfl rfl rfl rfl (r_nil (qq rfl))
                               refine d_fin hK5 (by kernel_rfl) (fun a ha => ?_)
                               cases hb29
                               exact ⟨rfl, ha.cut (l := [16, 18, 19, 20, 21, 22, 23, 24, 269]) rfl⟩
                            ·clear hm
                             rcases cond_some hb28 with ⟨hb43, hb28⟩ | ⟨hb43, hb28⟩
                             ·refine d_lit 264 rfl hb43 ?_
                              refine d_take 5 (v := .bool v37.2) rfl (by kernel_rfl) (by kernel_rfl) (by kernel_rfl) rfl rfl rfl rfl (hx61.sh (Frz.refl _) [0, 1, 2, 3, 4, 5, 6, 7, 8, 9, 10, 11, 12] (by decide) rfl) (fun _ hC => ?_) ?_
                              ·obtain ⟨_, _, hleq, hq⟩ := hC
                               refine r_move rfl rfl rfl (r_nil (qq rfl))
                              refine d_take 6 (v := .bool v37.2) rfl (by kernel_rfl) (by kernel_rfl) (by kernel_rfl) rfl rfl rfl rfl (hx61.sh (Frz.refl _) [0, 1, 2, 3, 4, 5, 6, 7, 8, 9, 10, 11, 12] (by decide) rfl) (fun _ hC => ?_) ?_
                              ·obtain ⟨_, _, hleq, hq⟩ := hC
                               refine r_pick_true rfl rfl rfl rfl (r_nil (qq rfl))
                              refine d_fin hK4 (by kernel_rfl) (fun a ha => ?_)
                              cases hb28
                              exact ⟨rfl, ha.cut (l := [14, 16, 18, 19, 20, 21, 22, 23, 24, 266]) rfl⟩
                             ·refine d_lit 264 rfl hb43 ?_
                              refine d_off 5 rfl (by kernel_rfl) (by kernel_rfl) (by kernel_rfl) rfl rfl rfl (hx61.sh (Frz.refl _) [0, 1, 2, 3, 4, 5, 6, 7, 8, 9, 10, 11, 12] (by decide) rfl) ?_
                              refine d_take 6 (v := .bool false) rfl (by kernel_rfl) (by kernel_rfl) (by kernel_rfl) rfl rfl rfl rfl (hx61.sh (Frz.refl _) [0, 1, 2, 3, 4, 5, 6, 7, 8, 9, 10, 11, 12] (by decide) rfl) (fun _ hC => ?_) ?_
                              ·obtain ⟨_, _, hleq, hq⟩ := hC
                               refine r_pick_false rfl rfl rfl rfl (r_nil (qq rfl))
                              refine d_fin hK4 (by kernel_rfl) (fun a ha => ?_)
                              cases hb28
                              exact ⟨rfl, ha.cut (l := [14, 16, 18, 19, 20, 21, 22, 23, 24, 266]) rfl⟩
                           ·clear hm
                            rcases cond_some hb27 with ⟨hb44, hb27⟩ | ⟨hb44, hb27⟩
                            ·refine d_lit 261 rfl hb44 ?_
                             refine d_take 2 (v := .bool v35.2) rfl (by kernel_rfl) (by kernel_rfl) (by kernel_rfl) rfl rfl rfl rfl (hx61.sh (Frz.refl _) [0, 1, 2, 3, 4, 5, 6, 7, 8, 9, 10, 11, 12] (by decide) rfl) (fun _ hC => ?_) ?_
                             ·obtain ⟨_, _, hleq, hq⟩ := hC
                              refine r_move rfl rfl rfl (r_nil (qq rfl))
                             refine d_take 3 (v := .bool v35.2) rfl (by kernel_rfl) (by kernel_rfl) (by kernel_rfl) rfl rfl rfl rfl (hx61.sh (Frz.refl _) [0, 1, 2, 3, 4, 5, 6, 7, 8, 9, 10, 11, 12] (by decide) rfl) (fun _ hC => ?_) ?_
                             ·obtain ⟨_, _, hleq, hq⟩ := hC
                              refine r_pick_true rfl rfl rfl rfl (r_nil (qq rfl))
                             refine d_fin hK3 (by kernel_rfl) (fun a ha => ?_)
                             cases hb27
                             exact ⟨rfl, ha.cut (l := [12, 14, 16, 18, 19, 20, 21, 22, 23, 24, 263]) rfl⟩
                            ·refine d_lit 261 rfl hb44 ?_
                             refine d_off 2 rfl (by kernel_rfl) (by kernel_rfl) (by kernel_rfl) rfl rfl rfl (hx61.sh (Frz.refl _) [0, 1, 2, 3, 4, 5, 6, 7, 8, 9, 10, 11, 12] (by decide) rfl) ?_
                             refine d_take 3 (v := .bool false) rfl (by kernel_rfl) (by kernel_rfl) (by kernel_rfl) rfl rfl rfl rfl (hx61.sh (Frz.refl _) [0, 1, 2, 3, 4, 5, 6, 7, 8, 9, 10, 11, 12] (by decide) rfl) (fun _ hC => ?_) ?_
                             ·obtain ⟨_, _, hleq, hq⟩ := hC
                              refine r_pick_false rfl rfl rfl rfl (r_nil (qq rfl))
                             refine d_fin hK3 (by kernel_rfl) (fun a ha => ?_)
                             cases hb27
                             exact ⟨rfl, ha.cut (l := [12, 14, 16, 18, 19, 20, 21, 22, 23, 24, 263]) rfl⟩
                          ·clear hm
                           rcases cond_some hb26 with ⟨hb45, hb26⟩ | ⟨hb45, hb26⟩
                           ·refine r_lit 250 rfl hb45 ?_
                            refine r_off rfl (by decide) rfl (r_off rfl (by decide) rfl (r_off rfl (by decide) rfl (r_off rfl (by decide) rfl (r_off rfl (by decide) rfl (r_off rfl (by decide) rfl (r_off rfl (by decide) rfl (r_off rfl (by decide) rfl (r_pick_true rfl rfl rfl rfl (r_nil ?_)))))))))
                            refine q_next (fun a ha => ?_)
                            cases hb26
                            exact ⟨_, Frz.refl _, hx59.pick [0, 1, 2, 3, 4, 5, 6, 7, 8, 9, 10, 11, 12] (by decide) rfl, ha.cut (l := [7, 10, 12, 14, 16, 18, 19, 20, 21, 22, 23, 259]) rfl⟩
                           ·refine r_lit 250 rfl hb45 ?_
                            refine r_loadBA (cs' := [.int .i64 v35.1.P.Sign, .slice as29 ns29 cs29, .int .i64 v35.1.Q.Sign, .slice as30 ns30 cs30]) ag26 sz26 rfl rfl hx59 rfl (i := 4) rfl rfl rfl ?_
                            refine r_loadBA (cs' := [.int .i64 b1.P.Sign, .slice as3 ns3 cs3, .int .i64 b1.Q.Sign, .slice as4 ns4 cs4]) ag26 sz26 rfl rfl hx59 rfl (i := 11) rfl rfl rfl ?_
                            have hG13 := ((((hG6.trans hF33).trans hF34).trans hF35).trans hF36).trans hF37
                            obtain ⟨v58, hv29, hb26⟩ := bind_some hb26
                            refine r_callG0 ent14 rfl rfl rfl rfl hx59 (ref05_Same_ok _ _ _ _ hv29 hx59.sat (((hs29.mono hG7).mono hF36).mono hF37) (((hs30.mono hG7).mono hF36).mono hF37) (hs3.mono hG13) (hs4.mono hG13)) ?_
                            rintro _ Fx46 _ wx82 hF46 hx69 ⟨rfl, rfl⟩
                            refine r_move rfl rfl rfl ?_
                            obtain ⟨v59, hb46, hb26⟩ := bind_some hb26
                            refine r_mid 4 (fun a w' => ∃ (Fx47 : Frz), Frz.le Fx46 Fx47 ∧ HS F w [] Fx47 [.box b14 26 [.int .i64 f1, .slice as43 ns43 cs43, .int .i64 f3, .slice as44 ns44 cs44], .box b13 26 [.int .i64 v41.1.P.Sign, .slice as41 ns41 cs41, .int .i64 v41.1.Q.Sign, .slice as42 ns42 cs42], .box b12 26 [.int .i64 v39.1.P.Sign, .slice as37 ns37 cs37, .int .i64 v39.1.Q.Sign, .slice as38 ns38 cs38], .box b11 26 [.int .i64 v37.1.P.Sign, .slice as33 ns33 cs33, .int .i64 v37.1.Q.Sign, .slice as34 ns34 cs34], .box b10 26 [.int .i64 v35.1.P.Sign, .slice as29 ns29 cs29, .int .i64 v35.1.Q.Sign, .slice as30 ns30 cs30], .box b9 26 [.int .i64 v24.1.P.Sign, .slice as25 ns25 cs25, .int .i64 v24.1.Q.Sign, .slice as26 ns26 cs26], .box b8 26 [.int .i64 v22.1.P.Sign, .slice as21 ns21 cs21, .int .i64 v22.1.Q.Sign, .slice as22 ns22 cs22], .box b7 26 [.int .i64 v20.1.P.Sign, .slice as17 ns17 cs17, .int .i64 v20.1.Q.Sign, .slice as18 ns18 cs18], .box b6 26 [.int .i64 v18.1.P.Sign, .slice as13 ns13 cs13, .int .i64 v18.1.Q.Sign, .slice as14 ns14 cs14], .box b5 26 [.int .i64 v16.1.P.Sign, .slice as9 ns9 cs9, .int .i64 v16.1.Q.Sign, .slice as10 ns10 cs10], .box b4 26 [.int .i64 c1.P.Sign, .slice as5 ns5 cs5, .int .i64 c1.Q.Sign, .slice as6 ns6 cs6], .box b3 26 [.int .i64 b1.P.Sign, .slice as3 ns3 cs3, .int .i64 b1.Q.Sign, .slice as4 ns4 cs4], .box b2 26 [.int .i64 ax1.P.Sign, .slice as1 ns1 cs1, .int .i64 ax1.Q.Sign, .slice as2 ns2 cs2]] w' ∧ Has 295 a [(7, .bool v1), (10, .bool v35.2), (12, .bool v37.2), (14, .bool v39.2), (16, .bool v41.2), (18, .bool five1), (19, .pointer (some ⟨b10, 0, none⟩)), (20, .pointer (some ⟨b11, 0, none⟩)), (21, .pointer (some ⟨b12, 0, none⟩)), (22, .pointer (some ⟨b13, 0, none⟩)), (23, .pointer (some ⟨b14, 0, none⟩)), (250, .bool false), (258, .bool v59)]) ?_ ?_
                            ·rintro a wx83 ⟨Fx47, hF47, hx70, hax31⟩
                             refine rw_apply hax31 ?_
                             refine r_pick_false rfl rfl rfl rfl (r_nil ?_)
                             refine q_next (fun a ha => ?_)
                             cases hb26
                             exact ⟨_, (hF46.trans hF47), hx70.pick [0, 1, 2, 3, 4, 5, 6, 7, 8, 9, 10, 11, 12] (by decide) rfl, ha.cut (l := [7, 10, 12, 14, 16, 18, 19, 20, 21, 22, 23, 259]) rfl⟩
                            ·clear hb26
                             rcases cond_some hb46 with ⟨hb47, hb46⟩ | ⟨hb47, hb46⟩
                             ·refine r_lit 254 rfl hb47 ?_
                              refine r_loadBA (cs' := [.int .i64 v37.1.P.Sign, .slice as33 ns33 cs33, .int .i64 v37.1.Q.Sign, .slice as34 ns34 cs34]) ag26 sz26 rfl rfl hx69 rfl (i := 3) rfl rfl rfl ?_
                              refine r_loadBA (cs' := [.int .i64 ax1.P.Sign, .slice as1 ns1 cs1, .int .i64 ax1.Q.Sign, .slice as2 ns2 cs2]) ag26 sz26 rfl rfl hx69 rfl (i := 12) rfl rfl rfl ?_
                              have hG14 := ((((((hF31.trans hF32).trans hF33).trans hF34).trans hF35).trans hF36).trans hF37).trans hF46
                              obtain ⟨v60, hv30, hb46⟩ := bind_some hb46
                              refine r_callG0 ent14 rfl rfl rfl rfl hx69 (ref05_Same_ok _ _ _ _ hv30 hx69.sat (hs33.mono hG14) (hs34.mono hG14) ((hs1.mono hG13).mono hF46) ((hs2.mono hG13).mono hF46)) ?_
                              rintro _ Fx48 _ wx84 hF48 hx71 ⟨rfl, rfl⟩
                              refine r_pick_true rfl rfl rfl rfl (r_nil ?_)
                              refine q_next (fun a ha => ?_)
                              cases hb46
                              exact ⟨_, hF48, hx71.pick [0, 1, 2, 3, 4, 5, 6, 7, 8, 9, 10, 11, 12] (by decide) rfl, ha.cut (l := [7, 10, 12, 14, 16, 18, 19, 20, 21, 22, 23, 250, 258]) rfl⟩
                             ·refine r_lit 254 rfl hb47 ?_
                              refine r_off rfl (by decide) rfl (r_off rfl (by decide) rfl (r_off rfl (by decide) rfl (r_pick_false rfl rfl rfl rfl (r_nil ?_))))
                              refine q_next (fun a ha => ?_)
                              cases hb46
                              exact ⟨_, Frz.refl _, hx69.pick [0, 1, 2, 3, 4, 5, 6, 7, 8, 9, 10, 11, 12] (by decide) rfl, ha.cut (l := [7, 10, 12, 14, 16, 18, 19, 20, 21, 22, 23, 250, 258]) rfl⟩
                         ·clear hm
                          rcases cond_some hb25 with ⟨hb48, hb25⟩ | ⟨hb48, hb25⟩
                          ·refine r_lit 245 rfl hb48 ?_
                           refine r_loadBA (cs' := [.int .i64 v37.1.P.Sign, .slice as33 ns33 cs33, .int .i64 v37.1.Q.Sign, .slice as34 ns34 cs34]) ag26 sz26 rfl rfl hx58 rfl (i := 3) rfl rfl rfl ?_
                           refine r_loadBA (cs' := [.int .i64 b1.P.Sign, .slice as3 ns3 cs3, .int .i64 b1.Q.Sign, .slice as4 ns4 cs4]) ag26 sz26 rfl rfl hx58 rfl (i := 11) rfl rfl rfl ?_
                           have hG15 := ((((hF31.trans hF32).trans hF33).trans hF34).trans hF35).trans hF36
                           have hG16 := (((hG6.trans hF33).trans hF34).trans hF35).trans hF36
                           obtain ⟨v61, hv31, hb25⟩ := bind_some hb25
                           refine r_callG0 ent14 rfl rfl rfl rfl hx58 (ref05_Same_ok _ _ _ _ hv31 hx58.sat (hs33.mono hG15) (hs34.mono hG15) (hs3.mono hG16) (hs4.mono hG16)) ?_
                           rintro _ Fx49 _ wx85 hF49 hx72 ⟨rfl, rfl⟩
                           refine r_pick_true rfl rfl rfl rfl (r_nil ?_)
                           refine q_next (fun a ha => ?_)
                           cases hb25
                           exact ⟨_, hF49, hx72.pick [0, 1, 2, 3, 4, 5, 6, 7, 8, 9, 10, 11, 12] (by decide) rfl, ha.cut (l := [3, 4, 7, 10, 12, 14, 16, 18, 19, 20, 21, 22, 23, 249]) rfl⟩
                          ·refine r_lit 245 rfl hb48 ?_
                           refine r_off rfl (by decide) rfl (r_off rfl (by decide) rfl (r_off rfl (by decide) rfl (r_pick_false rfl rfl rfl rfl (r_nil ?_))))
                           refine q_next (fun a ha => ?_)
                           cases hb25
                           exact ⟨_, Frz.refl _, hx58.pick [0, 1, 2, 3, 4, 5, 6, 7, 8, 9, 10, 11, 12] (by decide) rfl, ha.cut (l := [3, 4, 7, 10, 12, 14, 16, 18, 19, 20, 21, 22, 23, 249]) rfl⟩
                        ·clear hm
                         refine c_regionH (SH Fx34 [.box b13 26 [.int .i64 v41.1.P.Sign, .slice as41 ns41 cs41, .int .i64 v41.1.Q.Sign, .slice as42 ns42 cs42], .box b12 26 [.int .i64 v39.1.P.Sign, .slice as37 ns37 cs37, .int .i64 v39.1.Q.Sign, .slice as38 ns38 cs38], .box b11 26 [.int .i64 v37.1.P.Sign, .slice as33 ns33 cs33, .int .i64 v37.1.Q.Sign, .slice as34 ns34 cs34], .box b10 26 [.int .i64 v35.1.P.Sign, .slice as29 ns29 cs29, .int .i64 v35.1.Q.Sign, .slice as30 ns30 cs30], .box b9 26 [.int .i64 v24.1.P.Sign, .slice as25 ns25 cs25, .int .i64 v24.1.Q.Sign, .slice as26 ns26 cs26], .box b8 26 [.int .i64 v22.1.P.Sign, .slice as21 ns21 cs21, .int .i64 v22.1.Q.Sign, .slice as22 ns22 cs22], .box b7 26 [.int .i64 v20.1.P.Sign, .slice as17 ns17 cs17, .int .i64 v20.1.Q.Sign, .slice as18 ns18 cs18], .box b6 26 [.int .i64 v18.1.P.Sign, .slice as13 ns13 cs13, .int .i64 v18.1.Q.Sign, .slice as14 ns14 cs14], .box b5 26 [.int .i64 v16.1.P.Sign, .slice as9 ns9 cs9, .int .i64 v16.1.Q.Sign, .slice as10 ns10 cs10], .box b4 26 [.int .i64 c1.P.Sign, .slice as5 ns5 cs5, .int .i64 c1.Q.Sign, .slice as6 ns6 cs6], .box b3 26 [.int .i64 b1.P.Sign, .slice as3 ns3 cs3, .int .i64 b1.Q.Sign, .slice as4 ns4 cs4], .box b2 26 [.int .i64 ax1.P.Sign, .slice as1 ns1 cs1, .int .i64 ax1.Q.Sign, .slice as2 ns2 cs2]]) 13 rfl (by kernel_rfl) hx56 ?_
                         intro wx86 hx73
                         refine d_take 0 (v := .agg #[.int .i64 ax1.P.Sign, .slice as1 ns1 cs1, .int .i64 ax1.Q.Sign, .slice as2 ns2 cs2]) rfl (by kernel_rfl) (by kernel_rfl) (by kernel_rfl) rfl rfl rfl rfl (hx73.sh (Frz.refl _) [0, 1, 2, 3, 4, 5, 6, 7, 8, 9, 10, 11] (by decide) rfl) (fun _ hC => ?_) ?_
                         ·obtain ⟨_, _, hleq, hq⟩ := hC
                          refine r_loadBA (cs' := [.int .i64 ax1.P.Sign, .slice as1 ns1 cs1, .int .i64 ax1.Q.Sign, .slice as2 ns2 cs2]) ag26 sz26 rfl rfl hq rfl (i := 11) rfl rfl rfl (r_nil (qq rfl))
                         refine d_take 1 (v := .agg #[.int .i64 ax1.P.Sign, .slice as1 ns1 cs1, .int .i64 ax1.Q.Sign, .slice as2 ns2 cs2]) rfl (by kernel_rfl) (by kernel_rfl) (by kernel_rfl) rfl rfl rfl rfl (hx73.sh (Frz.refl _) [0, 1, 2, 3, 4, 5, 6, 7, 8, 9, 10, 11] (by decide) rfl) (fun _ hC => ?_) ?_
                         ·obtain ⟨_, _, hleq, hq⟩ := hC
                          refine r_loadBA (cs' := [.int .i64 ax1.P.Sign, .slice as1 ns1 cs1, .int .i64 ax1.Q.Sign, .slice as2 ns2 cs2]) ag26 sz26 rfl rfl hq rfl (i := 11) rfl rfl rfl (r_nil (qq rfl))
                         refine d_two 2 10 rfl rfl (by kernel_rfl) ?_ ?_
                         ·obtain ⟨v62, hv32, hb24⟩ := bind_some hb24
                          refine r_callG0 ent34 rfl rfl rfl rfl hx73 (frac_Neg_ok _ _ _ hv32 hx73.sat (((hs1.mono hG6).mono hF33).mono hF34) (((hs2.mono hG6).mono hF33).mono hF34)) ?_
                          rintro _ Fx50 _ wx87 hF50 hx74 ⟨as47, ns47, cs47, as48, ns48, cs48, rfl, rfl, hs47, hs48⟩
                          refine d_next (hx74.sh hF50 [0, 1, 2, 3, 4, 5, 6, 7, 8, 9, 10, 11] (by decide) rfl) ?_
                          refine d_two 3 10 rfl rfl (by kernel_rfl) ?_ ?_
                          ·obtain ⟨v63, hv33, hb24⟩ := bind_some hb24
                           refine r_callG0 ent10 rfl rfl rfl rfl hx74 (frac_Add_ok _ _ _ _ hv33 hx74.sat ((((hs1.mono hG6).mono hF33).mono hF34).mono hF50) ((((hs2.mono hG6).mono hF33).mono hF34).mono hF50) hs47 hs48) ?_
                           rintro _ Fx51 _ wx88 hF51 hx75 ⟨as49, ns49, cs49, as50, ns50, cs50, rfl, rfl, hs49, hs50⟩
                           refine d_next (hx75.sh (hF50.trans hF51) [0, 1, 2, 3, 4, 5, 6, 7, 8, 9, 10, 11] (by decide) rfl) ?_
                           refine d_take 4 (v := .agg #[.int .i64 v63.1.P.Sign, .slice as49 ns49 cs49, .int .i64 v63.1.Q.Sign, .slice as50 ns50 cs50]) rfl (by kernel_rfl) (by kernel_rfl) (by kernel_rfl) rfl rfl rfl rfl (hx75.sh (hF50.trans hF51) [0, 1, 2, 3, 4, 5, 6, 7, 8, 9, 10, 11] (by decide) rfl) (fun _ hC => ?_) ?_
                           ·obtain ⟨_, _, hleq, hq⟩ := hC
                            refine r_extract rfl rfl rfl rfl (r_nil (qq rfl))
                           refine d_take 5 (v := .int .i64 v63.2) rfl (by kernel_rfl) (by kernel_rfl) (by kernel_rfl) rfl rfl rfl rfl (hx75.sh (hF50.trans hF51) [0, 1, 2, 3, 4, 5, 6, 7, 8, 9, 10, 11] (by decide) rfl) (fun _ hC => ?_) ?_
                           ·obtain ⟨_, _, hleq, hq⟩ := hC
                            refine r_extract rfl rfl rfl rfl (r_nil (qq rfl))
                           refine d_two 6 10 rfl rfl (by kernel_rfl) ?_ ?_
                           ·obtain ⟨v64, hv34, hb24⟩ := bind_some hb24
                            refine r_callG0 ent45 rfl rfl rfl rfl hx75 (law05_right_ok _ _ _ _ hv34 hx75.sat hs49 hs50) ?_
                            rintro _ Fx52 _ wx89 hF52 hx76 ⟨as51, ns51, cs51, as52, ns52, cs52, rfl, rfl, hs51, hs52⟩
                            refine d_next (hx76.sh ((hF50.trans hF51).trans hF52) [0, 1, 2, 3, 4, 5, 6, 7, 8, 9, 10, 11] (by decide) rfl) ?_
                            refine d_take 7 (v := .tuple #[.agg #[.int .i64 v64.1.P.Sign, .slice as51 ns51 cs51, .int .i64 v64.1.Q.Sign, .slice as52 ns52 cs52], .bool v64.2]) rfl (by kernel_rfl) (by kernel_rfl) (by kernel_rfl) rfl rfl rfl rfl (hx76.sh ((hF50.trans hF51).trans hF52) [0, 1, 2, 3, 4, 5, 6, 7, 8, 9, 10, 11] (by decide) rfl) (fun _ hC => ?_) ?_
                            ·obtain ⟨_, _, hleq, hq⟩ := hC
                             refine r_move rfl rfl rfl (r_nil (qq rfl))
                            refine d_take 8 (v := .agg #[.int .i64 v64.1.P.Sign, .slice as51 ns51 cs51, .int .i64 v64.1.Q.Sign, .slice as52 ns52 cs52]) rfl (by kernel_rfl) (by kernel_rfl) (by kernel_rfl) rfl rfl rfl rfl (hx76.sh ((hF50.trans hF51).trans hF52) [0, 1, 2, 3, 4, 5, 6, 7, 8, 9, 10, 11] (by decide) rfl) (fun _ hC => ?_) ?_
                            ·obtain ⟨_, _, hleq, hq⟩ := hC
                             refine r_extract rfl rfl rfl rfl (r_nil (qq rfl))
                            refine d_take 9 (v := .bool v64.2) rfl (by kernel_rfl) (by kernel_rfl) (by kernel_rfl) rfl rfl rfl rfl (hx76.sh ((hF50.trans hF51).trans hF52) [0, 1, 2, 3, 4, 5, 6, 7, 8, 9, 10, 11] (by decide) rfl) (fun _ hC => ?_) ?_
                            ·obtain ⟨_, _, hleq, hq⟩ := hC
                             refine r_extract rfl rfl rfl rfl (r_nil (qq rfl))
                            refine d_step 10 rfl (by kernel_rfl) ?_
                            refine r_alloc ze26 rfl rfl rfl hx76 ?_
                            intro b15 wx90 hx77
                            refine d_next (hx77.sh ((hF50.trans hF51).trans hF52) [1, 2, 3, 4, 5, 6, 7, 8, 9, 10, 11, 12] (by decide) rfl) ?_
                            refine d_step 11 rfl (by kernel_rfl) ?_
                            refine r_store sz26 rfl hx77 rfl rfl rfl rfl (i := 0) rfl rfl rfl rfl ?_
                            intro wx91 hx78
                            refine d_next (hx78.sh ((hF50.trans hF51).trans hF52) [1, 2, 3, 4, 5, 6, 7, 8, 9, 10, 11, 12] (by decide) rfl) ?_
                            refine d_take 12 (v := .bool v64.2) rfl (by kernel_rfl) (by kernel_rfl) (by kernel_rfl) rfl rfl rfl rfl (hx78.sh ((hF50.trans hF51).trans hF52) [1, 2, 3, 4, 5, 6, 7, 8, 9, 10, 11, 12] (by decide) rfl) (fun _ hC => ?_) ?_
                            ·obtain ⟨_, _, hleq, hq⟩ := hC
                             refine r_assign rfl rfl rfl (r_nil (qq rfl))
                            refine d_done (by kernel_rfl) ?_
                            refine q_next (fun a ha => ?_)
                            cases hb24
                            exact ⟨_, b15, as51, ns51, cs51, as52, ns52, cs52, ((hF50.trans hF51).trans hF52), hx78.pick [0, 1, 2, 3, 4, 5, 6, 7, 8, 9, 10, 11, 12] (by decide) rfl, hs51, hs52, ha.cut (l := [3, 4, 7, 10, 12, 14, 16, 18, 19, 20, 21, 22, 23]) rfl⟩
                           ·refine r_alloc ze26 rfl rfl rfl hx75 ?_
                            intro b15 wx89 hx76
                            refine d_next (hx76.sh (hF50.trans hF51) [1, 2, 3, 4, 5, 6, 7, 8, 9, 10, 11, 12] (by decide) rfl) ?_
                            refine d_step 6 rfl (by kernel_rfl) ?_
                            obtain ⟨v64, hv34, hb24⟩ := bind_some hb24
                            refine r_callG0 ent45 rfl rfl rfl rfl hx76 (law05_right_ok _ _ _ _ hv34 hx76.sat hs49 hs50) ?_
                            rintro _ Fx52 _ wx90 hF52 hx77 ⟨as51, ns51, cs51, as52, ns52, cs52, rfl, rfl, hs51, hs52⟩
                            refine d_next (hx77.sh ((hF50.trans hF51).trans hF52) [1, 2, 3, 4, 5, 6, 7, 8, 9, 10, 11, 12] (by decide) rfl) ?_
                            refine d_take 7 (v := .tuple #[.agg #[.int .i64 v64.1.P.Sign, .slice as51 ns51 cs51, .int .i64 v64.1.Q.Sign, .slice as52 ns52 cs52], .bool v64.2]) rfl (by kernel_rfl) (by kernel_rfl) (by kernel_rfl) rfl rfl rfl rfl (hx77.sh ((hF50.trans hF51).trans hF52) [1, 2, 3, 4, 5, 6, 7, 8, 9, 10, 11, 12] (by decide) rfl) (fun _ hC => ?_) ?_
                            ·obtain ⟨_, _, hleq, hq⟩ := hC
                             refine r_move rfl rfl rfl (r_nil (qq rfl))
                            refine d_take 8 (v := .agg #[.int .i64 v64.1.P.Sign, .slice as51 ns51 cs51, .int .i64 v64.1.Q.Sign, .slice as52 ns52 cs52]) rfl (by kernel_rfl) (by kernel_rfl) (by kernel_rfl) rfl rfl rfl rfl (hx77.sh ((hF50.trans hF51).trans hF52) [1, 2, 3, 4, 5, 6, 7, 8, 9, 10, 11, 12] (by decide) rfl) (fun _ hC => ?_) ?_
                            ·obtain ⟨_, _, hleq, hq⟩ := hC
                             refine r_extract rfl rfl rfl rfl (r_nil (qq rfl))
                            refine d_take 9 (v := .bool v64.2) rfl (by kernel_rfl) (by kernel_rfl) (by kernel_rfl) rfl rfl rfl rfl (hx77.sh ((hF50.trans hF51).trans hF52) [1, 2, 3, 4, 5, 6, 7, 8, 9, 10, 11, 12] (by decide) rfl) (fun _ hC => ?_) ?_
                            ·obtain ⟨_, _, hleq, hq⟩ := hC
                             refine r_extract rfl rfl rfl rfl (r_nil (qq rfl))
                            refine d_step 11 rfl (by kernel_rfl) ?_
                            refine r_store sz26 rfl hx77 rfl rfl rfl rfl (i := 0) rfl rfl rfl rfl ?_
                            intro wx91 hx78
                            refine d_next (hx78.sh ((hF50.trans hF51).trans hF52) [1, 2, 3, 4, 5, 6, 7, 8, 9, 10, 11, 12] (by decide) rfl) ?_
                            refine d_take 12 (v := .bool v64.2) rfl (by kernel_rfl) (by kernel_rfl) (by kernel_rfl) rfl rfl rfl rfl (hx78.sh ((hF50.trans hF51).trans hF52) [1, 2, 3, 4, 5, 6, 7, 8, 9, 10, 11, 12] (by decide) rfl) (fun _ hC => ?_) ?_
                            ·obtain ⟨_, _, hleq, hq⟩ := hC
                             refine r_assign rfl rfl rfl (r_nil (qq rfl))
                            refine d_done (by kernel_rfl) ?_
                            refine q_next (fun a ha => ?_)
                            cases hb24
                            exact ⟨_, b15, as51, ns51, cs51, as52, ns52, cs52, ((hF50.trans hF51).trans hF52), hx78.pick [0, 1, 2, 3, 4, 5, 6, 7, 8, 9, 10, 11, 12] (by decide) rfl, hs51, hs52, ha.cut (l := [3, 4, 7, 10, 12, 14, 16, 18, 19, 20, 21, 22, 23]) rfl⟩
                          ·refine r_alloc ze26 rfl rfl rfl hx74 ?_
                           intro b15 wx88 hx75
                           refine d_next (hx75.sh hF50 [1, 2, 3, 4, 5, 6, 7, 8, 9, 10, 11, 12] (by decide) rfl) ?_
                           refine d_step 3 rfl (by kernel_rfl) ?_
                           obtain ⟨v63, hv33, hb24⟩ := bind_some hb24
                           refine r_callG0 ent10 rfl rfl rfl rfl hx75 (frac_Add_ok _ _ _ _ hv33 hx75.sat ((((hs1.mono hG6).mono hF33).mono hF34).mono hF50) ((((hs2.mono hG6).mono hF33).mono hF34).mono hF50) hs47 hs48) ?_
                           rintro _ Fx51 _ wx89 hF51 hx76 ⟨as49, ns49, cs49, as50, ns50, cs50, rfl, rfl, hs49, hs50⟩
                           refine d_next (hx76.sh (hF50.trans hF51) [1, 2, 3, 4, 5, 6, 7, 8, 9, 10, 11, 12] (by decide) rfl) ?_
                           refine d_take 4 (v := .agg #[.int .i64 v63.1.P.Sign, .slice as49 ns49 cs49, .int .i64 v63.1.Q.Sign, .slice as50 ns50 cs50]) rfl (by kernel_rfl) (by kernel_rfl) (by kernel_rfl) rfl rfl rfl rfl (hx76.sh (hF50.trans hF51) [1, 2, 3, 4, 5, 6, 7, 8, 9, 10, 11, 12] (by decide) rfl) (fun _ hC => ?_) ?_
                           ·obtain ⟨_, _, hleq, hq⟩ := hC
                            refine r_extract rfl rfl rfl rfl (r_nil (qq rfl))
                           refine d_take 5 (v := .int .i64 v63.2) rfl (by kernel_rfl) (by kernel_rfl) (by kernel_rfl) rfl rfl rfl rfl (hx76.sh (hF50.trans hF51) [1, 2, 3, 4, 5, 6, 7, 8, 9, 10, 11, 12] (by decide) rfl) (fun _ hC => ?_) ?_
                           ·obtain ⟨_, _, hleq, hq⟩ := hC
                            refine r_extract rfl rfl rfl rfl (r_nil (qq rfl))
                           refine d_step 6 rfl (by kernel_rfl) ?_
                           obtain ⟨v64, hv34, hb24⟩ := bind_some hb24
                           refine r_callG0 ent45 rfl rfl rfl rfl hx76 (law05_right_ok _ _ _ _ hv34 hx76.sat hs49 hs50) ?_
                           rintro _ Fx52 _ wx90 hF52 hx77 ⟨as51, ns51, cs51, as52, ns52, cs52, rfl, rfl, hs51, hs52⟩
                           refine d_next (hx77.sh ((hF50.trans hF51).trans hF52) [1, 2, 3, 4, 5, 6, 7, 8, 9, 10, 11, 12] (by decide) rfl) ?_
                           refine d_take 7 (v := .tuple #[.agg #[.int .i64 v64.1.P.Sign, .slice as51 ns51 cs51, .int .i64 v64.1.Q.Sign, .slice as52 ns52 cs52], .bool v64.2]) rfl (by kernel_rfl) (by kernel_rfl) (by kernel_rfl) rfl rfl rfl rfl (hx77.sh ((hF50.trans hF51).trans hF52) [1, 2, 3, 4, 5, 6, 7, 8, 9, 10, 11, 12] (by decide) rfl) (fun _ hC => ?_) ?_
                           ·obtain ⟨_, _, hleq, hq⟩ := hC
                            refine r_move rfl rfl rfl (r_nil (qq rfl))
                           refine d_take 8 (v := .agg #[.int .i64 v64.1.P.Sign, .slice as51 ns51 cs51, .int .i64 v64.1.Q.Sign, .slice as52 ns52 cs52]) rfl (by kernel_rfl) (by kernel_rfl) (by kernel_rfl) rfl rfl rfl rfl (hx77.sh ((hF50.trans hF51).trans hF52) [1, 2, 3, 4, 5, 6, 7, 8, 9, 10, 11, 12] (by decide) rfl) (fun _ hC => ?_) ?_
                           ·obtain ⟨_, _, hleq, hq⟩ := hC
                            refine r_extract rfl rfl rfl rfl (r_nil (qq rfl))
                           refine d_take 9 (v := .bool v64.2) rfl (by kernel_rfl) (by kernel_rfl) (by kernel_rfl) rfl rfl rfl rfl (hx77.sh ((hF50.trans hF51).trans hF52) [1, 2, 3, 4, 5, 6, 7, 8, 9, 10, 11, 12] (by decide) rfl) (fun _ hC => ?_) ?_
                           ·obtain ⟨_, _, hleq, hq⟩ := hC
                            refine r_extract rfl rfl rfl rfl (r_nil (qq rfl))
                           refine d_step 11 rfl (by kernel_rfl) ?_
                           refine r_store sz26 rfl hx77 rfl rfl rfl rfl (i := 0) rfl rfl rfl rfl ?_
                           intro wx91 hx78
                           refine d_next (hx78.sh ((hF50.trans hF51).trans hF52) [1, 2, 3, 4, 5, 6, 7, 8, 9, 10, 11, 12] (by decide) rfl) ?_
                           refine d_take 12 (v := .bool v64.2) rfl (by kernel_rfl) (by kernel_rfl) (by kernel_rfl) rfl rfl rfl rfl (hx78.sh ((hF50.trans hF51).trans hF52) [1, 2, 3, 4, 5, 6, 7, 8, 9, 10, 11, 12] (by decide) rfl) (fun _ hC => ?_) ?_
                           ·obtain ⟨_, _, hleq, hq⟩ := hC
                            refine r_assign rfl rfl rfl (r_nil (qq rfl))
                           refine d_done (by kernel_rfl) ?_
                           refine q_next (fun a ha => ?_)
                           cases hb24
                           exact ⟨_, b15, as51, ns51, cs51, as52, ns52, cs52, ((hF50.trans hF51).trans hF52), hx78.pick [0, 1, 2, 3, 4, 5, 6, 7, 8, 9, 10, 11, 12] (by decide) rfl, hs51, hs52, ha.cut (l := [3, 4, 7, 10, 12, 14, 16, 18, 19, 20, 21, 22, 23]) rfl⟩
                         ·refine r_alloc ze26 rfl rfl rfl hx73 ?_
                          intro b15 wx87 hx74
                          refine d_next (hx74.sh (Frz.refl _) [1, 2, 3, 4, 5, 6, 7, 8, 9, 10, 11, 12] (by decide) rfl) ?_
                          refine d_step 2 rfl (by kernel_rfl) ?_
                          obtain ⟨v62, hv32, hb24⟩ := bind_some hb24
                          refine r_callG0 ent34 rfl rfl rfl rfl hx74 (frac_Neg_ok _ _ _ hv32 hx74.sat (((hs1.mono hG6).mono hF33).mono hF34) (((hs2.mono hG6).mono hF33).mono hF34)) ?_
                          rintro _ Fx50 _ wx88 hF50 hx75 ⟨as47, ns47, cs47, as48, ns48, cs48, rfl, rfl, hs47, hs48⟩
                          refine d_next (hx75.sh hF50 [1, 2, 3, 4, 5, 6, 7, 8, 9, 10, 11, 12] (by decide) rfl) ?_
                          refine d_step 3 rfl (by kernel_rfl) ?_
                          obtain ⟨v63, hv33, hb24⟩ := bind_some hb24
                          refine r_callG0 ent10 rfl rfl rfl rfl hx75 (frac_Add_ok _ _ _ _ hv33 hx75.sat ((((hs1.mono hG6).mono hF33).mono hF34).mono hF50) ((((hs2.mono hG6).mono hF33).mono hF34).mono hF50) hs47 hs48) ?_
                          rintro _ Fx51 _ wx89 hF51 hx76 ⟨as49, ns49, cs49, as50, ns50, cs50, rfl, rfl, hs49, hs50⟩
                          refine d_next (hx76.sh (hF50.trans hF51) [1, 2, 3, 4, 5, 6, 7, 8, 9, 10, 11, 12] (by decide) rfl) ?_
                          refine d_take 4 (v := .agg #[.int .i64 v63.1.P.Sign, .slice as49 ns49 cs49, .int .i64 v63.1.Q.Sign, .slice as50 ns50 cs50]) rfl (by kernel_rfl) (by kernel_rfl) (by kernel_rfl) rfl rfl rfl rfl (hx76.sh (hF50.trans hF51) [1, 2, 3, 4, 5, 6, 7, 8, 9, 10, 11, 12] (by decide) rfl) (fun _ hC => ?_) ?_
                          ·obtain ⟨_, _, hleq, hq⟩ := hC
                           refine r_extract rfl rfl rfl rfl (r_nil (qq rfl))
                          refine d_take 5 (v := .int .i64 v63.2) rfl (by kernel_rfl) (by kernel_rfl) (by kernel_rfl) rfl rfl rfl rfl (hx76.sh (hF50.trans hF51) [1, 2, 3, 4, 5, 6, 7, 8, 9, 10, 11, 12] (by decide) rfl) (fun _ hC => ?_) ?_
                          ·obtain ⟨_, _, hleq, hq⟩ := hC
                           refine r_extract rfl rfl rfl rfl (r_nil (qq rfl))
                          refine d_step 6 rfl (by kernel_rfl) ?_
                          obtain ⟨v64, hv34, hb24⟩ := bind_some hb24
                          refine r_callG0 ent45 rfl rfl rfl rfl hx76 (law05_right_ok _ _ _ _ hv34 hx76.sat hs49 hs50) ?_
                          rintro _ Fx52 _ wx90 hF52 hx77 ⟨as51, ns51, cs51, as52, ns52, cs52, rfl, rfl, hs51, hs52⟩
                          refine d_next (hx77.sh ((hF50.trans hF51).trans hF52) [1, 2, 3, 4, 5, 6, 7, 8, 9, 10, 11, 12] (by decide) rfl) ?_
                          refine d_take 7 (v := .tuple #[.agg #[.int .i64 v64.1.P.Sign, .slice as51 ns51 cs51, .int .i64 v64.1.Q.Sign, .slice as52 ns52 cs52], .bool v64.2]) rfl (by kernel_rfl) (by kernel_rfl) (by kernel_rfl) rfl rfl rfl rfl (hx77.sh ((hF50.trans hF51).trans hF52) [1, 2, 3, 4, 5, 6, 7, 8, 9, 10, 11, 12] (by decide) rfl) (fun _ hC => ?_) ?_
                          ·obtain ⟨_, _, hleq, hq⟩ := hC
                           refine r_move rfl rfl rfl (r_nil (qq rfl))
                          refine d_take 8 (v := .agg #[.int .i64 v64.1.P.Sign, .slice as51 ns51 cs51, .int .i64 v64.1.Q.Sign, .slice as52 ns52 cs52]) rfl (by kernel_rfl) (by kernel_rfl) (by kernel_rfl) rfl rfl rfl rfl (hx77.sh ((hF50.trans hF51).trans hF52) [1, 2, 3, 4, 5, 6, 7, 8, 9, 10, 11, 12] (by decide) rfl) (fun _ hC => ?_) ?_
                          ·obtain ⟨_, _, hleq, hq⟩ := hC
                           refine r_extract rfl rfl rfl rfl (r_nil (qq rfl))
                          refine d_take 9 (v := .bool v64.2) rfl (by kernel_rfl) (by kernel_rfl) (by kernel_rfl) rfl rfl rfl rfl (hx77.sh ((hF50.trans hF51).trans hF52) [1, 2, 3, 4, 5, 6, 7, 8, 9, 10, 11, 12] (by decide) rfl) (fun _ hC => ?_) ?_
                          ·obtain ⟨_, _, hleq, hq⟩ := hC
                           refine r_extract rfl rfl rfl rfl (r_nil (qq rfl))
                          refine d_step 11 rfl (by kernel_rfl) ?_
                          refine r_store sz26 rfl hx77 rfl rfl rfl rfl (i := 0) rfl rfl rfl rfl ?_
                          intro wx91 hx78
                          refine d_next (hx78.sh ((hF50.trans hF51).trans hF52) [1, 2, 3, 4, 5, 6, 7, 8, 9, 10, 11, 12] (by decide) rfl) ?_
                          refine d_take 12 (v := .bool v64.2) rfl (by kernel_rfl) (by kernel_rfl) (by kernel_rfl) rfl rfl rfl rfl (hx78.sh ((hF50.trans hF51).trans hF52) [1, 2, 3, 4, 5, 6, 7, 8, 9, 10, 11, 12] (by decide) rfl) (fun _ hC => ?_) ?_
                          ·obtain ⟨_, _, hleq, hq⟩ := hC
                           refine r_assign rfl rfl rfl (r_nil (qq rfl))
                          refine d_done (by kernel_rfl) ?_
                          refine q_next (fun a ha => ?_)
                          cases hb24
                          exact ⟨_, b15, as51, ns51, cs51, as52, ns52, cs52, ((hF50.trans hF51).trans hF52), hx78.pick [0, 1, 2, 3, 4, 5, 6, 7, 8, 9, 10, 11, 12] (by decide) rfl, hs51, hs52, ha.cut (l := [3, 4, 7, 10, 12, 14, 16, 18, 19, 20, 21, 22, 23]) rfl⟩
                      ·clear hm
                       rcases cond_some hb22 with ⟨hb49, hb22⟩ | ⟨hb49, hb22⟩
                       ·refine d_lit 190 rfl hb49 ?_
                        refine d_off 20 rfl (by kernel_rfl) (by kernel_rfl) (by kernel_rfl) rfl rfl rfl (hx39.sh (hF24.trans hF25) [0, 1, 2, 3, 4, 5, 6, 7] (by decide) rfl) ?_
                        refine d_off 21 rfl (by kernel_rfl) (by kernel_rfl) (by kernel_rfl) rfl rfl rfl (hx39.sh (hF24.trans hF25) [0, 1, 2, 3, 4, 5, 6, 7] (by decide) rfl) ?_
                        refine d_off 22 rfl (by kernel_rfl) (by kernel_rfl) (by kernel_rfl) rfl rfl rfl (hx39.sh (hF24.trans hF25) [0, 1, 2, 3, 4, 5, 6, 7] (by decide) rfl) ?_
                        refine d_off 23 rfl (by kernel_rfl) (by kernel_rfl) (by kernel_rfl) rfl rfl rfl (hx39.sh (hF24.trans hF25) [0, 1, 2, 3, 4, 5, 6, 7] (by decide) rfl) ?_
                        refine d_take 24 (v := .bool true) rfl (by kernel_rfl) (by kernel_rfl) (by kernel_rfl) rfl rfl rfl rfl (hx39.sh (hF24.trans hF25) [0, 1, 2, 3, 4, 5, 6, 7] (by decide) rfl) (fun _ hC => ?_) ?_
                        ·obtain ⟨_, _, hleq, hq⟩ := hC
                         refine r_pick_true rfl rfl rfl rfl (r_nil (qq rfl))
                        refine d_fin hK2 (by kernel_rfl) (fun a ha => ?_)
                        cases hb22
                        exact ⟨_, Frz.refl _, hx39.pick [0, 1, 2, 3, 4, 5, 6, 7] (by decide) rfl, ha.cut (l := [3, 4, 7, 195]) rfl⟩
                       ·refine d_lit 190 rfl hb49 ?_
                        refine d_take 20 (v := .agg #[.int .i64 v16.1.P.Sign, .slice as9 ns9 cs9, .int .i64 v16.1.Q.Sign, .slice as10 ns10 cs10]) rfl (by kernel_rfl) (by kernel_rfl) (by kernel_rfl) rfl rfl rfl rfl (hx39.sh (hF24.trans hF25) [0, 1, 2, 3, 4, 5, 6, 7] (by decide) rfl) (fun _ hC => ?_) ?_
                        ·obtain ⟨_, _, hleq, hq⟩ := hC
                         refine r_loadBA (cs' := [.int .i64 v16.1.P.Sign, .slice as9 ns9 cs9, .int .i64 v16.1.Q.Sign, .slice as10 ns10 cs10]) ag26 sz26 rfl rfl hq rfl (i := 4) rfl rfl rfl (r_nil (qq rfl))
                        refine d_take 22 (v := .int .i64 v8) rfl (by kernel_rfl) (by kernel_rfl) (by kernel_rfl) rfl rfl rfl rfl (hx39.sh (hF24.trans hF25) [0, 1, 2, 3, 4, 5, 6, 7] (by decide) rfl) (fun _ hC => ?_) ?_
                        ·obtain ⟨_, _, hleq, hq⟩ := hC
                         refine r_move rfl rfl rfl (r_nil (qq rfl))
                        refine d_step 21 rfl (by kernel_rfl) ?_
                        have hG17 := (((((((((hF15.trans hF16).trans hF17).trans hF18).trans hF19).trans hF20).trans hF21).trans hF22).trans hF23).trans hF24).trans hF25
                        obtain ⟨v65, hv35, hb22⟩ := bind_some hb22
                        refine r_callG0 ent36 rfl rfl rfl rfl hx39 (frac_Sign_ok _ _ _ hv35 hx39.sat (hs9.mono hG17) (hs10.mono hG17)) ?_
                        rintro _ Fx53 _ wx92 hF53 hx79 ⟨rfl, rfl⟩
                        refine d_next (hx79.sh ((hF24.trans hF25).trans hF53) [0, 1, 2, 3, 4, 5, 6, 7] (by decide) rfl) ?_
                        refine d_take 23 (v := .bool (v65 != v8)) rfl (by kernel_rfl) (by kernel_rfl) (by kernel_rfl) rfl rfl rfl rfl (hx79.sh ((hF24.trans hF25).trans hF53) [0, 1, 2, 3, 4, 5, 6, 7] (by decide) rfl) (fun _ hC => ?_) ?_
                        ·obtain ⟨_, _, hleq, hq⟩ := hC
                         refine r_bin rfl rfl rfl rfl rfl (r_nil (qq rfl))
                        refine d_take 24 (v := .bool (v65 != v8)) rfl (by kernel_rfl) (by kernel_rfl) (by kernel_rfl) rfl rfl rfl rfl (hx79.sh ((hF24.trans hF25).trans hF53) [0, 1, 2, 3, 4, 5, 6, 7] (by decide) rfl) (fun _ hC => ?_) ?_
                        ·obtain ⟨_, _, hleq, hq⟩ := hC
                         refine r_pick_false rfl rfl rfl rfl (r_nil (qq rfl))
                        refine d_fin hK2 (by kernel_rfl) (fun a ha => ?_)
                        cases hb22
                        exact ⟨_, hF53, hx79.pick [0, 1, 2, 3, 4, 5, 6, 7] (by decide) rfl, ha.cut (l := [3, 4, 7, 195]) rfl⟩
                     ·clear hm
                      rcases cond_some hb21 with ⟨hb50, hb21⟩ | ⟨hb50, hb21⟩
                      ·refine d_lit 180 rfl hb50 ?_
                       refine d_off 10 rfl (by kernel_rfl) (by kernel_rfl) (by kernel_rfl) rfl rfl rfl (hx38.sh hF24 [0, 1, 2, 3, 4, 5, 6, 7] (by decide) rfl) ?_
                       refine d_off 11 rfl (by kernel_rfl) (by kernel_rfl) (by kernel_rfl) rfl rfl rfl (hx38.sh hF24 [0, 1, 2, 3, 4, 5, 6, 7] (by decide) rfl) ?_
                       refine d_off 12 rfl (by kernel_rfl) (by kernel_rfl) (by kernel_rfl) rfl rfl rfl (hx38.sh hF24 [0, 1, 2, 3, 4, 5, 6, 7] (by decide) rfl) ?_
                       refine d_off 13 rfl (by kernel_rfl) (by kernel_rfl) (by kernel_rfl) rfl rfl rfl (hx38.sh hF24 [0, 1, 2, 3, 4, 5, 6, 7] (by decide) rfl) ?_
                       refine d_off 14 rfl (by kernel_rfl) (by kernel_rfl) (by kernel_rfl) rfl rfl rfl (hx38.sh hF24 [0, 1, 2, 3, 4, 5, 6, 7] (by decide) rfl) ?_
                       refine d_off 15 rfl (by kernel_rfl) (by kernel_rfl) (by kernel_rfl) rfl rfl rfl (hx38.sh hF24 [0, 1, 2, 3, 4, 5, 6, 7] (by decide) rfl) ?_
                       refine d_off 16 rfl (by kernel_rfl) (by kernel_rfl) (by kernel_rfl) rfl rfl rfl (hx38.sh hF24 [0, 1, 2, 3, 4, 5, 6, 7] (by decide) rfl) ?_
                       refine d_off 17 rfl (by kernel_rfl) (by kernel_rfl) (by kernel_rfl) rfl rfl rfl (hx38.sh hF24 [0, 1, 2, 3, 4, 5, 6, 7] (by decide) rfl) ?_
                       refine d_take 18 (v := .bool true) rfl (by kernel_rfl) (by kernel_rfl) (by kernel_rfl) rfl rfl rfl rfl (hx38.sh hF24 [0, 1, 2, 3, 4, 5, 6, 7] (by decide) rfl) (fun _ hC => ?_) ?_
                       ·obtain ⟨_, _, hleq, hq⟩ := hC
                        refine r_pick_true rfl rfl rfl rfl (r_nil (qq rfl))
                       refine d_fin hK1 (by kernel_rfl) (fun a ha => ?_)
                       cases hb21
                       exact ⟨_, Frz.refl _, hx38.pick [0, 1, 2, 3, 4, 5, 6, 7] (by decide) rfl, ha.cut (l := [3, 4, 7, 8, 9, 189]) rfl⟩
                      ·refine d_lit 180 rfl hb50 ?_
                       refine d_take 10 (v := .agg #[.int .i64 ax1.P.Sign, .slice as1 ns1 cs1, .int .i64 ax1.Q.Sign, .slice as2 ns2 cs2]) rfl (by kernel_rfl) (by kernel_rfl) (by kernel_rfl) rfl rfl rfl rfl (hx38.sh hF24 [0, 1, 2, 3, 4, 5, 6, 7] (by decide) rfl) (fun _ hC => ?_) ?_
                       ·obtain ⟨_, _, hleq, hq⟩ := hC
                        refine r_loadBA (cs' := [.int .i64 ax1.P.Sign, .slice as1 ns1 cs1, .int .i64 ax1.Q.Sign, .slice as2 ns2 cs2]) ag26 sz26 rfl rfl hq rfl (i := 7) rfl rfl rfl (r_nil (qq rfl))
                       refine d_take 12 (v := .agg #[.int .i64 b1.P.Sign, .slice as3 ns3 cs3, .int .i64 b1.Q.Sign, .slice as4 ns4 cs4]) rfl (by kernel_rfl) (by kernel_rfl) (by kernel_rfl) rfl rfl rfl rfl (hx38.sh hF24 [0, 1, 2, 3, 4, 5, 6, 7] (by decide) rfl) (fun _ hC => ?_) ?_
                       ·obtain ⟨_, _, hleq, hq⟩ := hC
                        refine r_loadBA (cs' := [.int .i64 b1.P.Sign, .slice as3 ns3 cs3, .int .i64 b1.Q.Sign, .slice as4 ns4 cs4]) ag26 sz26 rfl rfl hq rfl (i := 6) rfl rfl rfl (r_nil (qq rfl))
                       refine d_take 15 (v := .int .i64 v8) rfl (by kernel_rfl) (by kernel_rfl) (by kernel_rfl) rfl rfl rfl rfl (hx38.sh hF24 [0, 1, 2, 3, 4, 5, 6, 7] (by decide) rfl) (fun _ hC => ?_) ?_
                       ·obtain ⟨_, _, hleq, hq⟩ := hC
                        refine r_move rfl rfl rfl (r_nil (qq rfl))
                       refine d_take 16 (v := .int .i64 (IntKind.i64.wrap (0 - v8))) rfl (by kernel_rfl) (by kernel_rfl) (by kernel_rfl) rfl rfl rfl rfl (hx38.sh hF24 [0, 1, 2, 3, 4, 5, 6, 7] (by decide) rfl) (fun _ hC => ?_) ?_
                       ·obtain ⟨_, _, hleq, hq⟩ := hC
                        refine r_neg rfl rfl rfl (r_nil (qq rfl))
                       refine d_step 11 rfl (by kernel_rfl) ?_
                       have hG18 := (((hG4.trans hF21).trans hF22).trans hF23).trans hF24
                       obtain ⟨v66, hv36, hb21⟩ := bind_some hb21
                       refine r_callG0 ent34 rfl rfl rfl rfl hx38 (frac_Neg_ok _ _ _ hv36 hx38.sat (hs1.mono hG18) (hs2.mono hG18)) ?_
                       rintro _ Fx54 _ wx93 hF54 hx80 ⟨as53, ns53, cs53, as54, ns54, cs54, rfl, rfl, hs53, hs54⟩
                       refine d_next (hx80.sh (hF24.trans hF54) [0, 1, 2, 3, 4, 5, 6, 7] (by decide) rfl) ?_
                       refine d_step 13 rfl (by kernel_rfl) ?_
                       obtain ⟨v67, hv37, hb21⟩ := bind_some hb21
                       refine r_callG0 ent34 rfl rfl rfl rfl hx80 (frac_Neg_ok _ _ _ hv37 hx80.sat ((hs3.mono hG18).mono hF54) ((hs4.mono hG18).mono hF54)) ?_
                       rintro _ Fx55 _ wx94 hF55 hx81 ⟨as55, ns55, cs55, as56, ns56, cs56, rfl, rfl, hs55, hs56⟩
                       refine d_next (hx81.sh ((hF24.trans hF54).trans hF55) [0, 1, 2, 3, 4, 5, 6, 7] (by decide) rfl) ?_
                       refine d_step 14 rfl (by kernel_rfl) ?_
                       obtain ⟨v68, hv38, hb21⟩ := bind_some hb21
                       refine r_callG0 ent27 rfl rfl rfl rfl hx81 (frac_Compare_ok _ _ _ _ hv38 hx81.sat (hs53.mono hF55) (hs54.mono hF55) hs55 hs56) ?_
                       rintro _ Fx56 _ wx95 hF56 hx82 ⟨rfl, rfl⟩
                       refine d_next (hx82.sh (((hF24.trans hF54).trans hF55).trans hF56) [0, 1, 2, 3, 4, 5, 6, 7] (by decide) rfl) ?_
                       refine d_take 17 (v := .bool (v68 != (IntKind.i64.wrap (0 - v8)))) rfl (by kernel_rfl) (by kernel_rfl) (by kernel_rfl) rfl rfl rfl rfl (hx82.sh (((hF24.trans hF54).trans hF55).trans hF56) [0, 1, 2, 3, 4, 5, 6, 7] (by decide) rfl) (fun _ hC => ?_) ?_
                       ·obtain ⟨_, _, hleq, hq⟩ := hC
                        refine r_bin rfl rfl rfl rfl rfl (r_nil (qq rfl))
                       refine d_take 18 (v := .bool (v68 != (IntKind.i64.wrap (0 - v8)))) rfl (by kernel_rfl) (by kernel_rfl) (by kernel_rfl) rfl rfl rfl rfl (hx82.sh (((hF24.trans hF54).trans hF55).trans hF56) [0, 1, 2, 3, 4, 5, 6, 7] (by decide) rfl) (fun _ hC => ?_) ?_
                       ·obtain ⟨_, _, hleq, hq⟩ := hC
                        refine r_pick_false rfl rfl rfl rfl (r_nil (qq rfl))
                       refine d_fin hK1 (by kernel_rfl) (fun a ha => ?_)
                       cases hb21
                       exact ⟨_, ((hF54.trans hF55).trans hF56), hx82.pick [0, 1, 2, 3, 4, 5, 6, 7] (by decide) rfl, ha.cut (l := [3, 4, 7, 8, 9, 189]) rfl⟩
                   ·clear hm
                    rcases cond_some hb19 with ⟨hb51, hb19⟩ | ⟨hb51, hb19⟩
                    ·refine r_lit 164 rfl hb51 ?_
                     refine r_off rfl (by decide) rfl (r_off rfl (by decide) rfl (r_off rfl (by decide) rfl (r_off rfl (by decide) rfl (r_off rfl (by decide) rfl (r_pick_true rfl rfl rfl rfl (r_nil ?_))))))
                     refine q_next (fun a ha => ?_)
                     cases hb19
                     exact ⟨_, Frz.refl _, hx35.pick [0, 1, 2, 3, 4, 5, 6, 7] (by decide) rfl, ha.cut (l := [3, 4, 5, 7, 8, 9, 15, 17, 170]) rfl⟩
                    ·refine r_lit 164 rfl hb51 ?_
                     refine r_loadBA (cs' := [.int .i64 v18.1.P.Sign, .slice as13 ns13 cs13, .int .i64 v18.1.Q.Sign, .slice as14 ns14 cs14]) ag26 sz26 rfl rfl hx35 rfl (i := 3) rfl rfl rfl ?_
                     refine r_loadBA (cs' := [.int .i64 v20.1.P.Sign, .slice as17 ns17 cs17, .int .i64 v20.1.Q.Sign, .slice as18 ns18 cs18]) ag26 sz26 rfl rfl hx35 rfl (i := 2) rfl rfl rfl ?_
                     have hG19 := ((((hF17.trans hF18).trans hF19).trans hF20).trans hF21).trans hF22
                     have hG20 := ((hF19.trans hF20).trans hF21).trans hF22
                     obtain ⟨v69, hv39, hb19⟩ := bind_some hb19
                     refine r_callG0 ent27 rfl rfl rfl rfl hx35 (frac_Compare_ok _ _ _ _ hv39 hx35.sat (hs13.mono hG19) (hs14.mono hG19) (hs17.mono hG20) (hs18.mono hG20)) ?_
                     rintro _ Fx57 _ wx96 hF57 hx83 ⟨rfl, rfl⟩
                     refine r_move rfl rfl rfl ?_
                     refine r_bin rfl rfl rfl rfl rfl ?_
                     refine r_pick_false rfl rfl rfl rfl (r_nil ?_)
                     refine q_next (fun a ha => ?_)
                     cases hb19
                     exact ⟨_, hF57, hx83.pick [0, 1, 2, 3, 4, 5, 6, 7] (by decide) rfl, ha.cut (l := [3, 4, 5, 7, 8, 9, 15, 17, 170]) rfl⟩
                  ·clear hm
                   rcases cond_some hb18 with ⟨hb52, hb18⟩ | ⟨hb52, hb18⟩
                   ·refine r_lit 157 rfl hb52 ?_
                    refine r_off rfl (by decide) rfl (r_off rfl (by decide) rfl (r_off rfl (by decide) rfl (r_off rfl (by decide) rfl (r_off rfl (by decide) rfl (r_pick_true rfl rfl rfl rfl (r_nil ?_))))))
                    refine q_next (fun a ha => ?_)
                    cases hb18
                    exact ⟨rfl, ha.cut (l := [3, 4, 5, 7, 8, 9, 11, 13, 15, 17, 163]) rfl⟩
                   ·refine r_lit 157 rfl hb52 ?_
                    refine r_fieldAddr fa26_0 rfl rfl rfl ?_
                    refine r_fieldAddr fa24_0 rfl rfl rfl ?_
                    refine r_loadB1 ag3 rfl rfl hx35 rfl (i := 4) rfl rfl ?_
                    refine r_move rfl rfl rfl ?_
                    refine r_bin rfl rfl rfl rfl rfl ?_
                    refine r_pick_false rfl rfl rfl rfl (r_nil ?_)
                    refine q_next (fun a ha => ?_)
                    cases hb18
                    exact ⟨rfl, ha.cut (l := [3, 4, 5, 7, 8, 9, 11, 13, 15, 17, 163]) rfl⟩
                 ·clear hm
                  rcases cond_some hb17 with ⟨hb53, hb17⟩ | ⟨hb53, hb17⟩
                  ·refine r_lit 153 rfl hb53 ?_
                   refine r_off rfl (by decide) rfl (r_off rfl (by decide) rfl (r_pick_true rfl rfl rfl rfl (r_nil ?_)))
                   refine q_next (fun a ha => ?_)
                   cases hb17
                   exact ⟨rfl, ha.cut (l := [3, 4, 5, 7, 8, 9, 11, 13, 15, 17, 156]) rfl⟩
                  ·refine r_lit 153 rfl hb53 ?_
                   refine r_move rfl rfl rfl (r_not rfl rfl rfl (r_pick_false rfl rfl rfl rfl (r_nil ?_)))
                   refine q_next (fun a ha => ?_)
                   cases hb17
                   exact ⟨rfl, ha.cut (l := [3, 4, 5, 7, 8, 9, 11, 13, 15, 17, 156]) rfl⟩
                ·clear hm
                 rcases cond_some hb16 with ⟨hb54, hb16⟩ | ⟨hb54, hb16⟩
                 ·refine r_lit 149 rfl hb54 ?_
                  refine r_off rfl (by decide) rfl (r_off rfl (by decide) rfl (r_pick_true rfl rfl rfl rfl (r_nil ?_)))
                  refine q_next (fun a ha => ?_)
                  cases hb16
                  exact ⟨rfl, ha.cut (l := [3, 4, 5, 7, 8, 9, 11, 13, 15, 17, 18, 152]) rfl⟩
                 ·refine r_lit 149 rfl hb54 ?_
                  refine r_move rfl rfl rfl (r_not rfl rfl rfl (r_pick_false rfl rfl rfl rfl (r_nil ?_)))
                  refine q_next (fun a ha => ?_)
                  cases hb16
                  exact ⟨rfl, ha.cut (l := [3, 4, 5, 7, 8, 9, 11, 13, 15, 17, 18, 152]) rfl⟩
               ·clear hm
                rcases cond_some hb15 with ⟨hb55, hb15⟩ | ⟨hb55, hb15⟩
                ·refine r_lit 145 rfl hb55 ?_
                 refine r_off rfl (by decide) rfl (r_off rfl (by decide) rfl (r_pick_true rfl rfl rfl rfl (r_nil ?_)))
                 refine q_next (fun a ha => ?_)
                 cases hb15
                 exact ⟨rfl, ha.cut (l := [3, 4, 5, 7, 8, 9, 11, 13, 15, 16, 17, 18, 148]) rfl⟩
                ·refine r_lit 145 rfl hb55 ?_
                 refine r_move rfl rfl rfl (r_not rfl rfl rfl (r_pick_false rfl rfl rfl rfl (r_nil ?_)))
                 refine q_next (fun a ha => ?_)
                 cases hb15
                 exact ⟨rfl, ha.cut (l := [3, 4, 5, 7, 8, 9, 11, 13, 15, 16, 17, 18, 148]) rfl⟩
              ·clear hm
               rcases cond_some hb14 with ⟨hb56, hb14⟩ | ⟨hb56, hb14⟩
               ·refine r_lit 141 rfl hb56 ?_
                refine r_off rfl (by decide) rfl (r_off rfl (by decide) rfl (r_pick_true rfl rfl rfl rfl (r_nil ?_)))
                refine q_next (fun a ha => ?_)
                cases hb14
                exact ⟨rfl, ha.cut (l := [3, 4, 5, 7, 8, 9, 11, 13, 14, 15, 16, 17, 18, 144]) rfl⟩
               ·refine r_lit 141 rfl hb56 ?_
                refine r_move rfl rfl rfl (r_not rfl rfl rfl (r_pick_false rfl rfl rfl rfl (r_nil ?_)))
                refine q_next (fun a ha => ?_)
                cases hb14
                exact ⟨rfl, ha.cut (l := [3, 4, 5, 7, 8, 9, 11, 13, 14, 15, 16, 17, 18, 144]) rfl⟩
            ·clear hm
             rcases cond_some hb12 with ⟨hb57, hb12⟩ | ⟨hb57, hb12⟩
             ·refine r_lit 88 rfl hb57 ?_
              refine r_loadBA (cs' := [.int .i64 ax1.P.Sign, .slice as1 ns1 cs1, .int .i64 ax1.Q.Sign, .slice as2 ns2 cs2]) ag26 sz26 rfl rfl hx14 rfl (i := 2) rfl rfl rfl ?_
              refine r_loadBA (cs' := [.int .i64 c1.P.Sign, .slice as5 ns5 cs5, .int .i64 c1.Q.Sign, .slice as6 ns6 cs6]) ag26 sz26 rfl rfl hx14 rfl (i := 0) rfl rfl rfl ?_
              have hG21 := (((hG1.trans hF8).trans hF9).trans hF10).trans hF11
              obtain ⟨v70, hv40, hb12⟩ := bind_some hb12
              refine r_callG0 ent27 rfl rfl rfl rfl hx14 (frac_Compare_ok _ _ _ _ hv40 hx14.sat (hs1.mono hG21) (hs2.mono hG21) (hs5.mono hG21) (hs6.mono hG21)) ?_
              rintro _ Fx58 _ wx97 hF58 hx84 ⟨rfl, rfl⟩
              refine r_bin rfl rfl rfl rfl rfl ?_
              refine r_pick_true rfl rfl rfl rfl (r_nil ?_)
              refine q_next (fun a ha => ?_)
              cases hb12
              exact ⟨_, hF58, hx84.pick [0, 1, 2] (by decide) rfl, ha.cut (l := [3, 4, 5, 7, 8, 93]) rfl⟩
             ·refine r_lit 88 rfl hb57 ?_
              refine r_off rfl (by decide) rfl (r_off rfl (by decide) rfl (r_off rfl (by decide) rfl (r_off rfl (by decide) rfl (r_pick_false rfl rfl rfl rfl (r_nil ?_)))))
              refine q_next (fun a ha => ?_)
              cases hb12
              exact ⟨_, Frz.refl _, hx14.pick [0, 1, 2] (by decide) rfl, ha.cut (l := [3, 4, 5, 7, 8, 93]) rfl⟩
           ·clear hm
            rcases cond_some hb11 with ⟨hb58, hb11⟩ | ⟨hb58, hb11⟩
            ·refine r_lit 82 rfl hb58 ?_
             refine r_loadBA (cs' := [.int .i64 b1.P.Sign, .slice as3 ns3 cs3, .int .i64 b1.Q.Sign, .slice as4 ns4 cs4]) ag26 sz26 rfl rfl hx13 rfl (i := 1) rfl rfl rfl ?_
             refine r_loadBA (cs' := [.int .i64 c1.P.Sign, .slice as5 ns5 cs5, .int .i64 c1.Q.Sign, .slice as6 ns6 cs6]) ag26 sz26 rfl rfl hx13 rfl (i := 0) rfl rfl rfl ?_
             obtain ⟨v71, hv41, hb11⟩ := bind_some hb11
             refine r_callG0 ent27 rfl rfl rfl rfl hx13 (frac_Compare_ok _ _ _ _ hv41 hx13.sat ((((hs3.mono hG1).mono hF8).mono hF9).mono hF10) ((((hs4.mono hG1).mono hF8).mono hF9).mono hF10) ((((hs5.mono hG1).mono hF8).mono hF9).mono hF10) ((((hs6.mono hG1).mono hF8).mono hF9).mono hF10)) ?_
             rintro _ Fx59 _ wx98 hF59 hx85 ⟨rfl, rfl⟩
             refine r_bin rfl rfl rfl rfl rfl ?_
             refine r_pick_true rfl rfl rfl rfl (r_nil ?_)
             refine q_next (fun a ha => ?_)
             cases hb11
             exact ⟨_, hF59, hx85.pick [0, 1, 2] (by decide) rfl, ha.cut (l := [3, 4, 5, 7, 8, 87]) rfl⟩
            ·refine r_lit 82 rfl hb58 ?_
             refine r_off rfl (by decide) rfl (r_off rfl (by decide) rfl (r_off rfl (by decide) rfl (r_off rfl (by decide) rfl (r_pick_false rfl rfl rfl rfl (r_nil ?_)))))
             refine q_next (fun a ha => ?_)
             cases hb11
             exact ⟨_, Frz.refl _, hx13.pick [0, 1, 2] (by decide) rfl, ha.cut (l := [3, 4, 5, 7, 8, 87]) rfl⟩
         ·clear hm
          rcases cond_some hb9 with ⟨hb59, hb9⟩ | ⟨hb59, hb9⟩
          ·refine r_lit 76 rfl hb59 ?_
           refine r_off rfl (by decide) rfl (r_off rfl (by decide) rfl (r_pick_true rfl rfl rfl rfl (r_nil ?_)))
           refine q_next (fun a ha => ?_)
           cases hb9
           exact ⟨rfl, ha.cut (l := [3, 4, 5, 7, 8, 79]) rfl⟩
          ·refine r_lit 76 rfl hb59 ?_
           refine r_move rfl rfl rfl ?_
           refine r_bin rfl rfl rfl rfl rfl ?_
           refine r_pick_false rfl rfl rfl rfl (r_nil ?_)
           refine q_next (fun a ha => ?_)
           cases hb9
           exact ⟨rfl, ha.cut (l := [3, 4, 5, 7, 8, 79]) rfl⟩
        ·clear hm
         rcases cond_some hb8 with ⟨hb60, hb8⟩ | ⟨hb60, hb8⟩
         ·refine r_lit 72 rfl hb60 ?_
          refine r_off rfl (by decide) rfl (r_off rfl (by decide) rfl (r_pick_true rfl rfl rfl rfl (r_nil ?_)))
          refine q_next (fun a ha => ?_)
          cases hb8
          exact ⟨rfl, ha.cut (l := [3, 4, 5, 7, 8, 75]) rfl⟩
         ·refine r_lit 72 rfl hb60 ?_
          refine r_move rfl rfl rfl ?_
          refine r_bin rfl rfl rfl rfl rfl ?_
          refine r_pick_false rfl rfl rfl rfl (r_nil ?_)
          refine q_next (fun a ha => ?_)
          cases hb8
          exact ⟨rfl, ha.cut (l := [3, 4, 5, 7, 8, 75]) rfl⟩
       ·clear hm
        rcases cond_some hb7 with ⟨hb61, hb7⟩ | ⟨hb61, hb7⟩
        ·refine r_lit 64 rfl hb61 ?_
         refine r_off rfl (by decide) rfl (r_off rfl (by decide) rfl (r_off rfl (by decide) rfl (r_off rfl (by decide) rfl (r_off rfl (by decide) rfl (r_off rfl (by decide) rfl (r_pick_true rfl rfl rfl rfl (r_nil ?_)))))))
         refine q_next (fun a ha => ?_)
         cases hb7
         exact ⟨_, Frz.refl _, hx12.pick [0, 1, 2] (by decide) rfl, ha.cut (l := [3, 4, 5, 7, 8, 71]) rfl⟩
        ·refine r_lit 64 rfl hb61 ?_
         refine r_loadBA (cs' := [.int .i64 b1.P.Sign, .slice as3 ns3 cs3, .int .i64 b1.Q.Sign, .slice as4 ns4 cs4]) ag26 sz26 rfl rfl hx12 rfl (i := 1) rfl rfl rfl ?_
         refine r_loadBA (cs' := [.int .i64 ax1.P.Sign, .slice as1 ns1 cs1, .int .i64 ax1.Q.Sign, .slice as2 ns2 cs2]) ag26 sz26 rfl rfl hx12 rfl (i := 2) rfl rfl rfl ?_
         obtain ⟨v72, hv42, hb7⟩ := bind_some hb7
         refine r_callG0 ent27 rfl rfl rfl rfl hx12 (frac_Compare_ok _ _ _ _ hv42 hx12.sat (((hs3.mono hG1).mono hF8).mono hF9) (((hs4.mono hG1).mono hF8).mono hF9) (((hs1.mono hG1).mono hF8).mono hF9) (((hs2.mono hG1).mono hF8).mono hF9)) ?_
         rintro _ Fx60 _ wx99 hF60 hx86 ⟨rfl, rfl⟩
         refine r_move rfl rfl rfl ?_
         refine r_neg rfl rfl rfl ?_
         refine r_bin rfl rfl rfl rfl rfl ?_
         refine r_pick_false rfl rfl rfl rfl (r_nil ?_)
         refine q_next (fun a ha => ?_)
         cases hb7
         exact ⟨_, hF60, hx86.pick [0, 1, 2] (by decide) rfl, ha.cut (l := [3, 4, 5, 7, 8, 71]) rfl⟩
     ·clear hm
      rcases cond_some hb5 with ⟨hb62, hb5⟩ | ⟨hb62, hb5⟩
      ·refine r_lit 49 rfl hb62 ?_
       refine r_off rfl (by decide) rfl (r_off rfl (by decide) rfl (r_off rfl (by decide) rfl (r_pick_true rfl rfl rfl rfl (r_nil ?_))))
       refine q_next (fun a ha => ?_)
       cases hb5
       exact ⟨_, Frz.refl _, hx9.pick [0, 1, 2] (by decide) rfl, ha.cut (l := [3, 4, 5, 7, 53]) rfl⟩
      ·refine r_lit 49 rfl hb62 ?_
       refine r_loadBA (cs' := [.int .i64 c1.P.Sign, .slice as5 ns5 cs5, .int .i64 c1.Q.Sign, .slice as6 ns6 cs6]) ag26 sz26 rfl rfl hx9 rfl (i := 0) rfl rfl rfl ?_
       have hG22 := ((((hF1.trans hF2).trans hF3).trans hF4).trans hF5).trans hF6
       obtain ⟨v73, hv43, hb5⟩ := bind_some hb5
       refine r_callG0 ent25 rfl rfl rfl rfl hx9 (frac_Right_ok _ _ _ hv43 hx9.sat (hs5.mono hG22) (hs6.mono hG22)) ?_
       rintro _ Fx61 _ wx100 hF61 hx87 ⟨rfl, rfl⟩
       refine r_not rfl rfl rfl (r_pick_false rfl rfl rfl rfl (r_nil ?_))
       refine q_next (fun a ha => ?_)
       cases hb5
       exact ⟨_, hF61, hx87.pick [0, 1, 2] (by decide) rfl, ha.cut (l := [3, 4, 5, 7, 53]) rfl⟩
    ·clear hm
     rcases cond_some hb4 with ⟨hb63, hb4⟩ | ⟨hb63, hb4⟩
     ·refine r_lit 44 rfl hb63 ?_
      refine r_off rfl (by decide) rfl (r_off rfl (by decide) rfl (r_off rfl (by decide) rfl (r_pick_true rfl rfl rfl rfl (r_nil ?_))))
      refine q_next (fun a ha => ?_)
      cases hb4
      exact ⟨_, Frz.refl _, hx8.pick [0, 1, 2] (by decide) rfl, ha.cut (l := [3, 4, 5, 7, 48]) rfl⟩
     ·refine r_lit 44 rfl hb63 ?_
      refine r_loadBA (cs' := [.int .i64 b1.P.Sign, .slice as3 ns3 cs3, .int .i64 b1.Q.Sign, .slice as4 ns4 cs4]) ag26 sz26 rfl rfl hx8 rfl (i := 1) rfl rfl rfl ?_
      have hG23 := (((hF1.trans hF2).trans hF3).trans hF4).trans hF5
      obtain ⟨v74, hv44, hb4⟩ := bind_some hb4
      refine r_callG0 ent25 rfl rfl rfl rfl hx8 (frac_Right_ok _ _ _ hv44 hx8.sat (hs3.mono hG23) (hs4.mono hG23)) ?_
      rintro _ Fx62 _ wx101 hF62 hx88 ⟨rfl, rfl⟩
      refine r_not rfl rfl rfl (r_pick_false rfl rfl rfl rfl (r_nil ?_))
      refine q_next (fun a ha => ?_)
      cases hb4
      exact ⟨_, hF62, hx88.pick [0, 1, 2] (by decide) rfl, ha.cut (l := [3, 4, 5, 7, 48]) rfl⟩
   ·clear hm
    rcases cond_some hb3 with ⟨hb64, hb3⟩ | ⟨hb64, hb3⟩
    ·refine r_lit 39 rfl hb64 ?_
     refine r_off rfl (by decide) rfl (r_off rfl (by decide) rfl (r_off rfl (by decide) rfl (r_pick_true rfl rfl rfl rfl (r_nil ?_))))
     refine q_next (fun a ha => ?_)
     cases hb3
     exact ⟨_, Frz.refl _, hx7.pick [0, 1, 2] (by decide) rfl, ha.cut (l := [3, 4, 5, 7, 43]) rfl⟩
    ·refine r_lit 39 rfl hb64 ?_
     refine r_loadBA (cs' := [.int .i64 ax1.P.Sign, .slice as1 ns1 cs1, .int .i64 ax1.Q.Sign, .slice as2 ns2 cs2]) ag26 sz26 rfl rfl hx7 rfl (i := 2) rfl rfl rfl ?_
     have hG24 := ((hF1.trans hF2).trans hF3).trans hF4
     obtain ⟨v75, hv45, hb3⟩ := bind_some hb3
     refine r_callG0 ent25 rfl rfl rfl rfl hx7 (frac_Right_ok _ _ _ hv45 hx7.sat (hs1.mono hG24) (hs2.mono hG24)) ?_
     rintro _ Fx63 _ wx102 hF63 hx89 ⟨rfl, rfl⟩
     refine r_not rfl rfl rfl (r_pick_false rfl rfl rfl rfl (r_nil ?_))
     refine q_next (fun a ha => ?_)
     cases hb3
     exact ⟨_, hF63, hx89.pick [0, 1, 2] (by decide) rfl, ha.cut (l := [3, 4, 5, 7, 43]) rfl⟩
  ·clear hm
   rcases cond_some hb2 with ⟨hb65, hb2⟩ | ⟨hb65, hb2⟩
   ·refine r_lit 34 rfl hb65 ?_
    refine r_off rfl (by decide) rfl (r_off rfl (by decide) rfl (r_off rfl (by decide) rfl (r_pick_true rfl rfl rfl rfl (r_nil ?_))))
    refine q_next (fun a ha => ?_)
    cases hb2
    exact ⟨_, Frz.refl _, hx6.pick [0, 1, 2] (by decide) rfl, ha.cut (l := [3, 4, 5, 7, 38]) rfl⟩
   ·refine r_lit 34 rfl hb65 ?_
    refine r_loadBA (cs' := [.int .i64 c1.P.Sign, .slice as5 ns5 cs5, .int .i64 c1.Q.Sign, .slice as6 ns6 cs6]) ag26 sz26 rfl rfl hx6 rfl (i := 0) rfl rfl rfl ?_
    obtain ⟨v76, hv46, hb2⟩ := bind_some hb2
    refine r_callG0 ent9 rfl rfl rfl rfl hx6 (ref05_Few_ok _ _ _ _ hv46 hx6.sat (((hs5.mono hF1).mono hF2).mono hF3) (((hs6.mono hF1).mono hF2).mono hF3)) ?_
    rintro _ Fx64 _ wx103 hF64 hx90 ⟨rfl, rfl⟩
    refine r_not rfl rfl rfl (r_pick_false rfl rfl rfl rfl (r_nil ?_))
    refine q_next (fun a ha => ?_)
    cases hb2
    exact ⟨_, hF64, hx90.pick [0, 1, 2] (by decide) rfl, ha.cut (l := [3, 4, 5, 7, 38]) rfl⟩
 ·clear hm
  rcases cond_some hb1 with ⟨hb66, hb1⟩ | ⟨hb66, hb1⟩
  ·refine r_lit 29 rfl hb66 ?_
   refine r_off rfl (by decide) rfl (r_off rfl (by decide) rfl (r_off rfl (by decide) rfl (r_pick_true rfl rfl rfl rfl (r_nil ?_))))
   refine q_next (fun a ha => ?_)
   cases hb1
   exact ⟨_, Frz.refl _, hx5.pick [0, 1, 2] (by decide) rfl, ha.cut (l := [3, 4, 5, 7, 33]) rfl⟩
  ·refine r_lit 29 rfl hb66 ?_
   refine r_loadBA (cs' := [.int .i64 b1.P.Sign, .slice as3 ns3 cs3, .int .i64 b1.Q.Sign, .slice as4 ns4 cs4]) ag26 sz26 rfl rfl hx5 rfl (i := 1) rfl rfl rfl ?_
   obtain ⟨v77, hv47, hb1⟩ := bind_some hb1
   refine r_callG0 ent9 rfl rfl rfl rfl hx5 (ref05_Few_ok _ _ _ _ hv47 hx5.sat ((hs3.mono hF1).mono hF2) ((hs4.mono hF1).mono hF2)) ?_
   rintro _ Fx65 _ wx104 hF65 hx91 ⟨rfl, rfl⟩
   refine r_not rfl rfl rfl (r_pick_false rfl rfl rfl rfl (r_nil ?_))
   refine q_next (fun a ha => ?_)
   cases hb1
   exact ⟨_, hF65, hx91.pick [0, 1, 2] (by decide) rfl, ha.cut (l := [3, 4, 5, 7, 33]) rfl⟩


end Go.Proofs.YtaanocaobllohaaGreatDoor.M
