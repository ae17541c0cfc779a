/-
  THE MIRRORS of the fractions' and the big integers' functions, of their references and of the laws, and that each call returns what its mirror says. Printed by gen.py.
-/
import Derived.Test.YtaanocaobllohaaGreatDoorRows
import Derived.Test.YtaanocaobllohaaGreatDoorTrim
import Derived.Test.YtaanocaobllohaaGreatDoorExtC
import Derived.Test.YtaanocaobllohaaGreatDoorRtX
import Derived.Test.YtaanocaobllohaaGreatDoorMirS
namespace Go.Proofs.YtaanocaobllohaaGreatDoor.M
open Go Go.RowKit Rt

theorem ent8 : Ent Tryz.prog 8 := fun _ _ => by kernel_rfl

theorem ent9 : Ent Tryz.prog 9 := fun _ _ => by kernel_rfl

def law05_FracBack (n : Nat) (f1 : Frac) (byx1 : Int) (s3 : Bs) : Option Bool :=
 (law05_small n).bind fun v1 =>
 (ref05_Few n (⟨(⟨f1.P.Sign, f1.P.Digits⟩ : Big), (⟨f1.Q.Sign, f1.Q.Digits⟩ : Big)⟩ : Frac) 40).bind fun v2 =>
 (bif !v2 then
  some true
 else
  some (decide (300 < (s3.length : Int)))).bind fun v3 =>
 bif v3 then
  some v1
 else
  (frac_Read n s3).bind fun v4 =>
  (bif v4.2 == 0 then
   (frac_Right n (⟨(⟨v4.1.P.Sign, v4.1.P.Digits⟩ : Big), (⟨v4.1.Q.Sign, v4.1.Q.Digits⟩ : Big)⟩ : Frac)).bind fun v33 =>
   (bif !v33 then
    some true
   else
    (frac_Text n (⟨(⟨v4.1.P.Sign, v4.1.P.Digits⟩ : Big), (⟨v4.1.Q.Sign, v4.1.Q.Digits⟩ : Big)⟩ : Frac)).bind fun v35 =>
    some (!(v35 == s3))).bind fun v34 =>
   some v34
  else
   some false).bind fun v5 =>
  (bif v5 then
   some true
  else
   (bif v4.2 != 0 then
    (bif v4.2 != 2 then
     some true
    else
     (ref05_Same n (⟨(⟨v4.1.P.Sign, v4.1.P.Digits⟩ : Big), (⟨v4.1.Q.Sign, v4.1.Q.Digits⟩ : Big)⟩ : Frac) (⟨(⟨0, []⟩ : Big), (⟨0, []⟩ : Big)⟩ : Frac)).bind fun v32 =>
     some (!v32)).bind fun v31 =>
    some v31
   else
    some false).bind fun v30 =>
   some v30).bind fun v6 =>
  bif v6 then
   some false
  else
   (frac_Text n (⟨(⟨f1.P.Sign, f1.P.Digits⟩ : Big), (⟨f1.Q.Sign, f1.Q.Digits⟩ : Big)⟩ : Frac)).bind fun v7 =>
   (frac_Right n (⟨(⟨f1.P.Sign, f1.P.Digits⟩ : Big), (⟨f1.Q.Sign, f1.Q.Digits⟩ : Big)⟩ : Frac)).bind fun v8 =>
   bif !v8 then
    (bif v1 then
     some (v7 == [])
    else
     some false).bind fun v9 =>
    some v9
   else
    (frac_Read n v7).bind fun v10 =>
    (frac_New n (⟨f1.P.Sign, f1.P.Digits⟩ : Big) (⟨f1.Q.Sign, f1.Q.Digits⟩ : Big)).bind fun v11 =>
    ((big_Of n byx1).bind fun v28 =>
    (big_Mul n (⟨f1.P.Sign, f1.P.Digits⟩ : Big) v28).bind fun v29 =>
    some (v29.1.Sign, v29.1.Digits, v29.2)).bind fun (f2, f3, k1) =>
    ((big_Of n byx1).bind fun v26 =>
    (big_Mul n (⟨f1.Q.Sign, f1.Q.Digits⟩ : Big) v26).bind fun v27 =>
    some (v27.1.Sign, v27.1.Digits, v27.2)).bind fun (f4, f5, l1) =>
    (frac_New n (⟨f2, f3⟩ : Big) (⟨f4, f5⟩ : Big)).bind fun v12 =>
    (bif v10.2 != 0 then
     some true
    else
     some (v11.2 != 0)).bind fun v13 =>
    (bif v13 then
     some true
    else
     (ref05_Same n (⟨(⟨v10.1.P.Sign, v10.1.P.Digits⟩ : Big), (⟨v10.1.Q.Sign, v10.1.Q.Digits⟩ : Big)⟩ : Frac) (⟨(⟨f1.P.Sign, f1.P.Digits⟩ : Big), (⟨f1.Q.Sign, f1.Q.Digits⟩ : Big)⟩ : Frac)).bind fun v25 =>
     some (!v25)).bind fun v14 =>
    (bif v14 then
     some true
    else
     (ref05_Same n (⟨(⟨v11.1.P.Sign, v11.1.P.Digits⟩ : Big), (⟨v11.1.Q.Sign, v11.1.Q.Digits⟩ : Big)⟩ : Frac) (⟨(⟨f1.P.Sign, f1.P.Digits⟩ : Big), (⟨f1.Q.Sign, f1.Q.Digits⟩ : Big)⟩ : Frac)).bind fun v24 =>
     some (!v24)).bind fun v15 =>
    bif v15 then
     some false
    else
     (bif v1 then
      some (k1 == 0)
     else
      some false).bind fun v16 =>
     (bif v16 then
      some (l1 == 0)
     else
      some false).bind fun v17 =>
     (bif v17 then
      (bif byx1 == 0 then
       some (v12.2 == 14)
      else
       some false).bind fun v19 =>
      (bif v19 then
       some true
      else
       (bif byx1 != 0 then
        some (v12.2 == 0)
       else
        some false).bind fun v21 =>
       (bif v21 then
        (ref05_Same n (⟨(⟨v12.1.P.Sign, v12.1.P.Digits⟩ : Big), (⟨v12.1.Q.Sign, v12.1.Q.Digits⟩ : Big)⟩ : Frac) (⟨(⟨f1.P.Sign, f1.P.Digits⟩ : Big), (⟨f1.Q.Sign, f1.Q.Digits⟩ : Big)⟩ : Frac)).bind fun v23 =>
        some v23
       else
        some false).bind fun v22 =>
       some v22).bind fun v20 =>
      some v20
     else
      some false).bind fun v18 =>
     some v18

set_option maxHeartbeats 1000000 in
set_option maxRecDepth 1000000 in
theorem law05_FracBack_ok (n : Nat) (f1 : Frac) (byx1 : Int) (s3 : Bs) (r : Bool) (hm : law05_FracBack n f1 byx1 s3 = some r) {w : World} {F : Frz} (hs : Sat F w) {as1 : Option Addr} {ns1 : Nat} {cs1 : Nat} {as2 : Option Addr} {ns2 : Nat} {cs2 : Nat} (hs1 : SlR (Rp.int .i64) F as1 ns1 cs1 f1.P.Digits) (hs2 : SlR (Rp.int .i64) F as2 ns2 cs2 f1.Q.Digits) (hg3 : FX F 3 (Lib.pow10Tab.map (Value.int .u64))) :
  Calls Tryz.prog 6 #[.agg #[.int .i64 f1.P.Sign, .slice as1 ns1 cs1, .int .i64 f1.Q.Sign, .slice as2 ns2 cs2], .int .i64 byx1, vs s3] w fun e w' => ∃ v F' O', e = .returned v ∧ HS F w [] F' O' w' ∧ (v = .bool r ∧ O' = []) := by
 unfold law05_FracBack at hm
 have h := HS.init hs
 refine calls_of (args := [.agg #[.int .i64 f1.P.Sign, .slice as1 ns1 cs1, .int .i64 f1.Q.Sign, .slice as2 ns2 cs2], .int .i64 byx1, vs s3]) 156 Tryz.func6 rfl rfl rfl ?_
 refine c_seq (c_region ?_)
 refine r_box rfl rfl rfl rfl h ?_
 intro b1 wx1 hx1
 refine r_assign rfl rfl rfl (r_nil (q_then (c_seq (c_region ?_))))
 obtain ⟨v1, hv1, hm⟩ := bind_some hm
 refine r_callG0 ent8 rfl rfl rfl rfl hx1 (law05_small_ok _ _ hv1 hx1.sat hg3) ?_
 rintro _ Fx1 _ wx2 hF1 hx2 ⟨rfl, rfl⟩
 refine r_assign rfl rfl rfl (r_nil (q_then (c_seq (c_seq (c_region ?_)))))
 refine r_loadBA (cs' := [.int .i64 f1.P.Sign, .slice as1 ns1 cs1, .int .i64 f1.Q.Sign, .slice as2 ns2 cs2]) ag26 sz26 rfl rfl hx2 rfl (i := 0) rfl rfl rfl ?_
 obtain ⟨v2, hv2, hm⟩ := bind_some hm
 refine r_callG0 ent9 rfl rfl rfl rfl hx2 (ref05_Few_ok _ _ _ _ hv2 hx2.sat (hs1.mono hF1) (hs2.mono hF1)) ?_
 rintro _ Fx2 _ wx3 hF2 hx3 ⟨rfl, rfl⟩
 refine r_not rfl rfl rfl (r_move rfl rfl rfl ?_)
 obtain ⟨v3, hb1, hm⟩ := bind_some hm
 refine r_mid 4 (fun a w' => wx3 = w' ∧ Has 156 a [(1, .int .i64 byx1), (2, vs s3), (3, .pointer (some ⟨b1, 0, none⟩)), (7, .bool v1), (29, .bool v3)]) ?_ ?_
 ·rintro a wx4 ⟨rfl, hax1⟩
  refine rw_apply hax1 ?_
  refine r_nil (q_then ?_)
  rcases cond_some hm with ⟨hb2, hm⟩ | ⟨hb2, hm⟩
  ·refine c_lit 29 rfl hb2 ?_
   refine c_true rfl (c_seq (c_region (r_move rfl rfl rfl (r_assign rfl rfl rfl (r_nil (q_then (c_ret (q_then_ret ?_))))))))
   refine b_ret1 rfl rfl ?_
   obtain rfl := Option.some.inj hm
   exact ⟨_, _, _, rfl, hx3.pick [] (by decide) rfl, rfl, rfl⟩
  ·refine c_lit 29 rfl hb2 ?_
   refine c_false rfl (c_skip (q_then (c_seq (c_region (r_move rfl rfl rfl ?_)))))
   obtain ⟨v4, hv3, hm⟩ := bind_some hm
   refine r_callG0 ent21 rfl rfl rfl rfl hx3 (frac_Read_ok _ _ _ hv3 hx3.sat ((hg3.mono hF1).mono hF2)) ?_
   rintro _ Fx3 _ wx5 hF3 hx4 ⟨as4, ns4, cs4, as5, ns5, cs5, rfl, rfl, hs4, hs5⟩
   refine r_move rfl rfl rfl (r_extract rfl rfl rfl rfl (r_extract rfl rfl rfl rfl ?_))
   refine r_alloc ze26 rfl rfl rfl hx4 ?_
   intro b2 wx6 hx5
   refine r_store sz26 rfl hx5 rfl rfl rfl rfl (i := 0) rfl rfl rfl rfl ?_
   intro wx7 hx6
   refine r_assign rfl rfl rfl (r_nil (q_then (c_seq (c_seq (c_region (r_move rfl rfl rfl ?_))))))
   refine r_bin rfl rfl rfl rfl rfl ?_
   refine r_move rfl rfl rfl ?_
   obtain ⟨v5, hb3, hm⟩ := bind_some hm
   refine r_mid 10 (fun a w' => ∃ (Fx4 : Frz), Frz.le Fx3 Fx4 ∧ HS F w [] Fx4 [.box b2 26 [.int .i64 v4.1.P.Sign, .slice as4 ns4 cs4, .int .i64 v4.1.Q.Sign, .slice as5 ns5 cs5], .box b1 26 [.int .i64 f1.P.Sign, .slice as1 ns1 cs1, .int .i64 f1.Q.Sign, .slice as2 ns2 cs2]] w' ∧ Has 156 a [(1, .int .i64 byx1), (3, .pointer (some ⟨b1, 0, none⟩)), (7, .bool v1), (8, .pointer (some ⟨b2, 0, none⟩)), (9, .int .i64 v4.2), (48, .bool v5)]) ?_ ?_
   ·rintro a wx8 ⟨Fx4, hF4, hx7, hax2⟩
    refine rw_apply hax2 ?_
    refine r_move rfl rfl rfl ?_
    obtain ⟨v6, hb4, hm⟩ := bind_some hm
    refine r_mid 13 (fun a w' => ∃ (Fx5 : Frz), Frz.le Fx4 Fx5 ∧ HS F w [] Fx5 [.box b2 26 [.int .i64 v4.1.P.Sign, .slice as4 ns4 cs4, .int .i64 v4.1.Q.Sign, .slice as5 ns5 cs5], .box b1 26 [.int .i64 f1.P.Sign, .slice as1 ns1 cs1, .int .i64 f1.Q.Sign, .slice as2 ns2 cs2]] w' ∧ Has 156 a [(1, .int .i64 byx1), (3, .pointer (some ⟨b1, 0, none⟩)), (7, .bool v1), (62, .bool v6)]) ?_ ?_
    ·rintro a wx9 ⟨Fx5, hF5, hx8, hax3⟩
     refine rw_apply hax3 ?_
     refine r_nil (q_then ?_)
     rcases cond_some hm with ⟨hb5, hm⟩ | ⟨hb5, hm⟩
     ·refine c_lit 62 rfl hb5 ?_
      refine c_true rfl (c_seq (c_region (r_assign rfl rfl rfl (r_nil (q_then (c_ret (q_then_ret ?_)))))))
      refine b_ret1 rfl rfl ?_
      obtain rfl := Option.some.inj hm
      exact ⟨_, _, _, rfl, hx8.pick [] (by decide) rfl, rfl, rfl⟩
     ·refine c_lit 62 rfl hb5 ?_
      refine c_false rfl (c_skip (q_then (c_seq (c_region ?_))))
      refine r_loadBA (cs' := [.int .i64 f1.P.Sign, .slice as1 ns1 cs1, .int .i64 f1.Q.Sign, .slice as2 ns2 cs2]) ag26 sz26 rfl rfl hx8 rfl (i := 1) rfl rfl rfl ?_
      have hG1 := (((hF1.trans hF2).trans hF3).trans hF4).trans hF5
      obtain ⟨v7, hv4, hm⟩ := bind_some hm
      refine r_callG0 ent40 rfl rfl rfl rfl hx8 (frac_Text_ok _ _ _ hv4 hx8.sat (hs1.mono hG1) (hs2.mono hG1) (hg3.mono hG1)) ?_
      rintro _ Fx6 _ wx10 hF6 hx9 ⟨rfl, rfl⟩
      refine r_assign rfl rfl rfl (r_nil (q_then (c_seq (c_seq (c_region ?_)))))
      refine r_loadBA (cs' := [.int .i64 f1.P.Sign, .slice as1 ns1 cs1, .int .i64 f1.Q.Sign, .slice as2 ns2 cs2]) ag26 sz26 rfl rfl hx9 rfl (i := 1) rfl rfl rfl ?_
      obtain ⟨v8, hv5, hm⟩ := bind_some hm
      refine r_callG0 ent25 rfl rfl rfl rfl hx9 (frac_Right_ok _ _ _ hv5 hx9.sat ((hs1.mono hG1).mono hF6) ((hs2.mono hG1).mono hF6)) ?_
      rintro _ Fx7 _ wx11 hF7 hx10 ⟨rfl, rfl⟩
      refine r_not rfl rfl rfl (r_nil (q_then ?_))
      rcases cond_some hm with ⟨hb6, hm⟩ | ⟨hb6, hm⟩
      ·refine c_lit 67 rfl hb6 ?_
       refine c_true rfl (c_seq (c_region (r_move rfl rfl rfl (r_move rfl rfl rfl ?_))))
       obtain ⟨v9, hb7, hm⟩ := bind_some hm
       refine r_mid 3 (fun a w' => wx11 = w' ∧ Has 156 a [(72, .bool v9)]) ?_ ?_
       ·rintro a wx12 ⟨rfl, hax4⟩
        refine rw_apply hax4 ?_
        refine r_assign rfl rfl rfl (r_nil (q_then (c_ret (q_then_ret ?_))))
        refine b_ret1 rfl rfl ?_
        obtain rfl := Option.some.inj hm
        exact ⟨_, _, _, rfl, hx10.pick [] (by decide) rfl, rfl, rfl⟩
       ·clear hm
        rcases cond_some hb7 with ⟨hb8, hb7⟩ | ⟨hb8, hb7⟩
        ·refine r_lit 69 rfl hb8 ?_
         refine r_move rfl rfl rfl ?_
         refine r_str rfl rfl rfl rfl rfl ?_
         refine r_pick_true rfl rfl rfl rfl (r_nil ?_)
         refine q_next (fun a ha => ?_)
         cases hb7
         exact ⟨rfl, ha.cut (l := [72]) rfl⟩
        ·refine r_lit 69 rfl hb8 ?_
         refine r_off rfl (by decide) rfl (r_off rfl (by decide) rfl (r_pick_false rfl rfl rfl rfl (r_nil ?_)))
         refine q_next (fun a ha => ?_)
         cases hb7
         exact ⟨rfl, ha.cut (l := [72]) rfl⟩
      ·refine c_lit 67 rfl hb6 ?_
       refine c_false rfl (c_skip (q_then (c_seq (c_region (r_move rfl rfl rfl ?_)))))
       obtain ⟨v10, hv6, hm⟩ := bind_some hm
       refine r_callG0 ent21 rfl rfl rfl rfl hx10 (frac_Read_ok _ _ _ hv6 hx10.sat (((hg3.mono hG1).mono hF6).mono hF7)) ?_
       rintro _ Fx8 _ wx13 hF8 hx11 ⟨as6, ns6, cs6, as7, ns7, cs7, rfl, rfl, hs6, hs7⟩
       refine r_move rfl rfl rfl (r_extract rfl rfl rfl rfl (r_extract rfl rfl rfl rfl ?_))
       refine r_alloc ze26 rfl rfl rfl hx11 ?_
       intro b3 wx14 hx12
       refine r_store sz26 rfl hx12 rfl rfl rfl rfl (i := 0) rfl rfl rfl rfl ?_
       intro wx15 hx13
       refine r_assign rfl rfl rfl (r_nil (q_then (c_seq (c_region ?_))))
       refine r_fieldAddr fa26_0 rfl rfl rfl ?_
       refine r_loadBA (cs' := [.int .i64 f1.P.Sign, .slice as1 ns1 cs1]) ag24 sz24 rfl rfl hx13 rfl (i := 2) rfl rfl rfl ?_
       refine r_fieldAddr fa26_1 rfl rfl rfl ?_
       refine r_loadBA (cs' := [.int .i64 f1.Q.Sign, .slice as2 ns2 cs2]) ag24 sz24 rfl rfl hx13 rfl (i := 2) rfl rfl rfl ?_
       obtain ⟨v11, hv7, hm⟩ := bind_some hm
       refine r_callG0 ent23 rfl rfl rfl rfl hx13 (frac_New_ok _ _ _ _ hv7 hx13.sat ((((hs1.mono hG1).mono hF6).mono hF7).mono hF8) ((((hs2.mono hG1).mono hF6).mono hF7).mono hF8)) ?_
       rintro _ Fx9 _ wx16 hF9 hx14 ⟨as8, ns8, cs8, as9, ns9, cs9, rfl, rfl, hs8, hs9⟩
       refine r_move rfl rfl rfl (r_extract rfl rfl rfl rfl (r_extract rfl rfl rfl rfl ?_))
       refine r_alloc ze26 rfl rfl rfl hx14 ?_
       intro b4 wx17 hx15
       refine r_store sz26 rfl hx15 rfl rfl rfl rfl (i := 0) rfl rfl rfl rfl ?_
       intro wx18 hx16
       refine r_assign rfl rfl rfl (r_nil (q_then ?_))
       obtain ⟨⟨f2, f3, k1⟩, hb9, hm⟩ := bind_some hm
       refine c_mid (fun a w' => ∃ (Fx10 : Frz) (b5 : Nat) (as10 : Option Addr) (ns10 : Nat) (cs10 : Nat), Frz.le Fx9 Fx10 ∧ HS F w [] Fx10 [.box b5 24 [.int .i64 f2, .slice as10 ns10 cs10], .box b4 26 [.int .i64 v11.1.P.Sign, .slice as8 ns8 cs8, .int .i64 v11.1.Q.Sign, .slice as9 ns9 cs9], .box b3 26 [.int .i64 v10.1.P.Sign, .slice as6 ns6 cs6, .int .i64 v10.1.Q.Sign, .slice as7 ns7 cs7], .box b2 26 [.int .i64 v4.1.P.Sign, .slice as4 ns4 cs4, .int .i64 v4.1.Q.Sign, .slice as5 ns5 cs5], .box b1 26 [.int .i64 f1.P.Sign, .slice as1 ns1 cs1, .int .i64 f1.Q.Sign, .slice as2 ns2 cs2]] w' ∧ (SlR (Rp.int .i64) Fx10 as10 ns10 cs10 f3) ∧ Has 156 a [(1, .int .i64 byx1), (3, .pointer (some ⟨b1, 0, none⟩)), (7, .bool v1), (11, .pointer (some ⟨b3, 0, none⟩)), (12, .int .i64 v10.2), (13, .pointer (some ⟨b4, 0, none⟩)), (14, .int .i64 v11.2), (15, .pointer (some ⟨b5, 0, none⟩)), (16, .int .i64 k1)]) ?_ ?_
       ·rintro a wx19 ⟨Fx10, b5, as10, ns10, cs10, hF10, hx17, hs10, hax5⟩
        refine cw_apply hax5 ?_
        obtain ⟨⟨f4, f5, l1⟩, hb10, hm⟩ := bind_some hm
        refine c_mid (fun a w' => ∃ (Fx11 : Frz) (b6 : Nat) (as11 : Option Addr) (ns11 : Nat) (cs11 : Nat), Frz.le Fx10 Fx11 ∧ HS F w [] Fx11 [.box b6 24 [.int .i64 f4, .slice as11 ns11 cs11], .box b5 24 [.int .i64 f2, .slice as10 ns10 cs10], .box b4 26 [.int .i64 v11.1.P.Sign, .slice as8 ns8 cs8, .int .i64 v11.1.Q.Sign, .slice as9 ns9 cs9], .box b3 26 [.int .i64 v10.1.P.Sign, .slice as6 ns6 cs6, .int .i64 v10.1.Q.Sign, .slice as7 ns7 cs7], .box b2 26 [.int .i64 v4.1.P.Sign, .slice as4 ns4 cs4, .int .i64 v4.1.Q.Sign, .slice as5 ns5 cs5], .box b1 26 [.int .i64 f1.P.Sign, .slice as1 ns1 cs1, .int .i64 f1.Q.Sign, .slice as2 ns2 cs2]] w' ∧ (SlR (Rp.int .i64) Fx11 as11 ns11 cs11 f5) ∧ Has 156 a [(1, .int .i64 byx1), (3, .pointer (some ⟨b1, 0, none⟩)), (7, .bool v1), (11, .pointer (some ⟨b3, 0, none⟩)), (12, .int .i64 v10.2), (13, .pointer (some ⟨b4, 0, none⟩)), (14, .int .i64 v11.2), (15, .pointer (some ⟨b5, 0, none⟩)), (16, .int .i64 k1), (17, .pointer (some ⟨b6, 0, none⟩)), (18, .int .i64 l1)]) ?_ ?_
        ·rintro a wx20 ⟨Fx11, b6, as11, ns11, cs11, hF11, hx18, hs11, hax6⟩
         refine cw_apply hax6 ?_
         refine c_seq (c_region ?_)
         refine r_loadBA (cs' := [.int .i64 f2, .slice as10 ns10 cs10]) ag24 sz24 rfl rfl hx18 rfl (i := 1) rfl rfl rfl ?_
         refine r_loadBA (cs' := [.int .i64 f4, .slice as11 ns11 cs11]) ag24 sz24 rfl rfl hx18 rfl (i := 0) rfl rfl rfl ?_
         obtain ⟨v12, hv8, hm⟩ := bind_some hm
         refine r_callG0 ent23 rfl rfl rfl rfl hx18 (frac_New_ok _ _ _ _ hv8 hx18.sat (hs10.mono hF11) hs11) ?_
         rintro _ Fx12 _ wx21 hF12 hx19 ⟨as12, ns12, cs12, as13, ns13, cs13, rfl, rfl, hs12, hs13⟩
         refine r_move rfl rfl rfl (r_extract rfl rfl rfl rfl (r_extract rfl rfl rfl rfl ?_))
         refine r_alloc ze26 rfl rfl rfl hx19 ?_
         intro b7 wx22 hx20
         refine r_store sz26 rfl hx20 rfl rfl rfl rfl (i := 0) rfl rfl rfl rfl ?_
         intro wx23 hx21
         refine r_assign rfl rfl rfl (r_nil (q_then (c_seq (c_seq (c_region (r_move rfl rfl rfl ?_))))))
         refine r_bin rfl rfl rfl rfl rfl ?_
         refine r_move rfl rfl rfl ?_
         obtain ⟨v13, hb11, hm⟩ := bind_some hm
         refine r_mid 3 (fun a w' => wx23 = w' ∧ Has 156 a [(1, .int .i64 byx1), (3, .pointer (some ⟨b1, 0, none⟩)), (7, .bool v1), (11, .pointer (some ⟨b3, 0, none⟩)), (13, .pointer (some ⟨b4, 0, none⟩)), (16, .int .i64 k1), (18, .int .i64 l1), (19, .pointer (some ⟨b7, 0, none⟩)), (20, .int .i64 v12.2), (113, .bool v13)]) ?_ ?_
         ·rintro a wx24 ⟨rfl, hax7⟩
          refine rw_apply hax7 ?_
          refine r_move rfl rfl rfl ?_
          obtain ⟨v14, hb12, hm⟩ := bind_some hm
          refine r_mid 5 (fun a w' => ∃ (Fx13 : Frz), Frz.le Fx12 Fx13 ∧ HS F w [] Fx13 [.box b7 26 [.int .i64 v12.1.P.Sign, .slice as12 ns12 cs12, .int .i64 v12.1.Q.Sign, .slice as13 ns13 cs13], .box b6 24 [.int .i64 f4, .slice as11 ns11 cs11], .box b5 24 [.int .i64 f2, .slice as10 ns10 cs10], .box b4 26 [.int .i64 v11.1.P.Sign, .slice as8 ns8 cs8, .int .i64 v11.1.Q.Sign, .slice as9 ns9 cs9], .box b3 26 [.int .i64 v10.1.P.Sign, .slice as6 ns6 cs6, .int .i64 v10.1.Q.Sign, .slice as7 ns7 cs7], .box b2 26 [.int .i64 v4.1.P.Sign, .slice as4 ns4 cs4, .int .i64 v4.1.Q.Sign, .slice as5 ns5 cs5], .box b1 26 [.int .i64 f1.P.Sign, .slice as1 ns1 cs1, .int .i64 f1.Q.Sign, .slice as2 ns2 cs2]] w' ∧ Has 156 a [(1, .int .i64 byx1), (3, .pointer (some ⟨b1, 0, none⟩)), (7, .bool v1), (13, .pointer (some ⟨b4, 0, none⟩)), (16, .int .i64 k1), (18, .int .i64 l1), (19, .pointer (some ⟨b7, 0, none⟩)), (20, .int .i64 v12.2), (119, .bool v14)]) ?_ ?_
          ·rintro a wx25 ⟨Fx13, hF13, hx22, hax8⟩
           refine rw_apply hax8 ?_
           refine r_move rfl rfl rfl ?_
           obtain ⟨v15, hb13, hm⟩ := bind_some hm
           refine r_mid 5 (fun a w' => ∃ (Fx14 : Frz), Frz.le Fx13 Fx14 ∧ HS F w [] Fx14 [.box b7 26 [.int .i64 v12.1.P.Sign, .slice as12 ns12 cs12, .int .i64 v12.1.Q.Sign, .slice as13 ns13 cs13], .box b6 24 [.int .i64 f4, .slice as11 ns11 cs11], .box b5 24 [.int .i64 f2, .slice as10 ns10 cs10], .box b4 26 [.int .i64 v11.1.P.Sign, .slice as8 ns8 cs8, .int .i64 v11.1.Q.Sign, .slice as9 ns9 cs9], .box b3 26 [.int .i64 v10.1.P.Sign, .slice as6 ns6 cs6, .int .i64 v10.1.Q.Sign, .slice as7 ns7 cs7], .box b2 26 [.int .i64 v4.1.P.Sign, .slice as4 ns4 cs4, .int .i64 v4.1.Q.Sign, .slice as5 ns5 cs5], .box b1 26 [.int .i64 f1.P.Sign, .slice as1 ns1 cs1, .int .i64 f1.Q.Sign, .slice as2 ns2 cs2]] w' ∧ Has 156 a [(1, .int .i64 byx1), (3, .pointer (some ⟨b1, 0, none⟩)), (7, .bool v1), (16, .int .i64 k1), (18, .int .i64 l1), (19, .pointer (some ⟨b7, 0, none⟩)), (20, .int .i64 v12.2), (125, .bool v15)]) ?_ ?_
           ·rintro a wx26 ⟨Fx14, hF14, hx23, hax9⟩
            refine rw_apply hax9 ?_
            refine r_nil (q_then ?_)
            rcases cond_some hm with ⟨hb14, hm⟩ | ⟨hb14, hm⟩
            ·refine c_lit 125 rfl hb14 ?_
             refine c_true rfl (c_seq (c_region (r_assign rfl rfl rfl (r_nil (q_then (c_ret (q_then_ret ?_)))))))
             refine b_ret1 rfl rfl ?_
             obtain rfl := Option.some.inj hm
             exact ⟨_, _, _, rfl, hx23.pick [] (by decide) rfl, rfl, rfl⟩
            ·refine c_lit 125 rfl hb14 ?_
             refine c_false rfl (c_skip (q_then (c_seq (c_region (r_move rfl rfl rfl (r_move rfl rfl rfl ?_))))))
             obtain ⟨v16, hb15, hm⟩ := bind_some hm
             refine r_mid 3 (fun a w' => wx26 = w' ∧ Has 156 a [(1, .int .i64 byx1), (3, .pointer (some ⟨b1, 0, none⟩)), (18, .int .i64 l1), (19, .pointer (some ⟨b7, 0, none⟩)), (20, .int .i64 v12.2), (130, .bool v16)]) ?_ ?_
             ·rintro a wx27 ⟨rfl, hax10⟩
              refine rw_apply hax10 ?_
              refine r_move rfl rfl rfl ?_
              obtain ⟨v17, hb16, hm⟩ := bind_some hm
              refine r_mid 3 (fun a w' => wx26 = w' ∧ Has 156 a [(1, .int .i64 byx1), (3, .pointer (some ⟨b1, 0, none⟩)), (19, .pointer (some ⟨b7, 0, none⟩)), (20, .int .i64 v12.2), (134, .bool v17)]) ?_ ?_
              ·rintro a wx28 ⟨rfl, hax11⟩
               refine rw_apply hax11 ?_
               refine r_move rfl rfl rfl ?_
               obtain ⟨v18, hb17, hm⟩ := bind_some hm
               refine r_mid 20 (fun a w' => ∃ (Fx15 : Frz), Frz.le Fx14 Fx15 ∧ HS F w [] Fx15 [.box b7 26 [.int .i64 v12.1.P.Sign, .slice as12 ns12 cs12, .int .i64 v12.1.Q.Sign, .slice as13 ns13 cs13], .box b6 24 [.int .i64 f4, .slice as11 ns11 cs11], .box b5 24 [.int .i64 f2, .slice as10 ns10 cs10], .box b4 26 [.int .i64 v11.1.P.Sign, .slice as8 ns8 cs8, .int .i64 v11.1.Q.Sign, .slice as9 ns9 cs9], .box b3 26 [.int .i64 v10.1.P.Sign, .slice as6 ns6 cs6, .int .i64 v10.1.Q.Sign, .slice as7 ns7 cs7], .box b2 26 [.int .i64 v4.1.P.Sign, .slice as4 ns4 cs4, .int .i64 v4.1.Q.Sign, .slice as5 ns5 cs5], .box b1 26 [.int .i64 f1.P.Sign, .slice as1 ns1 cs1, .int .i64 f1.Q.Sign, .slice as2 ns2 cs2]] w' ∧ Has 156 a [(155, .bool v18)]) ?_ ?_
               ·rintro a wx29 ⟨Fx15, hF15, hx24, hax12⟩
                refine rw_apply hax12 ?_
                refine r_assign rfl rfl rfl (r_nil (q_then (c_ret ?_)))
                refine b_ret1 rfl rfl ?_
                obtain rfl := Option.some.inj hm
                exact ⟨_, _, _, rfl, hx24.pick [] (by decide) rfl, rfl, rfl⟩
               ·clear hm
                rcases cond_some hb17 with ⟨hb18, hb17⟩ | ⟨hb18, hb17⟩
                ·refine r_lit 135 rfl hb18 ?_
                 refine r_move rfl rfl rfl ?_
                 refine r_bin rfl rfl rfl rfl rfl ?_
                 refine r_move rfl rfl rfl ?_
                 obtain ⟨v19, hb19, hb17⟩ := bind_some hb17
                 refine r_mid 3 (fun a w' => wx26 = w' ∧ Has 156 a [(1, .int .i64 byx1), (3, .pointer (some ⟨b1, 0, none⟩)), (19, .pointer (some ⟨b7, 0, none⟩)), (20, .int .i64 v12.2), (135, .bool true), (141, .bool v19)]) ?_ ?_
                 ·rintro a wx30 ⟨rfl, hax13⟩
                  refine rw_apply hax13 ?_
                  refine r_move rfl rfl rfl ?_
                  obtain ⟨v20, hb20, hb17⟩ := bind_some hb17
                  refine r_mid 12 (fun a w' => ∃ (Fx16 : Frz), Frz.le Fx14 Fx16 ∧ HS F w [] Fx16 [.box b7 26 [.int .i64 v12.1.P.Sign, .slice as12 ns12 cs12, .int .i64 v12.1.Q.Sign, .slice as13 ns13 cs13], .box b6 24 [.int .i64 f4, .slice as11 ns11 cs11], .box b5 24 [.int .i64 f2, .slice as10 ns10 cs10], .box b4 26 [.int .i64 v11.1.P.Sign, .slice as8 ns8 cs8, .int .i64 v11.1.Q.Sign, .slice as9 ns9 cs9], .box b3 26 [.int .i64 v10.1.P.Sign, .slice as6 ns6 cs6, .int .i64 v10.1.Q.Sign, .slice as7 ns7 cs7], .box b2 26 [.int .i64 v4.1.P.Sign, .slice as4 ns4 cs4, .int .i64 v4.1.Q.Sign, .slice as5 ns5 cs5], .box b1 26 [.int .i64 f1.P.Sign, .slice as1 ns1 cs1, .int .i64 f1.Q.Sign, .slice as2 ns2 cs2]] w' ∧ Has 156 a [(135, .bool true), (154, .bool v20)]) ?_ ?_
                  ·rintro a wx31 ⟨Fx16, hF16, hx25, hax14⟩
                   refine rw_apply hax14 ?_
                   refine r_pick_true rfl rfl rfl rfl (r_nil ?_)
                   refine q_next (fun a ha => ?_)
                   cases hb17
                   exact ⟨_, hF16, hx25.pick [0, 1, 2, 3, 4, 5, 6] (by decide) rfl, ha.cut (l := [155]) rfl⟩
                  ·clear hb17
                   rcases cond_some hb20 with ⟨hb21, hb20⟩ | ⟨hb21, hb20⟩
                   ·refine r_lit 142 rfl hb21 ?_
                    refine r_off rfl (by decide) rfl (r_off rfl (by decide) rfl (r_off rfl (by decide) rfl (r_off rfl (by decide) rfl (r_off rfl (by decide) rfl (r_off rfl (by decide) rfl (r_off rfl (by decide) rfl (r_off rfl (by decide) rfl (r_off rfl (by decide) rfl (r_off rfl (by decide) rfl (r_off rfl (by decide) rfl (r_pick_true rfl rfl rfl rfl (r_nil ?_))))))))))))
                    refine q_next (fun a ha => ?_)
                    cases hb20
                    exact ⟨_, Frz.refl _, hx23.pick [0, 1, 2, 3, 4, 5, 6] (by decide) rfl, ha.cut (l := [135, 154]) rfl⟩
                   ·refine r_lit 142 rfl hb21 ?_
                    refine r_move rfl rfl rfl ?_
                    refine r_bin rfl rfl rfl rfl rfl ?_
                    refine r_move rfl rfl rfl ?_
                    obtain ⟨v21, hb22, hb20⟩ := bind_some hb20
                    refine r_mid 3 (fun a w' => wx26 = w' ∧ Has 156 a [(3, .pointer (some ⟨b1, 0, none⟩)), (19, .pointer (some ⟨b7, 0, none⟩)), (135, .bool true), (142, .bool false), (148, .bool v21)]) ?_ ?_
                    ·rintro a wx32 ⟨rfl, hax15⟩
                     refine rw_apply hax15 ?_
                     refine r_move rfl rfl rfl ?_
                     obtain ⟨v22, hb23, hb20⟩ := bind_some hb20
                     refine r_mid 4 (fun a w' => ∃ (Fx17 : Frz), Frz.le Fx14 Fx17 ∧ HS F w [] Fx17 [.box b7 26 [.int .i64 v12.1.P.Sign, .slice as12 ns12 cs12, .int .i64 v12.1.Q.Sign, .slice as13 ns13 cs13], .box b6 24 [.int .i64 f4, .slice as11 ns11 cs11], .box b5 24 [.int .i64 f2, .slice as10 ns10 cs10], .box b4 26 [.int .i64 v11.1.P.Sign, .slice as8 ns8 cs8, .int .i64 v11.1.Q.Sign, .slice as9 ns9 cs9], .box b3 26 [.int .i64 v10.1.P.Sign, .slice as6 ns6 cs6, .int .i64 v10.1.Q.Sign, .slice as7 ns7 cs7], .box b2 26 [.int .i64 v4.1.P.Sign, .slice as4 ns4 cs4, .int .i64 v4.1.Q.Sign, .slice as5 ns5 cs5], .box b1 26 [.int .i64 f1.P.Sign, .slice as1 ns1 cs1, .int .i64 f1.Q.Sign, .slice as2 ns2 cs2]] w' ∧ Has 156 a [(135, .bool true), (142, .bool false), (153, .bool v22)]) ?_ ?_
                     ·rintro a wx33 ⟨Fx17, hF17, hx26, hax16⟩
                      refine rw_apply hax16 ?_
                      refine r_pick_false rfl rfl rfl rfl (r_nil ?_)
                      refine q_next (fun a ha => ?_)
                      cases hb20
                      exact ⟨_, hF17, hx26.pick [0, 1, 2, 3, 4, 5, 6] (by decide) rfl, ha.cut (l := [135, 154]) rfl⟩
                     ·clear hb20
                      rcases cond_some hb23 with ⟨hb24, hb23⟩ | ⟨hb24, hb23⟩
                      ·refine r_lit 149 rfl hb24 ?_
                       refine r_loadBA (cs' := [.int .i64 v12.1.P.Sign, .slice as12 ns12 cs12, .int .i64 v12.1.Q.Sign, .slice as13 ns13 cs13]) ag26 sz26 rfl rfl hx23 rfl (i := 0) rfl rfl rfl ?_
                       refine r_loadBA (cs' := [.int .i64 f1.P.Sign, .slice as1 ns1 cs1, .int .i64 f1.Q.Sign, .slice as2 ns2 cs2]) ag26 sz26 rfl rfl hx23 rfl (i := 6) rfl rfl rfl ?_
                       have hG2 := ((((((((hG1.trans hF6).trans hF7).trans hF8).trans hF9).trans hF10).trans hF11).trans hF12).trans hF13).trans hF14
                       obtain ⟨v23, hv9, hb23⟩ := bind_some hb23
                       refine r_callG0 ent14 rfl rfl rfl rfl hx23 (ref05_Same_ok _ _ _ _ hv9 hx23.sat ((hs12.mono hF13).mono hF14) ((hs13.mono hF13).mono hF14) (hs1.mono hG2) (hs2.mono hG2)) ?_
                       rintro _ Fx18 _ wx34 hF18 hx27 ⟨rfl, rfl⟩
                       refine r_pick_true rfl rfl rfl rfl (r_nil ?_)
                       refine q_next (fun a ha => ?_)
                       cases hb23
                       exact ⟨_, hF18, hx27.pick [0, 1, 2, 3, 4, 5, 6] (by decide) rfl, ha.cut (l := [135, 142, 153]) rfl⟩
                      ·refine r_lit 149 rfl hb24 ?_
                       refine r_off rfl (by decide) rfl (r_off rfl (by decide) rfl (r_off rfl (by decide) rfl (r_pick_false rfl rfl rfl rfl (r_nil ?_))))
                       refine q_next (fun a ha => ?_)
                       cases hb23
                       exact ⟨_, Frz.refl _, hx23.pick [0, 1, 2, 3, 4, 5, 6] (by decide) rfl, ha.cut (l := [135, 142, 153]) rfl⟩
                    ·clear hb20
                     rcases cond_some hb22 with ⟨hb25, hb22⟩ | ⟨hb25, hb22⟩
                     ·refine r_lit 145 rfl hb25 ?_
                      refine r_move rfl rfl rfl ?_
                      refine r_bin rfl rfl rfl rfl rfl ?_
                      refine r_pick_true rfl rfl rfl rfl (r_nil ?_)
                      refine q_next (fun a ha => ?_)
                      cases hb22
                      exact ⟨rfl, ha.cut (l := [3, 19, 135, 142, 148]) rfl⟩
                     ·refine r_lit 145 rfl hb25 ?_
                      refine r_off rfl (by decide) rfl (r_off rfl (by decide) rfl (r_pick_false rfl rfl rfl rfl (r_nil ?_)))
                      refine q_next (fun a ha => ?_)
                      cases hb22
                      exact ⟨rfl, ha.cut (l := [3, 19, 135, 142, 148]) rfl⟩
                 ·clear hb17
                  rcases cond_some hb19 with ⟨hb26, hb19⟩ | ⟨hb26, hb19⟩
                  ·refine r_lit 138 rfl hb26 ?_
                   refine r_move rfl rfl rfl ?_
                   refine r_bin rfl rfl rfl rfl rfl ?_
                   refine r_pick_true rfl rfl rfl rfl (r_nil ?_)
                   refine q_next (fun a ha => ?_)
                   cases hb19
                   exact ⟨rfl, ha.cut (l := [1, 3, 19, 20, 135, 141]) rfl⟩
                  ·refine r_lit 138 rfl hb26 ?_
                   refine r_off rfl (by decide) rfl (r_off rfl (by decide) rfl (r_pick_false rfl rfl rfl rfl (r_nil ?_)))
                   refine q_next (fun a ha => ?_)
                   cases hb19
                   exact ⟨rfl, ha.cut (l := [1, 3, 19, 20, 135, 141]) rfl⟩
                ·refine r_lit 135 rfl hb18 ?_
                 refine r_off rfl (by decide) rfl (r_off rfl (by decide) rfl (r_off rfl (by decide) rfl (r_off rfl (by decide) rfl (r_off rfl (by decide) rfl (r_off rfl (by decide) rfl (r_off rfl (by decide) rfl (r_off rfl (by decide) rfl (r_off rfl (by decide) rfl (r_off rfl (by decide) rfl (r_off rfl (by decide) rfl (r_off rfl (by decide) rfl (r_off rfl (by decide) rfl (r_off rfl (by decide) rfl (r_off rfl (by decide) rfl (r_off rfl (by decide) rfl (r_off rfl (by decide) rfl (r_off rfl (by decide) rfl (r_off rfl (by decide) rfl (r_pick_false rfl rfl rfl rfl (r_nil ?_))))))))))))))))))))
                 refine q_next (fun a ha => ?_)
                 cases hb17
                 exact ⟨_, Frz.refl _, hx23.pick [0, 1, 2, 3, 4, 5, 6] (by decide) rfl, ha.cut (l := [155]) rfl⟩
              ·clear hm
               rcases cond_some hb16 with ⟨hb27, hb16⟩ | ⟨hb27, hb16⟩
               ·refine r_lit 131 rfl hb27 ?_
                refine r_move rfl rfl rfl ?_
                refine r_bin rfl rfl rfl rfl rfl ?_
                refine r_pick_true rfl rfl rfl rfl (r_nil ?_)
                refine q_next (fun a ha => ?_)
                cases hb16
                exact ⟨rfl, ha.cut (l := [1, 3, 19, 20, 134]) rfl⟩
               ·refine r_lit 131 rfl hb27 ?_
                refine r_off rfl (by decide) rfl (r_off rfl (by decide) rfl (r_pick_false rfl rfl rfl rfl (r_nil ?_)))
                refine q_next (fun a ha => ?_)
                cases hb16
                exact ⟨rfl, ha.cut (l := [1, 3, 19, 20, 134]) rfl⟩
             ·clear hm
              rcases cond_some hb15 with ⟨hb28, hb15⟩ | ⟨hb28, hb15⟩
              ·refine r_lit 127 rfl hb28 ?_
               refine r_move rfl rfl rfl ?_
               refine r_bin rfl rfl rfl rfl rfl ?_
               refine r_pick_true rfl rfl rfl rfl (r_nil ?_)
               refine q_next (fun a ha => ?_)
               cases hb15
               exact ⟨rfl, ha.cut (l := [1, 3, 18, 19, 20, 130]) rfl⟩
              ·refine r_lit 127 rfl hb28 ?_
               refine r_off rfl (by decide) rfl (r_off rfl (by decide) rfl (r_pick_false rfl rfl rfl rfl (r_nil ?_)))
               refine q_next (fun a ha => ?_)
               cases hb15
               exact ⟨rfl, ha.cut (l := [1, 3, 18, 19, 20, 130]) rfl⟩
           ·clear hm
            rcases cond_some hb13 with ⟨hb29, hb13⟩ | ⟨hb29, hb13⟩
            ·refine r_lit 120 rfl hb29 ?_
             refine r_off rfl (by decide) rfl (r_off rfl (by decide) rfl (r_off rfl (by decide) rfl (r_off rfl (by decide) rfl (r_pick_true rfl rfl rfl rfl (r_nil ?_)))))
             refine q_next (fun a ha => ?_)
             cases hb13
             exact ⟨_, Frz.refl _, hx22.pick [0, 1, 2, 3, 4, 5, 6] (by decide) rfl, ha.cut (l := [1, 3, 7, 16, 18, 19, 20, 125]) rfl⟩
            ·refine r_lit 120 rfl hb29 ?_
             refine r_loadBA (cs' := [.int .i64 v11.1.P.Sign, .slice as8 ns8 cs8, .int .i64 v11.1.Q.Sign, .slice as9 ns9 cs9]) ag26 sz26 rfl rfl hx22 rfl (i := 3) rfl rfl rfl ?_
             refine r_loadBA (cs' := [.int .i64 f1.P.Sign, .slice as1 ns1 cs1, .int .i64 f1.Q.Sign, .slice as2 ns2 cs2]) ag26 sz26 rfl rfl hx22 rfl (i := 6) rfl rfl rfl ?_
             have hG3 := ((hF10.trans hF11).trans hF12).trans hF13
             have hG4 := (((((((hG1.trans hF6).trans hF7).trans hF8).trans hF9).trans hF10).trans hF11).trans hF12).trans hF13
             obtain ⟨v24, hv10, hb13⟩ := bind_some hb13
             refine r_callG0 ent14 rfl rfl rfl rfl hx22 (ref05_Same_ok _ _ _ _ hv10 hx22.sat (hs8.mono hG3) (hs9.mono hG3) (hs1.mono hG4) (hs2.mono hG4)) ?_
             rintro _ Fx19 _ wx35 hF19 hx28 ⟨rfl, rfl⟩
             refine r_not rfl rfl rfl (r_pick_false rfl rfl rfl rfl (r_nil ?_))
             refine q_next (fun a ha => ?_)
             cases hb13
             exact ⟨_, hF19, hx28.pick [0, 1, 2, 3, 4, 5, 6] (by decide) rfl, ha.cut (l := [1, 3, 7, 16, 18, 19, 20, 125]) rfl⟩
          ·clear hm
           rcases cond_some hb12 with ⟨hb30, hb12⟩ | ⟨hb30, hb12⟩
           ·refine r_lit 114 rfl hb30 ?_
            refine r_off rfl (by decide) rfl (r_off rfl (by decide) rfl (r_off rfl (by decide) rfl (r_off rfl (by decide) rfl (r_pick_true rfl rfl rfl rfl (r_nil ?_)))))
            refine q_next (fun a ha => ?_)
            cases hb12
            exact ⟨_, Frz.refl _, hx21.pick [0, 1, 2, 3, 4, 5, 6] (by decide) rfl, ha.cut (l := [1, 3, 7, 13, 16, 18, 19, 20, 119]) rfl⟩
           ·refine r_lit 114 rfl hb30 ?_
            refine r_loadBA (cs' := [.int .i64 v10.1.P.Sign, .slice as6 ns6 cs6, .int .i64 v10.1.Q.Sign, .slice as7 ns7 cs7]) ag26 sz26 rfl rfl hx21 rfl (i := 4) rfl rfl rfl ?_
            refine r_loadBA (cs' := [.int .i64 f1.P.Sign, .slice as1 ns1 cs1, .int .i64 f1.Q.Sign, .slice as2 ns2 cs2]) ag26 sz26 rfl rfl hx21 rfl (i := 6) rfl rfl rfl ?_
            have hG5 := ((hF9.trans hF10).trans hF11).trans hF12
            have hG6 := ((((((hG1.trans hF6).trans hF7).trans hF8).trans hF9).trans hF10).trans hF11).trans hF12
            obtain ⟨v25, hv11, hb12⟩ := bind_some hb12
            refine r_callG0 ent14 rfl rfl rfl rfl hx21 (ref05_Same_ok _ _ _ _ hv11 hx21.sat (hs6.mono hG5) (hs7.mono hG5) (hs1.mono hG6) (hs2.mono hG6)) ?_
            rintro _ Fx20 _ wx36 hF20 hx29 ⟨rfl, rfl⟩
            refine r_not rfl rfl rfl (r_pick_false rfl rfl rfl rfl (r_nil ?_))
            refine q_next (fun a ha => ?_)
            cases hb12
            exact ⟨_, hF20, hx29.pick [0, 1, 2, 3, 4, 5, 6] (by decide) rfl, ha.cut (l := [1, 3, 7, 13, 16, 18, 19, 20, 119]) rfl⟩
         ·clear hm
          rcases cond_some hb11 with ⟨hb31, hb11⟩ | ⟨hb31, hb11⟩
          ·refine r_lit 110 rfl hb31 ?_
           refine r_off rfl (by decide) rfl (r_off rfl (by decide) rfl (r_pick_true rfl rfl rfl rfl (r_nil ?_)))
           refine q_next (fun a ha => ?_)
           cases hb11
           exact ⟨rfl, ha.cut (l := [1, 3, 7, 11, 13, 16, 18, 19, 20, 113]) rfl⟩
          ·refine r_lit 110 rfl hb31 ?_
           refine r_move rfl rfl rfl ?_
           refine r_bin rfl rfl rfl rfl rfl ?_
           refine r_pick_false rfl rfl rfl rfl (r_nil ?_)
           refine q_next (fun a ha => ?_)
           cases hb11
           exact ⟨rfl, ha.cut (l := [1, 3, 7, 11, 13, 16, 18, 19, 20, 113]) rfl⟩
        ·clear hm
         refine c_regionH (SH Fx10 [.box b5 24 [.int .i64 f2, .slice as10 ns10 cs10], .box b4 26 [.int .i64 v11.1.P.Sign, .slice as8 ns8 cs8, .int .i64 v11.1.Q.Sign, .slice as9 ns9 cs9], .box b3 26 [.int .i64 v10.1.P.Sign, .slice as6 ns6 cs6, .int .i64 v10.1.Q.Sign, .slice as7 ns7 cs7], .box b2 26 [.int .i64 v4.1.P.Sign, .slice as4 ns4 cs4, .int .i64 v4.1.Q.Sign, .slice as5 ns5 cs5], .box b1 26 [.int .i64 f1.P.Sign, .slice as1 ns1 cs1, .int .i64 f1.Q.Sign, .slice as2 ns2 cs2]]) 11 rfl (by kernel_rfl) hx17 ?_
         intro wx37 hx30
         refine d_take 0 (v := .pointer (some ⟨b1, 2, none⟩)) rfl (by kernel_rfl) (by kernel_rfl) (by kernel_rfl) rfl rfl rfl rfl (hx30.sh (Frz.refl _) [0, 1, 2, 3, 4] (by decide) rfl) (fun _ hC => ?_) ?_
         ·obtain ⟨_, _, hleq, hq⟩ := hC
          refine r_fieldAddr fa26_1 rfl rfl rfl (r_nil (qq rfl))
         refine d_take 1 (v := .agg #[.int .i64 f1.Q.Sign, .slice as2 ns2 cs2]) rfl (by kernel_rfl) (by kernel_rfl) (by kernel_rfl) rfl rfl rfl rfl (hx30.sh (Frz.refl _) [0, 1, 2, 3, 4] (by decide) rfl) (fun _ hC => ?_) ?_
         ·obtain ⟨_, _, hleq, hq⟩ := hC
          refine r_loadBA (cs' := [.int .i64 f1.Q.Sign, .slice as2 ns2 cs2]) ag24 sz24 rfl rfl hq rfl (i := 4) rfl rfl rfl (r_nil (qq rfl))
         refine d_take 2 (v := .int .i64 byx1) rfl (by kernel_rfl) (by kernel_rfl) (by kernel_rfl) rfl rfl rfl rfl (hx30.sh (Frz.refl _) [0, 1, 2, 3, 4] (by decide) rfl) (fun _ hC => ?_) ?_
         ·obtain ⟨_, _, hleq, hq⟩ := hC
          refine r_move rfl rfl rfl (r_nil (qq rfl))
         refine d_two 3 8 rfl rfl (by kernel_rfl) ?_ ?_
         ·obtain ⟨v26, hv12, hb10⟩ := bind_some hb10
          refine r_callG0 ent48 rfl rfl rfl rfl hx30 (big_Of_ok _ _ _ hv12 hx30.sat) ?_
          rintro _ Fx21 _ wx38 hF21 hx31 ⟨as14, ns14, cs14, rfl, rfl, hs14⟩
          refine d_next (hx31.sh hF21 [0, 1, 2, 3, 4] (by decide) rfl) ?_
          refine d_two 4 8 rfl rfl (by kernel_rfl) ?_ ?_
          ·have hG7 := (((((hG1.trans hF6).trans hF7).trans hF8).trans hF9).trans hF10).trans hF21
           obtain ⟨v27, hv13, hb10⟩ := bind_some hb10
           refine r_callG0 ent47 rfl rfl rfl rfl hx31 (big_Mul_ok _ _ _ _ hv13 hx31.sat (hs2.mono hG7) hs14) ?_
           rintro _ Fx22 _ wx39 hF22 hx32 ⟨as15, ns15, cs15, rfl, rfl, hs15⟩
           refine d_next (hx32.sh (hF21.trans hF22) [0, 1, 2, 3, 4] (by decide) rfl) ?_
           refine d_take 5 (v := .tuple #[.agg #[.int .i64 v27.1.Sign, .slice as15 ns15 cs15], .int .i64 v27.2]) rfl (by kernel_rfl) (by kernel_rfl) (by kernel_rfl) rfl rfl rfl rfl (hx32.sh (hF21.trans hF22) [0, 1, 2, 3, 4] (by decide) rfl) (fun _ hC => ?_) ?_
           ·obtain ⟨_, _, hleq, hq⟩ := hC
            refine r_move rfl rfl rfl (r_nil (qq rfl))
           refine d_take 6 (v := .agg #[.int .i64 v27.1.Sign, .slice as15 ns15 cs15]) rfl (by kernel_rfl) (by kernel_rfl) (by kernel_rfl) rfl rfl rfl rfl (hx32.sh (hF21.trans hF22) [0, 1, 2, 3, 4] (by decide) rfl) (fun _ hC => ?_) ?_
           ·obtain ⟨_, _, hleq, hq⟩ := hC
            refine r_extract rfl rfl rfl rfl (r_nil (qq rfl))
           refine d_take 7 (v := .int .i64 v27.2) rfl (by kernel_rfl) (by kernel_rfl) (by kernel_rfl) rfl rfl rfl rfl (hx32.sh (hF21.trans hF22) [0, 1, 2, 3, 4] (by decide) rfl) (fun _ hC => ?_) ?_
           ·obtain ⟨_, _, hleq, hq⟩ := hC
            refine r_extract rfl rfl rfl rfl (r_nil (qq rfl))
           refine d_step 8 rfl (by kernel_rfl) ?_
           refine r_alloc ze24 rfl rfl rfl hx32 ?_
           intro b8 wx40 hx33
           refine d_next (hx33.sh (hF21.trans hF22) [1, 2, 3, 4, 5] (by decide) rfl) ?_
           refine d_step 9 rfl (by kernel_rfl) ?_
           refine r_store sz24 rfl hx33 rfl rfl rfl rfl (i := 0) rfl rfl rfl rfl ?_
           intro wx41 hx34
           refine d_next (hx34.sh (hF21.trans hF22) [1, 2, 3, 4, 5] (by decide) rfl) ?_
           refine d_take 10 (v := .int .i64 v27.2) rfl (by kernel_rfl) (by kernel_rfl) (by kernel_rfl) rfl rfl rfl rfl (hx34.sh (hF21.trans hF22) [1, 2, 3, 4, 5] (by decide) rfl) (fun _ hC => ?_) ?_
           ·obtain ⟨_, _, hleq, hq⟩ := hC
            refine r_assign rfl rfl rfl (r_nil (qq rfl))
           refine d_done (by kernel_rfl) ?_
           refine q_next (fun a ha => ?_)
           cases hb10
           exact ⟨_, b8, as15, ns15, cs15, (hF21.trans hF22), hx34.pick [0, 1, 2, 3, 4, 5] (by decide) rfl, hs15, ha.cut (l := [1, 3, 7, 11, 12, 13, 14, 15, 16, 17, 18]) rfl⟩
          ·refine r_alloc ze24 rfl rfl rfl hx31 ?_
           intro b8 wx39 hx32
           refine d_next (hx32.sh hF21 [1, 2, 3, 4, 5] (by decide) rfl) ?_
           refine d_step 4 rfl (by kernel_rfl) ?_
           have hG7 := (((((hG1.trans hF6).trans hF7).trans hF8).trans hF9).trans hF10).trans hF21
           obtain ⟨v27, hv13, hb10⟩ := bind_some hb10
           refine r_callG0 ent47 rfl rfl rfl rfl hx32 (big_Mul_ok _ _ _ _ hv13 hx32.sat (hs2.mono hG7) hs14) ?_
           rintro _ Fx22 _ wx40 hF22 hx33 ⟨as15, ns15, cs15, rfl, rfl, hs15⟩
           refine d_next (hx33.sh (hF21.trans hF22) [1, 2, 3, 4, 5] (by decide) rfl) ?_
           refine d_take 5 (v := .tuple #[.agg #[.int .i64 v27.1.Sign, .slice as15 ns15 cs15], .int .i64 v27.2]) rfl (by kernel_rfl) (by kernel_rfl) (by kernel_rfl) rfl rfl rfl rfl (hx33.sh (hF21.trans hF22) [1, 2, 3, 4, 5] (by decide) rfl) (fun _ hC => ?_) ?_
           ·obtain ⟨_, _, hleq, hq⟩ := hC
            refine r_move rfl rfl rfl (r_nil (qq rfl))
           refine d_take 6 (v := .agg #[.int .i64 v27.1.Sign, .slice as15 ns15 cs15]) rfl (by kernel_rfl) (by kernel_rfl) (by kernel_rfl) rfl rfl rfl rfl (hx33.sh (hF21.trans hF22) [1, 2, 3, 4, 5] (by decide) rfl) (fun _ hC => ?_) ?_
           ·obtain ⟨_, _, hleq, hq⟩ := hC
            refine r_extract rfl rfl rfl rfl (r_nil (qq rfl))
           refine d_take 7 (v := .int .i64 v27.2) rfl (by kernel_rfl) (by kernel_rfl) (by kernel_rfl) rfl rfl rfl rfl (hx33.sh (hF21.trans hF22) [1, 2, 3, 4, 5] (by decide) rfl) (fun _ hC => ?_) ?_
           ·obtain ⟨_, _, hleq, hq⟩ := hC
            refine r_extract rfl rfl rfl rfl (r_nil (qq rfl))
           refine d_step 9 rfl (by kernel_rfl) ?_
           refine r_store sz24 rfl hx33 rfl rfl rfl rfl (i := 0) rfl rfl rfl rfl ?_
           intro wx41 hx34
           refine d_next (hx34.sh (hF21.trans hF22) [1, 2, 3, 4, 5] (by decide) rfl) ?_
           refine d_take 10 (v := .int .i64 v27.2) rfl (by kernel_rfl) (by kernel_rfl) (by kernel_rfl) rfl rfl rfl rfl (hx34.sh (hF21.trans hF22) [1, 2, 3, 4, 5] (by decide) rfl) (fun _ hC => ?_) ?_
           ·obtain ⟨_, _, hleq, hq⟩ := hC
            refine r_assign rfl rfl rfl (r_nil (qq rfl))
           refine d_done (by kernel_rfl) ?_
           refine q_next (fun a ha => ?_)
           cases hb10
           exact ⟨_, b8, as15, ns15, cs15, (hF21.trans hF22), hx34.pick [0, 1, 2, 3, 4, 5] (by decide) rfl, hs15, ha.cut (l := [1, 3, 7, 11, 12, 13, 14, 15, 16, 17, 18]) rfl⟩
         ·refine r_alloc ze24 rfl rfl rfl hx30 ?_
          intro b8 wx38 hx31
          refine d_next (hx31.sh (Frz.refl _) [1, 2, 3, 4, 5] (by decide) rfl) ?_
          refine d_step 3 rfl (by kernel_rfl) ?_
          obtain ⟨v26, hv12, hb10⟩ := bind_some hb10
          refine r_callG0 ent48 rfl rfl rfl rfl hx31 (big_Of_ok _ _ _ hv12 hx31.sat) ?_
          rintro _ Fx21 _ wx39 hF21 hx32 ⟨as14, ns14, cs14, rfl, rfl, hs14⟩
          refine d_next (hx32.sh hF21 [1, 2, 3, 4, 5] (by decide) rfl) ?_
          refine d_step 4 rfl (by kernel_rfl) ?_
          have hG7 := (((((hG1.trans hF6).trans hF7).trans hF8).trans hF9).trans hF10).trans hF21
          obtain ⟨v27, hv13, hb10⟩ := bind_some hb10
          refine r_callG0 ent47 rfl rfl rfl rfl hx32 (big_Mul_ok _ _ _ _ hv13 hx32.sat (hs2.mono hG7) hs14) ?_
          rintro _ Fx22 _ wx40 hF22 hx33 ⟨as15, ns15, cs15, rfl, rfl, hs15⟩
          refine d_next (hx33.sh (hF21.trans hF22) [1, 2, 3, 4, 5] (by decide) rfl) ?_
          refine d_take 5 (v := .tuple #[.agg #[.int .i64 v27.1.Sign, .slice as15 ns15 cs15], .int .i64 v27.2]) rfl (by kernel_rfl) (by kernel_rfl) (by kernel_rfl) rfl rfl rfl rfl (hx33.sh (hF21.trans hF22) [1, 2, 3, 4, 5] (by decide) rfl) (fun _ hC => ?_) ?_
          ·obtain ⟨_, _, hleq, hq⟩ := hC
           refine r_move rfl rfl rfl (r_nil (qq rfl))
          refine d_take 6 (v := .agg #[.int .i64 v27.1.Sign, .slice as15 ns15 cs15]) rfl (by kernel_rfl) (by kernel_rfl) (by kernel_rfl) rfl rfl rfl rfl (hx33.sh (hF21.trans hF22) [1, 2, 3, 4, 5] (by decide) rfl) (fun _ hC => ?_) ?_
          ·obtain ⟨_, _, hleq, hq⟩ := hC
           refine r_extract rfl rfl rfl rfl (r_nil (qq rfl))
          refine d_take 7 (v := .int .i64 v27.2) rfl (by kernel_rfl) (by kernel_rfl) (by kernel_rfl) rfl rfl rfl rfl (hx33.sh (hF21.trans hF22) [1, 2, 3, 4, 5] (by decide) rfl) (fun _ hC => ?_) ?_
          ·obtain ⟨_, _, hleq, hq⟩ := hC
           refine r_extract rfl rfl rfl rfl (r_nil (qq rfl))
          refine d_step 9 rfl (by kernel_rfl) ?_
          refine r_store sz24 rfl hx33 rfl rfl rfl rfl (i := 0) rfl rfl rfl rfl ?_
          intro wx41 hx34
          refine d_next (hx34.sh (hF21.trans hF22) [1, 2, 3, 4, 5] (by decide) rfl) ?_
          refine d_take 10 (v := .int .i64 v27.2) rfl (by kernel_rfl) (by kernel_rfl) (by kernel_rfl) rfl rfl rfl rfl (hx34.sh (hF21.trans hF22) [1, 2, 3, 4, 5] (by decide) rfl) (fun _ hC => ?_) ?_
          ·obtain ⟨_, _, hleq, hq⟩ := hC
           refine r_assign rfl rfl rfl (r_nil (qq rfl))
          refine d_done (by kernel_rfl) ?_
          refine q_next (fun a ha => ?_)
          cases hb10
          exact ⟨_, b8, as15, ns15, cs15, (hF21.trans hF22), hx34.pick [0, 1, 2, 3, 4, 5] (by decide) rfl, hs15, ha.cut (l := [1, 3, 7, 11, 12, 13, 14, 15, 16, 17, 18]) rfl⟩
       ·clear hm
        refine c_regionH (SH Fx9 [.box b4 26 [.int .i64 v11.1.P.Sign, .slice as8 ns8 cs8, .int .i64 v11.1.Q.Sign, .slice as9 ns9 cs9], .box b3 26 [.int .i64 v10.1.P.Sign, .slice as6 ns6 cs6, .int .i64 v10.1.Q.Sign, .slice as7 ns7 cs7], .box b2 26 [.int .i64 v4.1.P.Sign, .slice as4 ns4 cs4, .int .i64 v4.1.Q.Sign, .slice as5 ns5 cs5], .box b1 26 [.int .i64 f1.P.Sign, .slice as1 ns1 cs1, .int .i64 f1.Q.Sign, .slice as2 ns2 cs2]]) 11 rfl (by kernel_rfl) hx16 ?_
        intro wx42 hx35
        refine d_take 0 (v := .pointer (some ⟨b1, 0, none⟩)) rfl (by kernel_rfl) (by kernel_rfl) (by kernel_rfl) rfl rfl rfl rfl (hx35.sh (Frz.refl _) [0, 1, 2, 3] (by decide) rfl) (fun _ hC => ?_) ?_
        ·obtain ⟨_, _, hleq, hq⟩ := hC
         refine r_fieldAddr fa26_0 rfl rfl rfl (r_nil (qq rfl))
        refine d_take 1 (v := .agg #[.int .i64 f1.P.Sign, .slice as1 ns1 cs1]) rfl (by kernel_rfl) (by kernel_rfl) (by kernel_rfl) rfl rfl rfl rfl (hx35.sh (Frz.refl _) [0, 1, 2, 3] (by decide) rfl) (fun _ hC => ?_) ?_
        ·obtain ⟨_, _, hleq, hq⟩ := hC
         refine r_loadBA (cs' := [.int .i64 f1.P.Sign, .slice as1 ns1 cs1]) ag24 sz24 rfl rfl hq rfl (i := 3) rfl rfl rfl (r_nil (qq rfl))
        refine d_take 2 (v := .int .i64 byx1) rfl (by kernel_rfl) (by kernel_rfl) (by kernel_rfl) rfl rfl rfl rfl (hx35.sh (Frz.refl _) [0, 1, 2, 3] (by decide) rfl) (fun _ hC => ?_) ?_
        ·obtain ⟨_, _, hleq, hq⟩ := hC
         refine r_move rfl rfl rfl (r_nil (qq rfl))
        refine d_two 3 8 rfl rfl (by kernel_rfl) ?_ ?_
        ·obtain ⟨v28, hv14, hb9⟩ := bind_some hb9
         refine r_callG0 ent48 rfl rfl rfl rfl hx35 (big_Of_ok _ _ _ hv14 hx35.sat) ?_
         rintro _ Fx23 _ wx43 hF23 hx36 ⟨as16, ns16, cs16, rfl, rfl, hs16⟩
         refine d_next (hx36.sh hF23 [0, 1, 2, 3] (by decide) rfl) ?_
         refine d_two 4 8 rfl rfl (by kernel_rfl) ?_ ?_
         ·have hG8 := ((((hG1.trans hF6).trans hF7).trans hF8).trans hF9).trans hF23
          obtain ⟨v29, hv15, hb9⟩ := bind_some hb9
          refine r_callG0 ent47 rfl rfl rfl rfl hx36 (big_Mul_ok _ _ _ _ hv15 hx36.sat (hs1.mono hG8) hs16) ?_
          rintro _ Fx24 _ wx44 hF24 hx37 ⟨as17, ns17, cs17, rfl, rfl, hs17⟩
          refine d_next (hx37.sh (hF23.trans hF24) [0, 1, 2, 3] (by decide) rfl) ?_
          refine d_take 5 (v := .tuple #[.agg #[.int .i64 v29.1.Sign, .slice as17 ns17 cs17], .int .i64 v29.2]) rfl (by kernel_rfl) (by kernel_rfl) (by kernel_rfl) rfl rfl rfl rfl (hx37.sh (hF23.trans hF24) [0, 1, 2, 3] (by decide) rfl) (fun _ hC => ?_) ?_
          ·obtain ⟨_, _, hleq, hq⟩ := hC
           refine r_move rfl rfl rfl (r_nil (qq rfl))
          refine d_take 6 (v := .agg #[.int .i64 v29.1.Sign, .slice as17 ns17 cs17]) rfl (by kernel_rfl) (by kernel_rfl) (by kernel_rfl) rfl rfl rfl rfl (hx37.sh (hF23.trans hF24) [0, 1, 2, 3] (by decide) rfl) (fun _ hC => ?_) ?_
          ·obtain ⟨_, _, hleq, hq⟩ := hC
           refine r_extract rfl rfl rfl rfl (r_nil (qq rfl))
          refine d_take 7 (v := .int .i64 v29.2) rfl (by kernel_rfl) (by kernel_rfl) (by kernel_rfl) rfl rfl rfl rfl (hx37.sh (hF23.trans hF24) [0, 1, 2, 3] (by decide) rfl) (fun _ hC => ?_) ?_
          ·obtain ⟨_, _, hleq, hq⟩ := hC
           refine r_extract rfl rfl rfl rfl (r_nil (qq rfl))
          refine d_step 8 rfl (by kernel_rfl) ?_
          refine r_alloc ze24 rfl rfl rfl hx37 ?_
          intro b9 wx45 hx38
          refine d_next (hx38.sh (hF23.trans hF24) [1, 2, 3, 4] (by decide) rfl) ?_
          refine d_step 9 rfl (by kernel_rfl) ?_
          refine r_store sz24 rfl hx38 rfl rfl rfl rfl (i := 0) rfl rfl rfl rfl ?_
          intro wx46 hx39
          refine d_next (hx39.sh (hF23.trans hF24) [1, 2, 3, 4] (by decide) rfl) ?_
          refine d_take 10 (v := .int .i64 v29.2) rfl (by kernel_rfl) (by kernel_rfl) (by kernel_rfl) rfl rfl rfl rfl (hx39.sh (hF23.trans hF24) [1, 2, 3, 4] (by decide) rfl) (fun _ hC => ?_) ?_
          ·obtain ⟨_, _, hleq, hq⟩ := hC
           refine r_assign rfl rfl rfl (r_nil (qq rfl))
          refine d_done (by kernel_rfl) ?_
          refine q_next (fun a ha => ?_)
          cases hb9
          exact ⟨_, b9, as17, ns17, cs17, (hF23.trans hF24), hx39.pick [0, 1, 2, 3, 4] (by decide) rfl, hs17, ha.cut (l := [1, 3, 7, 11, 12, 13, 14, 15, 16]) rfl⟩
         ·refine r_alloc ze24 rfl rfl rfl hx36 ?_
          intro b9 wx44 hx37
          refine d_next (hx37.sh hF23 [1, 2, 3, 4] (by decide) rfl) ?_
          refine d_step 4 rfl (by kernel_rfl) ?_
          have hG8 := ((((hG1.trans hF6).trans hF7).trans hF8).trans hF9).trans hF23
          obtain ⟨v29, hv15, hb9⟩ := bind_some hb9
          refine r_callG0 ent47 rfl rfl rfl rfl hx37 (big_Mul_ok _ _ _ _ hv15 hx37.sat (hs1.mono hG8) hs16) ?_
          rintro _ Fx24 _ wx45 hF24 hx38 ⟨as17, ns17, cs17, rfl, rfl, hs17⟩
          refine d_next (hx38.sh (hF23.trans hF24) [1, 2, 3, 4] (by decide) rfl) ?_
          refine d_take 5 (v := .tuple #[.agg #[.int .i64 v29.1.Sign, .slice as17 ns17 cs17], .int .i64 v29.2]) rfl (by kernel_rfl) (by kernel_rfl) (by kernel_rfl) rfl rfl rfl rfl (hx38.sh (hF23.trans hF24) [1, 2, 3, 4] (by decide) rfl) (fun _ hC => ?_) ?_
          ·obtain ⟨_, _, hleq, hq⟩ := hC
           refine r_move rfl rfl rfl (r_nil (qq rfl))
          refine d_take 6 (v := .agg #[.int .i64 v29.1.Sign, .slice as17 ns17 cs17]) rfl (by kernel_rfl) (by kernel_rfl) (by kernel_rfl) rfl rfl rfl rfl (hx38.sh (hF23.trans hF24) [1, 2, 3, 4] (by decide) rfl) (fun _ hC => ?_) ?_
          ·obtain ⟨_, _, hleq, hq⟩ := hC
           refine r_extract rfl rfl rfl rfl (r_nil (qq rfl))
          refine d_take 7 (v := .int .i64 v29.2) rfl (by kernel_rfl) (by kernel_rfl) (by kernel_rfl) rfl rfl rfl rfl (hx38.sh (hF23.trans hF24) [1, 2, 3, 4] (by decide) rfl) (fun _ hC => ?_) ?_
          ·obtain ⟨_, _, hleq, hq⟩ := hC
           refine r_extract rfl rfl rfl rfl (r_nil (qq rfl))
          refine d_step 9 rfl (by kernel_rfl) ?_
          refine r_store sz24 rfl hx38 rfl rfl rfl rfl (i := 0) rfl rfl rfl rfl ?_
          intro wx46 hx39
          refine d_next (hx39.sh (hF23.trans hF24) [1, 2, 3, 4] (by decide) rfl) ?_
          refine d_take 10 (v := .int .i64 v29.2) rfl (by kernel_rfl) (by kernel_rfl) (by kernel_rfl) rfl rfl rfl rfl (hx39.sh (hF23.trans hF24) [1, 2, 3, 4] (by decide) rfl) (fun _ hC => ?_) ?_
          ·obtain ⟨_, _, hleq, hq⟩ := hC
           refine r_assign rfl rfl rfl (r_nil (qq rfl))
          refine d_done (by kernel_rfl) ?_
          refine q_next (fun a ha => ?_)
          cases hb9
          exact ⟨_, b9, as17, ns17, cs17, (hF23.trans hF24), hx39.pick [0, 1, 2, 3, 4] (by decide) rfl, hs17, ha.cut (l := [1, 3, 7, 11, 12, 13, 14, 15, 16]) rfl⟩
        ·refine r_alloc ze24 rfl rfl rfl hx35 ?_
         intro b9 wx43 hx36
         refine d_next (hx36.sh (Frz.refl _) [1, 2, 3, 4] (by decide) rfl) ?_
         refine d_step 3 rfl (by kernel_rfl) ?_
         obtain ⟨v28, hv14, hb9⟩ := bind_some hb9
         refine r_callG0 ent48 rfl rfl rfl rfl hx36 (big_Of_ok _ _ _ hv14 hx36.sat) ?_
         rintro _ Fx23 _ wx44 hF23 hx37 ⟨as16, ns16, cs16, rfl, rfl, hs16⟩
         refine d_next (hx37.sh hF23 [1, 2, 3, 4] (by decide) rfl) ?_
         refine d_step 4 rfl (by kernel_rfl) ?_
         have hG8 := ((((hG1.trans hF6).trans hF7).trans hF8).trans hF9).trans hF23
         obtain ⟨v29, hv15, hb9⟩ := bind_some hb9
         refine r_callG0 ent47 rfl rfl rfl rfl hx37 (big_Mul_ok _ _ _ _ hv15 hx37.sat (hs1.mono hG8) hs16) ?_
         rintro _ Fx24 _ wx45 hF24 hx38 ⟨as17, ns17, cs17, rfl, rfl, hs17⟩
         refine d_next (hx38.sh (hF23.trans hF24) [1, 2, 3, 4] (by decide) rfl) ?_
         refine d_take 5 (v := .tuple #[.agg #[.int .i64 v29.1.Sign, .slice as17 ns17 cs17], .int .i64 v29.2]) rfl (by kernel_rfl) (by kernel_rfl) (by kernel_rfl) rfl rfl rfl rfl (hx38.sh (hF23.trans hF24) [1, 2, 3, 4] (by decide) rfl) (fun _ hC => ?_) ?_
         ·obtain ⟨_, _, hleq, hq⟩ := hC
          refine r_move rfl rfl rfl (r_nil (qq rfl))
         refine d_take 6 (v := .agg #[.int .i64 v29.1.Sign, .slice as17 ns17 cs17]) rfl (by kernel_rfl) (by kernel_rfl) (by kernel_rfl) rfl rfl rfl rfl (hx38.sh (hF23.trans hF24) [1, 2, 3, 4] (by decide) rfl) (fun _ hC => ?_) ?_
         ·obtain ⟨_, _, hleq, hq⟩ := hC
          refine r_extract rfl rfl rfl rfl (r_nil (qq rfl))
         refine d_take 7 (v := .int .i64 v29.2) rfl (by kernel_rfl) (by kernel_rfl) (by kernel_rfl) rfl rfl rfl rfl (hx38.sh (hF23.trans hF24) [1, 2, 3, 4] (by decide) rfl) (fun _ hC => ?_) ?_
         ·obtain ⟨_, _, hleq, hq⟩ := hC
          refine r_extract rfl rfl rfl rfl (r_nil (qq rfl))
         refine d_step 9 rfl (by kernel_rfl) ?_
         refine r_store sz24 rfl hx38 rfl rfl rfl rfl (i := 0) rfl rfl rfl rfl ?_
         intro wx46 hx39
         refine d_next (hx39.sh (hF23.trans hF24) [1, 2, 3, 4] (by decide) rfl) ?_
         refine d_take 10 (v := .int .i64 v29.2) rfl (by kernel_rfl) (by kernel_rfl) (by kernel_rfl) rfl rfl rfl rfl (hx39.sh (hF23.trans hF24) [1, 2, 3, 4] (by decide) rfl) (fun _ hC => ?_) ?_
         ·obtain ⟨_, _, hleq, hq⟩ := hC
          refine r_assign rfl rfl rfl (r_nil (qq rfl))
         refine d_done (by kernel_rfl) ?_
         refine q_next (fun a ha => ?_)
         cases hb9
         exact ⟨_, b9, as17, ns17, cs17, (hF23.trans hF24), hx39.pick [0, 1, 2, 3, 4] (by decide) rfl, hs17, ha.cut (l := [1, 3, 7, 11, 12, 13, 14, 15, 16]) rfl⟩
    ·clear hm
     rcases cond_some hb4 with ⟨hb32, hb4⟩ | ⟨hb32, hb4⟩
     ·refine r_lit 49 rfl hb32 ?_
      refine r_off rfl (by decide) rfl (r_off rfl (by decide) rfl (r_off rfl (by decide) rfl (r_off rfl (by decide) rfl (r_off rfl (by decide) rfl (r_off rfl (by decide) rfl (r_off rfl (by decide) rfl (r_off rfl (by decide) rfl (r_off rfl (by decide) rfl (r_off rfl (by decide) rfl (r_off rfl (by decide) rfl (r_off rfl (by decide) rfl (r_pick_true rfl rfl rfl rfl (r_nil ?_)))))))))))))
      refine q_next (fun a ha => ?_)
      cases hb4
      exact ⟨_, Frz.refl _, hx7.pick [0, 1] (by decide) rfl, ha.cut (l := [1, 3, 7, 62]) rfl⟩
     ·refine r_lit 49 rfl hb32 ?_
      refine r_move rfl rfl rfl ?_
      refine r_bin rfl rfl rfl rfl rfl ?_
      refine r_move rfl rfl rfl ?_
      obtain ⟨v30, hb33, hb4⟩ := bind_some hb4
      refine r_mid 9 (fun a w' => ∃ (Fx25 : Frz), Frz.le Fx4 Fx25 ∧ HS F w [] Fx25 [.box b2 26 [.int .i64 v4.1.P.Sign, .slice as4 ns4 cs4, .int .i64 v4.1.Q.Sign, .slice as5 ns5 cs5], .box b1 26 [.int .i64 f1.P.Sign, .slice as1 ns1 cs1, .int .i64 f1.Q.Sign, .slice as2 ns2 cs2]] w' ∧ Has 156 a [(1, .int .i64 byx1), (3, .pointer (some ⟨b1, 0, none⟩)), (7, .bool v1), (49, .bool false), (61, .bool v30)]) ?_ ?_
      ·rintro a wx47 ⟨Fx25, hF25, hx40, hax17⟩
       refine rw_apply hax17 ?_
       refine r_pick_false rfl rfl rfl rfl (r_nil ?_)
       refine q_next (fun a ha => ?_)
       cases hb4
       exact ⟨_, hF25, hx40.pick [0, 1] (by decide) rfl, ha.cut (l := [1, 3, 7, 62]) rfl⟩
      ·clear hb4
       rcases cond_some hb33 with ⟨hb34, hb33⟩ | ⟨hb34, hb33⟩
       ·refine r_lit 52 rfl hb34 ?_
        refine r_move rfl rfl rfl ?_
        refine r_bin rfl rfl rfl rfl rfl ?_
        refine r_move rfl rfl rfl ?_
        obtain ⟨v31, hb35, hb33⟩ := bind_some hb33
        refine r_mid 5 (fun a w' => ∃ (Fx26 : Frz), Frz.le Fx4 Fx26 ∧ HS F w [] Fx26 [.box b2 26 [.int .i64 v4.1.P.Sign, .slice as4 ns4 cs4, .int .i64 v4.1.Q.Sign, .slice as5 ns5 cs5], .box b1 26 [.int .i64 f1.P.Sign, .slice as1 ns1 cs1, .int .i64 f1.Q.Sign, .slice as2 ns2 cs2]] w' ∧ Has 156 a [(1, .int .i64 byx1), (3, .pointer (some ⟨b1, 0, none⟩)), (7, .bool v1), (49, .bool false), (52, .bool true), (60, .bool v31)]) ?_ ?_
        ·rintro a wx48 ⟨Fx26, hF26, hx41, hax18⟩
         refine rw_apply hax18 ?_
         refine r_pick_true rfl rfl rfl rfl (r_nil ?_)
         refine q_next (fun a ha => ?_)
         cases hb33
         exact ⟨_, hF26, hx41.pick [0, 1] (by decide) rfl, ha.cut (l := [1, 3, 7, 49, 61]) rfl⟩
        ·clear hb33
         rcases cond_some hb35 with ⟨hb36, hb35⟩ | ⟨hb36, hb35⟩
         ·refine r_lit 55 rfl hb36 ?_
          refine r_off rfl (by decide) rfl (r_off rfl (by decide) rfl (r_off rfl (by decide) rfl (r_off rfl (by decide) rfl (r_pick_true rfl rfl rfl rfl (r_nil ?_)))))
          refine q_next (fun a ha => ?_)
          cases hb35
          exact ⟨_, Frz.refl _, hx7.pick [0, 1] (by decide) rfl, ha.cut (l := [1, 3, 7, 49, 52, 60]) rfl⟩
         ·refine r_lit 55 rfl hb36 ?_
          refine r_loadBA (cs' := [.int .i64 v4.1.P.Sign, .slice as4 ns4 cs4, .int .i64 v4.1.Q.Sign, .slice as5 ns5 cs5]) ag26 sz26 rfl rfl hx7 rfl (i := 0) rfl rfl rfl ?_
          refine r_build (v := .agg #[.int .i64 0, .slice none 0 0, .int .i64 0, .slice none 0 0]) rfl rfl rfl (fun _ => by kernel_rfl) ?_
          obtain ⟨v32, hv16, hb35⟩ := bind_some hb35
          refine r_callG0 ent14 rfl rfl rfl rfl hx7 (ref05_Same_ok _ _ _ _ hv16 hx7.sat (hs4.mono hF4) (hs5.mono hF4) (SlR.nil _ _) (SlR.nil _ _)) ?_
          rintro _ Fx27 _ wx49 hF27 hx42 ⟨rfl, rfl⟩
          refine r_not rfl rfl rfl (r_pick_false rfl rfl rfl rfl (r_nil ?_))
          refine q_next (fun a ha => ?_)
          cases hb35
          exact ⟨_, hF27, hx42.pick [0, 1] (by decide) rfl, ha.cut (l := [1, 3, 7, 49, 52, 60]) rfl⟩
       ·refine r_lit 52 rfl hb34 ?_
        refine r_off rfl (by decide) rfl (r_off rfl (by decide) rfl (r_off rfl (by decide) rfl (r_off rfl (by decide) rfl (r_off rfl (by decide) rfl (r_off rfl (by decide) rfl (r_off rfl (by decide) rfl (r_off rfl (by decide) rfl (r_pick_false rfl rfl rfl rfl (r_nil ?_)))))))))
        refine q_next (fun a ha => ?_)
        cases hb33
        exact ⟨_, Frz.refl _, hx7.pick [0, 1] (by decide) rfl, ha.cut (l := [1, 3, 7, 49, 61]) rfl⟩
   ·clear hm
    rcases cond_some hb3 with ⟨hb37, hb3⟩ | ⟨hb37, hb3⟩
    ·refine r_lit 38 rfl hb37 ?_
     refine r_loadBA (cs' := [.int .i64 v4.1.P.Sign, .slice as4 ns4 cs4, .int .i64 v4.1.Q.Sign, .slice as5 ns5 cs5]) ag26 sz26 rfl rfl hx6 rfl (i := 0) rfl rfl rfl ?_
     obtain ⟨v33, hv17, hb3⟩ := bind_some hb3
     refine r_callG0 ent25 rfl rfl rfl rfl hx6 (frac_Right_ok _ _ _ hv17 hx6.sat hs4 hs5) ?_
     rintro _ Fx28 _ wx50 hF28 hx43 ⟨rfl, rfl⟩
     refine r_not rfl rfl rfl (r_move rfl rfl rfl ?_)
     obtain ⟨v34, hb38, hb3⟩ := bind_some hb3
     refine r_mid 5 (fun a w' => ∃ (Fx29 : Frz), Frz.le Fx28 Fx29 ∧ HS F w [] Fx29 [.box b2 26 [.int .i64 v4.1.P.Sign, .slice as4 ns4 cs4, .int .i64 v4.1.Q.Sign, .slice as5 ns5 cs5], .box b1 26 [.int .i64 f1.P.Sign, .slice as1 ns1 cs1, .int .i64 f1.Q.Sign, .slice as2 ns2 cs2]] w' ∧ Has 156 a [(1, .int .i64 byx1), (3, .pointer (some ⟨b1, 0, none⟩)), (7, .bool v1), (8, .pointer (some ⟨b2, 0, none⟩)), (9, .int .i64 v4.2), (38, .bool true), (47, .bool v34)]) ?_ ?_
     ·rintro a wx51 ⟨Fx29, hF29, hx44, hax19⟩
      refine rw_apply hax19 ?_
      refine r_pick_true rfl rfl rfl rfl (r_nil ?_)
      refine q_next (fun a ha => ?_)
      cases hb3
      exact ⟨_, (hF28.trans hF29), hx44.pick [0, 1] (by decide) rfl, ha.cut (l := [1, 3, 7, 8, 9, 48]) rfl⟩
     ·clear hb3
      rcases cond_some hb38 with ⟨hb39, hb38⟩ | ⟨hb39, hb38⟩
      ·refine r_lit 42 rfl hb39 ?_
       refine r_off rfl (by decide) rfl (r_off rfl (by decide) rfl (r_off rfl (by decide) rfl (r_off rfl (by decide) rfl (r_pick_true rfl rfl rfl rfl (r_nil ?_)))))
       refine q_next (fun a ha => ?_)
       cases hb38
       exact ⟨_, Frz.refl _, hx43.pick [0, 1] (by decide) rfl, ha.cut (l := [1, 3, 7, 8, 9, 38, 47]) rfl⟩
      ·refine r_lit 42 rfl hb39 ?_
       refine r_loadBA (cs' := [.int .i64 v4.1.P.Sign, .slice as4 ns4 cs4, .int .i64 v4.1.Q.Sign, .slice as5 ns5 cs5]) ag26 sz26 rfl rfl hx43 rfl (i := 0) rfl rfl rfl ?_
       have hG9 := ((hF1.trans hF2).trans hF3).trans hF28
       obtain ⟨v35, hv18, hb38⟩ := bind_some hb38
       refine r_callG0 ent40 rfl rfl rfl rfl hx43 (frac_Text_ok _ _ _ hv18 hx43.sat (hs4.mono hF28) (hs5.mono hF28) (hg3.mono hG9)) ?_
       rintro _ Fx30 _ wx52 hF30 hx45 ⟨rfl, rfl⟩
       refine r_move rfl rfl rfl ?_
       refine r_str rfl rfl rfl rfl rfl ?_
       refine r_pick_false rfl rfl rfl rfl (r_nil ?_)
       refine q_next (fun a ha => ?_)
       cases hb38
       exact ⟨_, hF30, hx45.pick [0, 1] (by decide) rfl, ha.cut (l := [1, 3, 7, 8, 9, 38, 47]) rfl⟩
    ·refine r_lit 38 rfl hb37 ?_
     refine r_off rfl (by decide) rfl (r_off rfl (by decide) rfl (r_off rfl (by decide) rfl (r_off rfl (by decide) rfl (r_off rfl (by decide) rfl (r_off rfl (by decide) rfl (r_off rfl (by decide) rfl (r_off rfl (by decide) rfl (r_off rfl (by decide) rfl (r_pick_false rfl rfl rfl rfl (r_nil ?_))))))))))
     refine q_next (fun a ha => ?_)
     cases hb3
     exact ⟨_, Frz.refl _, hx6.pick [0, 1] (by decide) rfl, ha.cut (l := [1, 3, 7, 8, 9, 48]) rfl⟩
 ·clear hm
  rcases cond_some hb1 with ⟨hb40, hb1⟩ | ⟨hb40, hb1⟩
  ·refine r_lit 25 rfl hb40 ?_
   refine r_off rfl (by decide) rfl (r_off rfl (by decide) rfl (r_off rfl (by decide) rfl (r_pick_true rfl rfl rfl rfl (r_nil ?_))))
   refine q_next (fun a ha => ?_)
   cases hb1
   exact ⟨rfl, ha.cut (l := [1, 2, 3, 7, 29]) rfl⟩
  ·refine r_lit 25 rfl hb40 ?_
   refine r_move rfl rfl rfl ?_
   refine r_slen u9 rfl rfl rfl ?_
   refine r_bin rfl rfl rfl rfl rfl ?_
   refine r_pick_false rfl rfl rfl rfl (r_nil ?_)
   refine q_next (fun a ha => ?_)
   cases hb1
   exact ⟨rfl, ha.cut (l := [1, 2, 3, 7, 29]) rfl⟩


end Go.Proofs.YtaanocaobllohaaGreatDoor.M
