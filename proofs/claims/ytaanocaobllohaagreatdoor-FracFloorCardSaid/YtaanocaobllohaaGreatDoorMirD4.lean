/-
  THE MIRRORS of the fractions' and the big integers' functions, of their references and of the laws, and that each call returns what its mirror says. Printed by gen.py.
-/
import Derived.Test.YtaanocaobllohaaGreatDoorRows
import Derived.Test.YtaanocaobllohaaGreatDoorTrim
import Derived.Test.YtaanocaobllohaaGreatDoorExtC
import Derived.Test.YtaanocaobllohaaGreatDoorRtX
import Derived.Test.YtaanocaobllohaaGreatDoorMirS
namespace Go.Proofs.YtaanocaobllohaaGreatDoor.M
open Go Go.RowKit Rt

theorem ent8 : Ent Tryz.prog 8 := fun _ _ => by kernel_rfl

theorem ent9 : Ent Tryz.prog 9 := fun _ _ => by kernel_rfl

def law05_FracFloor (n : Nat) (f1 : Frac) (nx1 : Int) : Option Bool :=
 (law05_small n).bind fun v1 =>
 (ref05_Few n (⟨(⟨f1.P.Sign, f1.P.Digits⟩ : Big), (⟨f1.Q.Sign, f1.Q.Digits⟩ : Big)⟩ : Frac) 30).bind fun v2 =>
 (bif !v2 then
  some true
 else
  (frac_Right n (⟨(⟨f1.P.Sign, f1.P.Digits⟩ : Big), (⟨f1.Q.Sign, f1.Q.Digits⟩ : Big)⟩ : Frac)).bind fun v29 =>
  some (!v29)).bind fun v3 =>
 bif v3 then
  some v1
 else
  (frac_Floor n (⟨(⟨f1.P.Sign, f1.P.Digits⟩ : Big), (⟨f1.Q.Sign, f1.Q.Digits⟩ : Big)⟩ : Frac)).bind fun v4 =>
  ((big_Of n 1).bind fun v27 =>
  (big_Add n (⟨v4.Sign, v4.Digits⟩ : Big) v27).bind fun v28 =>
  some (v28.1.Sign, v28.1.Digits, v28.2)).bind fun (f2, f3, ex1) =>
  ((big_Of n 1).bind fun v25 =>
  (frac_New n (⟨v4.Sign, v4.Digits⟩ : Big) v25).bind fun v26 =>
  some (v26.1.P.Sign, v26.1.P.Digits, v26.1.Q.Sign, v26.1.Q.Digits, v26.2)).bind fun (f4, f5, f6, f7, g1) =>
  ((big_Of n 1).bind fun v23 =>
  (frac_New n (⟨f2, f3⟩ : Big) v23).bind fun v24 =>
  some (v24.1.P.Sign, v24.1.P.Digits, v24.1.Q.Sign, v24.1.Q.Digits, v24.2)).bind fun (f8, f9, f10, f11, hx10) =>
  (bif ex1 != 0 then
   some true
  else
   some (g1 != 0)).bind fun v5 =>
  (bif v5 then
   some true
  else
   some (hx10 != 0)).bind fun v6 =>
  (bif v6 then
   some true
  else
   (frac_Compare n (⟨(⟨f4, f5⟩ : Big), (⟨f6, f7⟩ : Big)⟩ : Frac) (⟨(⟨f1.P.Sign, f1.P.Digits⟩ : Big), (⟨f1.Q.Sign, f1.Q.Digits⟩ : Big)⟩ : Frac)).bind fun v22 =>
   some (decide (0 < v22))).bind fun v7 =>
  (bif v7 then
   some true
  else
   (frac_Compare n (⟨(⟨f8, f9⟩ : Big), (⟨f10, f11⟩ : Big)⟩ : Frac) (⟨(⟨f1.P.Sign, f1.P.Digits⟩ : Big), (⟨f1.Q.Sign, f1.Q.Digits⟩ : Big)⟩ : Frac)).bind fun v21 =>
   some (decide (v21 ≤ 0))).bind fun v8 =>
  bif v8 then
   some false
  else
   ((big_Neg n (⟨f1.P.Sign, f1.P.Digits⟩ : Big)).bind fun v19 =>
   (frac_Floor n (⟨(⟨v19.Sign, v19.Digits⟩ : Big), (⟨f1.Q.Sign, f1.Q.Digits⟩ : Big)⟩ : Frac)).bind fun v20 =>
   some (v20.Sign, v20.Digits)).bind fun (f12, f13) =>
   (ref05_Same n (⟨(⟨f4, f5⟩ : Big), (⟨f6, f7⟩ : Big)⟩ : Frac) (⟨(⟨f1.P.Sign, f1.P.Digits⟩ : Big), (⟨f1.Q.Sign, f1.Q.Digits⟩ : Big)⟩ : Frac)).bind fun v9 =>
   (big_Neg n (⟨f2, f3⟩ : Big)).bind fun v10 =>
   (bif v9 then
    (big_Neg n (⟨v4.Sign, v4.Digits⟩ : Big)).bind fun v18 =>
    some (v18.Sign, v18.Digits)
   else
    some (v10.Sign, v10.Digits)).bind fun (f14, f15) =>
   (bif v1 then
    (ref05_SameBig n (⟨f12, f13⟩ : Big) (⟨f14, f15⟩ : Big)).bind fun v17 =>
    some v17
   else
    some false).bind fun v11 =>
   (bif v11 then
    (law05_of n nx1 1).bind fun v13 =>
    (frac_Floor n v13).bind fun v14 =>
    (big_Of n nx1).bind fun v15 =>
    (ref05_SameBig n v14 v15).bind fun v16 =>
    some v16
   else
    some false).bind fun v12 =>
   some v12

set_option maxHeartbeats 1000000 in
set_option maxRecDepth 1000000 in
theorem law05_FracFloor_ok (n : Nat) (f1 : Frac) (nx1 : Int) (r : Bool) (hm : law05_FracFloor n f1 nx1 = some r) {w : World} {F : Frz} (hs : Sat F w) {as1 : Option Addr} {ns1 : Nat} {cs1 : Nat} {as2 : Option Addr} {ns2 : Nat} {cs2 : Nat} (hs1 : SlR (Rp.int .i64) F as1 ns1 cs1 f1.P.Digits) (hs2 : SlR (Rp.int .i64) F as2 ns2 cs2 f1.Q.Digits) (hg3 : FX F 3 (Lib.pow10Tab.map (Value.int .u64))) :
  Calls Tryz.prog 7 #[.agg #[.int .i64 f1.P.Sign, .slice as1 ns1 cs1, .int .i64 f1.Q.Sign, .slice as2 ns2 cs2], .int .i64 nx1] w fun e w' => ∃ v F' O', e = .returned v ∧ HS F w [] F' O' w' ∧ (v = .bool r ∧ O' = []) := by
 unfold law05_FracFloor at hm
 have h := HS.init hs
 refine calls_of (args := [.agg #[.int .i64 f1.P.Sign, .slice as1 ns1 cs1, .int .i64 f1.Q.Sign, .slice as2 ns2 cs2], .int .i64 nx1]) 97 Tryz.func7 rfl rfl rfl ?_
 refine c_seq (c_region ?_)
 refine r_box rfl rfl rfl rfl h ?_
 intro b1 wx1 hx1
 refine r_assign rfl rfl rfl (r_nil (q_then (c_seq (c_region ?_))))
 obtain ⟨v1, hv1, hm⟩ := bind_some hm
 refine r_callG0 ent8 rfl rfl rfl rfl hx1 (law05_small_ok _ _ hv1 hx1.sat hg3) ?_
 rintro _ Fx1 _ wx2 hF1 hx2 ⟨rfl, rfl⟩
 refine r_assign rfl rfl rfl (r_nil (q_then (c_seq (c_seq (c_region ?_)))))
 refine r_loadBA (cs' := [.int .i64 f1.P.Sign, .slice as1 ns1 cs1, .int .i64 f1.Q.Sign, .slice as2 ns2 cs2]) ag26 sz26 rfl rfl hx2 rfl (i := 0) rfl rfl rfl ?_
 obtain ⟨v2, hv2, hm⟩ := bind_some hm
 refine r_callG0 ent9 rfl rfl rfl rfl hx2 (ref05_Few_ok _ _ _ _ hv2 hx2.sat (hs1.mono hF1) (hs2.mono hF1)) ?_
 rintro _ Fx2 _ wx3 hF2 hx3 ⟨rfl, rfl⟩
 refine r_not rfl rfl rfl (r_move rfl rfl rfl ?_)
 obtain ⟨v3, hb1, hm⟩ := bind_some hm
 refine r_mid 4 (fun a w' => ∃ (Fx3 : Frz), Frz.le Fx2 Fx3 ∧ HS F w [] Fx3 [.box b1 26 [.int .i64 f1.P.Sign, .slice as1 ns1 cs1, .int .i64 f1.Q.Sign, .slice as2 ns2 cs2]] w' ∧ Has 97 a [(1, .int .i64 nx1), (2, .pointer (some ⟨b1, 0, none⟩)), (5, .bool v1), (24, .bool v3)]) ?_ ?_
 ·rintro a wx4 ⟨Fx3, hF3, hx4, hax1⟩
  refine rw_apply hax1 ?_
  refine r_nil (q_then ?_)
  rcases cond_some hm with ⟨hb2, hm⟩ | ⟨hb2, hm⟩
  ·refine c_lit 24 rfl hb2 ?_
   refine c_true rfl (c_seq (c_region (r_move rfl rfl rfl (r_assign rfl rfl rfl (r_nil (q_then (c_ret (q_then_ret ?_))))))))
   refine b_ret1 rfl rfl ?_
   obtain rfl := Option.some.inj hm
   exact ⟨_, _, _, rfl, hx4.pick [] (by decide) rfl, rfl, rfl⟩
  ·refine c_lit 24 rfl hb2 ?_
   refine c_false rfl (c_skip (q_then (c_seq (c_region ?_))))
   refine r_loadBA (cs' := [.int .i64 f1.P.Sign, .slice as1 ns1 cs1, .int .i64 f1.Q.Sign, .slice as2 ns2 cs2]) ag26 sz26 rfl rfl hx4 rfl (i := 0) rfl rfl rfl ?_
   obtain ⟨v4, hv3, hm⟩ := bind_some hm
   refine r_callG0 ent43 rfl rfl rfl rfl hx4 (frac_Floor_ok _ _ _ hv3 hx4.sat (((hs1.mono hF1).mono hF2).mono hF3) (((hs2.mono hF1).mono hF2).mono hF3)) ?_
   rintro _ Fx4 _ wx5 hF4 hx5 ⟨as3, ns3, cs3, rfl, rfl, hs3⟩
   refine r_alloc ze24 rfl rfl rfl hx5 ?_
   intro b2 wx6 hx6
   refine r_store sz24 rfl hx6 rfl rfl rfl rfl (i := 0) rfl rfl rfl rfl ?_
   intro wx7 hx7
   refine r_nil (q_then ?_)
   obtain ⟨⟨f2, f3, ex1⟩, hb3, hm⟩ := bind_some hm
   refine c_mid (fun a w' => ∃ (Fx5 : Frz) (b3 : Nat) (as4 : Option Addr) (ns4 : Nat) (cs4 : Nat), Frz.le Fx4 Fx5 ∧ HS F w [] Fx5 [.box b3 24 [.int .i64 f2, .slice as4 ns4 cs4], .box b2 24 [.int .i64 v4.Sign, .slice as3 ns3 cs3], .box b1 26 [.int .i64 f1.P.Sign, .slice as1 ns1 cs1, .int .i64 f1.Q.Sign, .slice as2 ns2 cs2]] w' ∧ (SlR (Rp.int .i64) Fx5 as4 ns4 cs4 f3) ∧ Has 97 a [(1, .int .i64 nx1), (2, .pointer (some ⟨b1, 0, none⟩)), (5, .bool v1), (6, .pointer (some ⟨b2, 0, none⟩)), (7, .pointer (some ⟨b3, 0, none⟩)), (8, .int .i64 ex1)]) ?_ ?_
   ·rintro a wx8 ⟨Fx5, b3, as4, ns4, cs4, hF5, hx8, hs4, hax2⟩
    refine cw_apply hax2 ?_
    obtain ⟨⟨f4, f5, f6, f7, g1⟩, hb4, hm⟩ := bind_some hm
    refine c_mid (fun a w' => ∃ (Fx6 : Frz) (b4 : Nat) (as5 : Option Addr) (ns5 : Nat) (cs5 : Nat) (as6 : Option Addr) (ns6 : Nat) (cs6 : Nat), Frz.le Fx5 Fx6 ∧ HS F w [] Fx6 [.box b4 26 [.int .i64 f4, .slice as5 ns5 cs5, .int .i64 f6, .slice as6 ns6 cs6], .box b3 24 [.int .i64 f2, .slice as4 ns4 cs4], .box b2 24 [.int .i64 v4.Sign, .slice as3 ns3 cs3], .box b1 26 [.int .i64 f1.P.Sign, .slice as1 ns1 cs1, .int .i64 f1.Q.Sign, .slice as2 ns2 cs2]] w' ∧ (SlR (Rp.int .i64) Fx6 as5 ns5 cs5 f5) ∧ (SlR (Rp.int .i64) Fx6 as6 ns6 cs6 f7) ∧ Has 97 a [(1, .int .i64 nx1), (2, .pointer (some ⟨b1, 0, none⟩)), (5, .bool v1), (6, .pointer (some ⟨b2, 0, none⟩)), (7, .pointer (some ⟨b3, 0, none⟩)), (8, .int .i64 ex1), (9, .pointer (some ⟨b4, 0, none⟩)), (10, .int .i64 g1)]) ?_ ?_
    ·rintro a wx9 ⟨Fx6, b4, as5, ns5, cs5, as6, ns6, cs6, hF6, hx9, hs5, hs6, hax3⟩
     refine cw_apply hax3 ?_
     obtain ⟨⟨f8, f9, f10, f11, hx10⟩, hb5, hm⟩ := bind_some hm
     refine c_mid (fun a w' => ∃ (Fx7 : Frz) (b5 : Nat) (as7 : Option Addr) (ns7 : Nat) (cs7 : Nat) (as8 : Option Addr) (ns8 : Nat) (cs8 : Nat), Frz.le Fx6 Fx7 ∧ HS F w [] Fx7 [.box b5 26 [.int .i64 f8, .slice as7 ns7 cs7, .int .i64 f10, .slice as8 ns8 cs8], .box b4 26 [.int .i64 f4, .slice as5 ns5 cs5, .int .i64 f6, .slice as6 ns6 cs6], .box b3 24 [.int .i64 f2, .slice as4 ns4 cs4], .box b2 24 [.int .i64 v4.Sign, .slice as3 ns3 cs3], .box b1 26 [.int .i64 f1.P.Sign, .slice as1 ns1 cs1, .int .i64 f1.Q.Sign, .slice as2 ns2 cs2]] w' ∧ (SlR (Rp.int .i64) Fx7 as7 ns7 cs7 f9) ∧ (SlR (Rp.int .i64) Fx7 as8 ns8 cs8 f11) ∧ Has 97 a [(1, .int .i64 nx1), (2, .pointer (some ⟨b1, 0, none⟩)), (5, .bool v1), (6, .pointer (some ⟨b2, 0, none⟩)), (7, .pointer (some ⟨b3, 0, none⟩)), (8, .int .i64 ex1), (9, .pointer (some ⟨b4, 0, none⟩)), (10, .int .i64 g1), (11, .pointer (some ⟨b5, 0, none⟩)), (12, .int .i64 hx10)]) ?_ ?_
     ·rintro a wx10 ⟨Fx7, b5, as7, ns7, cs7, as8, ns8, cs8, hF7, hx11, hs7, hs8, hax4⟩
      refine cw_apply hax4 ?_
      refine c_seq (c_seq (c_region (r_move rfl rfl rfl ?_)))
      refine r_bin rfl rfl rfl rfl rfl ?_
      refine r_move rfl rfl rfl ?_
      obtain ⟨v5, hb6, hm⟩ := bind_some hm
      refine r_mid 3 (fun a w' => wx10 = w' ∧ Has 97 a [(1, .int .i64 nx1), (2, .pointer (some ⟨b1, 0, none⟩)), (5, .bool v1), (6, .pointer (some ⟨b2, 0, none⟩)), (7, .pointer (some ⟨b3, 0, none⟩)), (9, .pointer (some ⟨b4, 0, none⟩)), (11, .pointer (some ⟨b5, 0, none⟩)), (12, .int .i64 hx10), (51, .bool v5)]) ?_ ?_
      ·rintro a wx11 ⟨rfl, hax5⟩
       refine rw_apply hax5 ?_
       refine r_move rfl rfl rfl ?_
       obtain ⟨v6, hb7, hm⟩ := bind_some hm
       refine r_mid 3 (fun a w' => wx10 = w' ∧ Has 97 a [(1, .int .i64 nx1), (2, .pointer (some ⟨b1, 0, none⟩)), (5, .bool v1), (6, .pointer (some ⟨b2, 0, none⟩)), (7, .pointer (some ⟨b3, 0, none⟩)), (9, .pointer (some ⟨b4, 0, none⟩)), (11, .pointer (some ⟨b5, 0, none⟩)), (55, .bool v6)]) ?_ ?_
       ·rintro a wx12 ⟨rfl, hax6⟩
        refine rw_apply hax6 ?_
        refine r_move rfl rfl rfl ?_
        obtain ⟨v7, hb8, hm⟩ := bind_some hm
        refine r_mid 5 (fun a w' => ∃ (Fx8 : Frz), Frz.le Fx7 Fx8 ∧ HS F w [] Fx8 [.box b5 26 [.int .i64 f8, .slice as7 ns7 cs7, .int .i64 f10, .slice as8 ns8 cs8], .box b4 26 [.int .i64 f4, .slice as5 ns5 cs5, .int .i64 f6, .slice as6 ns6 cs6], .box b3 24 [.int .i64 f2, .slice as4 ns4 cs4], .box b2 24 [.int .i64 v4.Sign, .slice as3 ns3 cs3], .box b1 26 [.int .i64 f1.P.Sign, .slice as1 ns1 cs1, .int .i64 f1.Q.Sign, .slice as2 ns2 cs2]] w' ∧ Has 97 a [(1, .int .i64 nx1), (2, .pointer (some ⟨b1, 0, none⟩)), (5, .bool v1), (6, .pointer (some ⟨b2, 0, none⟩)), (7, .pointer (some ⟨b3, 0, none⟩)), (9, .pointer (some ⟨b4, 0, none⟩)), (11, .pointer (some ⟨b5, 0, none⟩)), (61, .bool v7)]) ?_ ?_
        ·rintro a wx13 ⟨Fx8, hF8, hx12, hax7⟩
         refine rw_apply hax7 ?_
         refine r_move rfl rfl rfl ?_
         obtain ⟨v8, hb9, hm⟩ := bind_some hm
         refine r_mid 5 (fun a w' => ∃ (Fx9 : Frz), Frz.le Fx8 Fx9 ∧ HS F w [] Fx9 [.box b5 26 [.int .i64 f8, .slice as7 ns7 cs7, .int .i64 f10, .slice as8 ns8 cs8], .box b4 26 [.int .i64 f4, .slice as5 ns5 cs5, .int .i64 f6, .slice as6 ns6 cs6], .box b3 24 [.int .i64 f2, .slice as4 ns4 cs4], .box b2 24 [.int .i64 v4.Sign, .slice as3 ns3 cs3], .box b1 26 [.int .i64 f1.P.Sign, .slice as1 ns1 cs1, .int .i64 f1.Q.Sign, .slice as2 ns2 cs2]] w' ∧ Has 97 a [(1, .int .i64 nx1), (2, .pointer (some ⟨b1, 0, none⟩)), (5, .bool v1), (6, .pointer (some ⟨b2, 0, none⟩)), (7, .pointer (some ⟨b3, 0, none⟩)), (9, .pointer (some ⟨b4, 0, none⟩)), (67, .bool v8)]) ?_ ?_
         ·rintro a wx14 ⟨Fx9, hF9, hx13, hax8⟩
          refine rw_apply hax8 ?_
          refine r_nil (q_then ?_)
          rcases cond_some hm with ⟨hb10, hm⟩ | ⟨hb10, hm⟩
          ·refine c_lit 67 rfl hb10 ?_
           refine c_true rfl (c_seq (c_region (r_assign rfl rfl rfl (r_nil (q_then (c_ret (q_then_ret ?_)))))))
           refine b_ret1 rfl rfl ?_
           obtain rfl := Option.some.inj hm
           exact ⟨_, _, _, rfl, hx13.pick [] (by decide) rfl, rfl, rfl⟩
          ·refine c_lit 67 rfl hb10 ?_
           refine c_false rfl (c_skip (q_then ?_))
           obtain ⟨⟨f12, f13⟩, hb11, hm⟩ := bind_some hm
           refine c_mid (fun a w' => ∃ (Fx10 : Frz) (b6 : Nat) (as9 : Option Addr) (ns9 : Nat) (cs9 : Nat), Frz.le Fx9 Fx10 ∧ HS F w [] Fx10 [.box b6 24 [.int .i64 f12, .slice as9 ns9 cs9], .box b5 26 [.int .i64 f8, .slice as7 ns7 cs7, .int .i64 f10, .slice as8 ns8 cs8], .box b4 26 [.int .i64 f4, .slice as5 ns5 cs5, .int .i64 f6, .slice as6 ns6 cs6], .box b3 24 [.int .i64 f2, .slice as4 ns4 cs4], .box b2 24 [.int .i64 v4.Sign, .slice as3 ns3 cs3], .box b1 26 [.int .i64 f1.P.Sign, .slice as1 ns1 cs1, .int .i64 f1.Q.Sign, .slice as2 ns2 cs2]] w' ∧ (SlR (Rp.int .i64) Fx10 as9 ns9 cs9 f13) ∧ Has 97 a [(1, .int .i64 nx1), (2, .pointer (some ⟨b1, 0, none⟩)), (5, .bool v1), (6, .pointer (some ⟨b2, 0, none⟩)), (7, .pointer (some ⟨b3, 0, none⟩)), (9, .pointer (some ⟨b4, 0, none⟩)), (13, .pointer (some ⟨b6, 0, none⟩))]) ?_ ?_
           ·rintro a wx15 ⟨Fx10, b6, as9, ns9, cs9, hF10, hx14, hs9, hax9⟩
            refine cw_apply hax9 ?_
            refine c_seq (c_region ?_)
            refine r_loadBA (cs' := [.int .i64 f4, .slice as5 ns5 cs5, .int .i64 f6, .slice as6 ns6 cs6]) ag26 sz26 rfl rfl hx14 rfl (i := 2) rfl rfl rfl ?_
            refine r_loadBA (cs' := [.int .i64 f1.P.Sign, .slice as1 ns1 cs1, .int .i64 f1.Q.Sign, .slice as2 ns2 cs2]) ag26 sz26 rfl rfl hx14 rfl (i := 5) rfl rfl rfl ?_
            have hG1 := ((hF7.trans hF8).trans hF9).trans hF10
            have hG2 := ((((((((hF1.trans hF2).trans hF3).trans hF4).trans hF5).trans hF6).trans hF7).trans hF8).trans hF9).trans hF10
            obtain ⟨v9, hv4, hm⟩ := bind_some hm
            refine r_callG0 ent14 rfl rfl rfl rfl hx14 (ref05_Same_ok _ _ _ _ hv4 hx14.sat (hs5.mono hG1) (hs6.mono hG1) (hs1.mono hG2) (hs2.mono hG2)) ?_
            rintro _ Fx11 _ wx16 hF11 hx15 ⟨rfl, rfl⟩
            refine r_assign rfl rfl rfl (r_nil (q_then (c_seq (c_region ?_))))
            refine r_loadBA (cs' := [.int .i64 f2, .slice as4 ns4 cs4]) ag24 sz24 rfl rfl hx15 rfl (i := 3) rfl rfl rfl ?_
            have hG3 := ((((hF6.trans hF7).trans hF8).trans hF9).trans hF10).trans hF11
            obtain ⟨v10, hv5, hm⟩ := bind_some hm
            refine r_callG0 ent50 rfl rfl rfl rfl hx15 (big_Neg_ok _ _ _ hv5 hx15.sat (hs4.mono hG3)) ?_
            rintro _ Fx12 _ wx17 hF12 hx16 ⟨as10, ns10, cs10, rfl, rfl, hs10⟩
            refine r_alloc ze24 rfl rfl rfl hx16 ?_
            intro b7 wx18 hx17
            refine r_store sz24 rfl hx17 rfl rfl rfl rfl (i := 0) rfl rfl rfl rfl ?_
            intro wx19 hx18
            refine r_nil (q_then (c_seq (c_seq (c_region (r_move rfl rfl rfl (r_nil (q_then ?_)))))))
            obtain ⟨⟨f14, f15⟩, hb12, hm⟩ := bind_some hm
            refine c_midT (fun a w' => ∃ (Fx13 : Frz) (as11 : Option Addr) (ns11 : Nat) (cs11 : Nat), Frz.le Fx12 Fx13 ∧ HS F w [] Fx13 [.box b7 24 [.int .i64 f14, .slice as11 ns11 cs11], .box b6 24 [.int .i64 f12, .slice as9 ns9 cs9], .box b5 26 [.int .i64 f8, .slice as7 ns7 cs7, .int .i64 f10, .slice as8 ns8 cs8], .box b4 26 [.int .i64 f4, .slice as5 ns5 cs5, .int .i64 f6, .slice as6 ns6 cs6], .box b3 24 [.int .i64 f2, .slice as4 ns4 cs4], .box b2 24 [.int .i64 v4.Sign, .slice as3 ns3 cs3], .box b1 26 [.int .i64 f1.P.Sign, .slice as1 ns1 cs1, .int .i64 f1.Q.Sign, .slice as2 ns2 cs2]] w' ∧ (SlR (Rp.int .i64) Fx13 as11 ns11 cs11 f15) ∧ Has 97 a [(1, .int .i64 nx1), (5, .bool v1), (13, .pointer (some ⟨b6, 0, none⟩)), (15, .pointer (some ⟨b7, 0, none⟩))]) ?_ ?_
            ·rintro a wx20 ⟨Fx13, as11, ns11, cs11, hF13, hx19, hs11, hax10⟩
             refine cw_apply hax10 ?_
             refine c_seq (c_region (r_move rfl rfl rfl (r_move rfl rfl rfl ?_)))
             obtain ⟨v11, hb13, hm⟩ := bind_some hm
             refine r_mid 4 (fun a w' => ∃ (Fx14 : Frz), Frz.le Fx13 Fx14 ∧ HS F w [] Fx14 [.box b7 24 [.int .i64 f14, .slice as11 ns11 cs11], .box b6 24 [.int .i64 f12, .slice as9 ns9 cs9], .box b5 26 [.int .i64 f8, .slice as7 ns7 cs7, .int .i64 f10, .slice as8 ns8 cs8], .box b4 26 [.int .i64 f4, .slice as5 ns5 cs5, .int .i64 f6, .slice as6 ns6 cs6], .box b3 24 [.int .i64 f2, .slice as4 ns4 cs4], .box b2 24 [.int .i64 v4.Sign, .slice as3 ns3 cs3], .box b1 26 [.int .i64 f1.P.Sign, .slice as1 ns1 cs1, .int .i64 f1.Q.Sign, .slice as2 ns2 cs2]] w' ∧ Has 97 a [(1, .int .i64 nx1), (88, .bool v11)]) ?_ ?_
             ·rintro a wx21 ⟨Fx14, hF14, hx20, hax11⟩
              refine rw_apply hax11 ?_
              refine r_move rfl rfl rfl ?_
              obtain ⟨v12, hb14, hm⟩ := bind_some hm
              refine r_mid 7 (fun a w' => ∃ (Fx15 : Frz), Frz.le Fx14 Fx15 ∧ HS F w [] Fx15 [.box b7 24 [.int .i64 f14, .slice as11 ns11 cs11], .box b6 24 [.int .i64 f12, .slice as9 ns9 cs9], .box b5 26 [.int .i64 f8, .slice as7 ns7 cs7, .int .i64 f10, .slice as8 ns8 cs8], .box b4 26 [.int .i64 f4, .slice as5 ns5 cs5, .int .i64 f6, .slice as6 ns6 cs6], .box b3 24 [.int .i64 f2, .slice as4 ns4 cs4], .box b2 24 [.int .i64 v4.Sign, .slice as3 ns3 cs3], .box b1 26 [.int .i64 f1.P.Sign, .slice as1 ns1 cs1, .int .i64 f1.Q.Sign, .slice as2 ns2 cs2]] w' ∧ Has 97 a [(96, .bool v12)]) ?_ ?_
              ·rintro a wx22 ⟨Fx15, hF15, hx21, hax12⟩
               refine rw_apply hax12 ?_
               refine r_assign rfl rfl rfl (r_nil (q_then (c_ret ?_)))
               refine b_ret1 rfl rfl ?_
               obtain rfl := Option.some.inj hm
               exact ⟨_, _, _, rfl, hx21.pick [] (by decide) rfl, rfl, rfl⟩
              ·clear hm
               rcases cond_some hb14 with ⟨hb15, hb14⟩ | ⟨hb15, hb14⟩
               ·refine r_lit 89 rfl hb15 ?_
                refine r_move rfl rfl rfl ?_
                obtain ⟨v13, hv6, hb14⟩ := bind_some hb14
                refine r_callG0 ent46 rfl rfl rfl rfl hx20 (law05_of_ok _ _ _ _ hv6 hx20.sat) ?_
                rintro _ Fx16 _ wx23 hF16 hx22 ⟨as12, ns12, cs12, as13, ns13, cs13, rfl, rfl, hs12, hs13⟩
                obtain ⟨v14, hv7, hb14⟩ := bind_some hb14
                refine r_callG0 ent43 rfl rfl rfl rfl hx22 (frac_Floor_ok _ _ _ hv7 hx22.sat hs12 hs13) ?_
                rintro _ Fx17 _ wx24 hF17 hx23 ⟨as14, ns14, cs14, rfl, rfl, hs14⟩
                refine r_move rfl rfl rfl ?_
                obtain ⟨v15, hv8, hb14⟩ := bind_some hb14
                refine r_callG0 ent48 rfl rfl rfl rfl hx23 (big_Of_ok _ _ _ hv8 hx23.sat) ?_
                rintro _ Fx18 _ wx25 hF18 hx24 ⟨as15, ns15, cs15, rfl, rfl, hs15⟩
                obtain ⟨v16, hv9, hb14⟩ := bind_some hb14
                refine r_callG0 ent42 rfl rfl rfl rfl hx24 (ref05_SameBig_ok _ _ _ _ hv9 hx24.sat (hs14.mono hF18) hs15) ?_
                rintro _ Fx19 _ wx26 hF19 hx25 ⟨rfl, rfl⟩
                refine r_pick_true rfl rfl rfl rfl (r_nil ?_)
                refine q_next (fun a ha => ?_)
                cases hb14
                exact ⟨_, (((hF16.trans hF17).trans hF18).trans hF19), hx25.pick [0, 1, 2, 3, 4, 5, 6] (by decide) rfl, ha.cut (l := [96]) rfl⟩
               ·refine r_lit 89 rfl hb15 ?_
                refine r_off rfl (by decide) rfl (r_off rfl (by decide) rfl (r_off rfl (by decide) rfl (r_off rfl (by decide) rfl (r_off rfl (by decide) rfl (r_off rfl (by decide) rfl (r_pick_false rfl rfl rfl rfl (r_nil ?_)))))))
                refine q_next (fun a ha => ?_)
                cases hb14
                exact ⟨_, Frz.refl _, hx20.pick [0, 1, 2, 3, 4, 5, 6] (by decide) rfl, ha.cut (l := [96]) rfl⟩
             ·clear hm
              rcases cond_some hb13 with ⟨hb16, hb13⟩ | ⟨hb16, hb13⟩
              ·refine r_lit 84 rfl hb16 ?_
               refine r_loadBA (cs' := [.int .i64 f12, .slice as9 ns9 cs9]) ag24 sz24 rfl rfl hx19 rfl (i := 1) rfl rfl rfl ?_
               refine r_loadBA (cs' := [.int .i64 f14, .slice as11 ns11 cs11]) ag24 sz24 rfl rfl hx19 rfl (i := 0) rfl rfl rfl ?_
               obtain ⟨v17, hv10, hb13⟩ := bind_some hb13
               refine r_callG0 ent42 rfl rfl rfl rfl hx19 (ref05_SameBig_ok _ _ _ _ hv10 hx19.sat (((hs9.mono hF11).mono hF12).mono hF13) hs11) ?_
               rintro _ Fx20 _ wx27 hF20 hx26 ⟨rfl, rfl⟩
               refine r_pick_true rfl rfl rfl rfl (r_nil ?_)
               refine q_next (fun a ha => ?_)
               cases hb13
               exact ⟨_, hF20, hx26.pick [0, 1, 2, 3, 4, 5, 6] (by decide) rfl, ha.cut (l := [1, 88]) rfl⟩
              ·refine r_lit 84 rfl hb16 ?_
               refine r_off rfl (by decide) rfl (r_off rfl (by decide) rfl (r_off rfl (by decide) rfl (r_pick_false rfl rfl rfl rfl (r_nil ?_))))
               refine q_next (fun a ha => ?_)
               cases hb13
               exact ⟨_, Frz.refl _, hx19.pick [0, 1, 2, 3, 4, 5, 6] (by decide) rfl, ha.cut (l := [1, 88]) rfl⟩
            ·clear hm
             rcases cond_some hb12 with ⟨hb17, hb12⟩ | ⟨hb17, hb12⟩
             ·refine c_lit 80 rfl hb17 ?_
              refine c_true rfl (c_region ?_)
              refine r_loadBA (cs' := [.int .i64 v4.Sign, .slice as3 ns3 cs3]) ag24 sz24 rfl rfl hx18 rfl (i := 5) rfl rfl rfl ?_
              have hG4 := ((((((hF5.trans hF6).trans hF7).trans hF8).trans hF9).trans hF10).trans hF11).trans hF12
              obtain ⟨v18, hv11, hb12⟩ := bind_some hb12
              refine r_callG0 ent50 rfl rfl rfl rfl hx18 (big_Neg_ok _ _ _ hv11 hx18.sat (hs3.mono hG4)) ?_
              rintro _ Fx21 _ wx28 hF21 hx27 ⟨as16, ns16, cs16, rfl, rfl, hs16⟩
              refine r_store sz24 rfl hx27 rfl rfl rfl rfl (i := 0) rfl rfl rfl rfl ?_
              intro wx29 hx28
              refine r_nil ?_
              refine q_next (fun a ha => ?_)
              cases hb12
              exact ⟨_, as16, ns16, cs16, hF21, hx28.pick [0, 1, 2, 3, 4, 5, 6] (by decide) rfl, hs16, ha.cut (l := [1, 5, 13, 15]) rfl⟩
             ·refine c_lit 80 rfl hb17 ?_
              refine c_false rfl (c_skip ?_)
              refine q_next (fun a ha => ?_)
              cases hb12
              exact ⟨_, as10, ns10, cs10, Frz.refl _, hx18.pick [0, 1, 2, 3, 4, 5, 6] (by decide) rfl, hs10, ha.cut (l := [1, 5, 13, 15]) rfl⟩
           ·clear hm
            refine c_regionH (SH Fx9 [.box b5 26 [.int .i64 f8, .slice as7 ns7 cs7, .int .i64 f10, .slice as8 ns8 cs8], .box b4 26 [.int .i64 f4, .slice as5 ns5 cs5, .int .i64 f6, .slice as6 ns6 cs6], .box b3 24 [.int .i64 f2, .slice as4 ns4 cs4], .box b2 24 [.int .i64 v4.Sign, .slice as3 ns3 cs3], .box b1 26 [.int .i64 f1.P.Sign, .slice as1 ns1 cs1, .int .i64 f1.Q.Sign, .slice as2 ns2 cs2]]) 9 rfl (by kernel_rfl) hx13 ?_
            intro wx30 hx29
            refine d_take 0 (v := .pointer (some ⟨b1, 0, none⟩)) rfl (by kernel_rfl) (by kernel_rfl) (by kernel_rfl) rfl rfl rfl rfl (hx29.sh (Frz.refl _) [0, 1, 2, 3, 4] (by decide) rfl) (fun _ hC => ?_) ?_
            ·obtain ⟨_, _, hleq, hq⟩ := hC
             refine r_fieldAddr fa26_0 rfl rfl rfl (r_nil (qq rfl))
            refine d_take 1 (v := .agg #[.int .i64 f1.P.Sign, .slice as1 ns1 cs1]) rfl (by kernel_rfl) (by kernel_rfl) (by kernel_rfl) rfl rfl rfl rfl (hx29.sh (Frz.refl _) [0, 1, 2, 3, 4] (by decide) rfl) (fun _ hC => ?_) ?_
            ·obtain ⟨_, _, hleq, hq⟩ := hC
             refine r_loadBA (cs' := [.int .i64 f1.P.Sign, .slice as1 ns1 cs1]) ag24 sz24 rfl rfl hq rfl (i := 4) rfl rfl rfl (r_nil (qq rfl))
            refine d_take 3 (v := .pointer (some ⟨b1, 2, none⟩)) rfl (by kernel_rfl) (by kernel_rfl) (by kernel_rfl) rfl rfl rfl rfl (hx29.sh (Frz.refl _) [0, 1, 2, 3, 4] (by decide) rfl) (fun _ hC => ?_) ?_
            ·obtain ⟨_, _, hleq, hq⟩ := hC
             refine r_fieldAddr fa26_1 rfl rfl rfl (r_nil (qq rfl))
            refine d_take 4 (v := .agg #[.int .i64 f1.Q.Sign, .slice as2 ns2 cs2]) rfl (by kernel_rfl) (by kernel_rfl) (by kernel_rfl) rfl rfl rfl rfl (hx29.sh (Frz.refl _) [0, 1, 2, 3, 4] (by decide) rfl) (fun _ hC => ?_) ?_
            ·obtain ⟨_, _, hleq, hq⟩ := hC
             refine r_loadBA (cs' := [.int .i64 f1.Q.Sign, .slice as2 ns2 cs2]) ag24 sz24 rfl rfl hq rfl (i := 4) rfl rfl rfl (r_nil (qq rfl))
            refine d_two 2 7 rfl rfl (by kernel_rfl) ?_ ?_
            ·have hG5 := (((((((hF1.trans hF2).trans hF3).trans hF4).trans hF5).trans hF6).trans hF7).trans hF8).trans hF9
             obtain ⟨v19, hv12, hb11⟩ := bind_some hb11
             refine r_callG0 ent50 rfl rfl rfl rfl hx29 (big_Neg_ok _ _ _ hv12 hx29.sat (hs1.mono hG5)) ?_
             rintro _ Fx22 _ wx31 hF22 hx30 ⟨as17, ns17, cs17, rfl, rfl, hs17⟩
             refine d_next (hx30.sh hF22 [0, 1, 2, 3, 4] (by decide) rfl) ?_
             refine d_take 5 (v := .agg #[.int .i64 v19.Sign, .slice as17 ns17 cs17, .int .i64 f1.Q.Sign, .slice as2 ns2 cs2]) rfl (by kernel_rfl) (by kernel_rfl) (by kernel_rfl) rfl rfl rfl rfl (hx30.sh hF22 [0, 1, 2, 3, 4] (by decide) rfl) (fun _ hC => ?_) ?_
             ·obtain ⟨_, _, hleq, hq⟩ := hC
              refine r_build (v := .agg #[.int .i64 v19.Sign, .slice as17 ns17 cs17, .int .i64 f1.Q.Sign, .slice as2 ns2 cs2]) rfl rfl rfl (fun _ => by kernel_rfl) (r_nil (qq rfl))
             refine d_two 6 7 rfl rfl (by kernel_rfl) ?_ ?_
             ·obtain ⟨v20, hv13, hb11⟩ := bind_some hb11
              refine r_callG0 ent43 rfl rfl rfl rfl hx30 (frac_Floor_ok _ _ _ hv13 hx30.sat hs17 ((hs2.mono hG5).mono hF22)) ?_
              rintro _ Fx23 _ wx32 hF23 hx31 ⟨as18, ns18, cs18, rfl, rfl, hs18⟩
              refine d_next (hx31.sh (hF22.trans hF23) [0, 1, 2, 3, 4] (by decide) rfl) ?_
              refine d_step 7 rfl (by kernel_rfl) ?_
              refine r_alloc ze24 rfl rfl rfl hx31 ?_
              intro b8 wx33 hx32
              refine d_next (hx32.sh (hF22.trans hF23) [1, 2, 3, 4, 5] (by decide) rfl) ?_
              refine d_step 8 rfl (by kernel_rfl) ?_
              refine r_store sz24 rfl hx32 rfl rfl rfl rfl (i := 0) rfl rfl rfl rfl ?_
              intro wx34 hx33
              refine d_next (hx33.sh (hF22.trans hF23) [1, 2, 3, 4, 5] (by decide) rfl) ?_
              refine d_done (by kernel_rfl) ?_
              refine q_next (fun a ha => ?_)
              cases hb11
              exact ⟨_, b8, as18, ns18, cs18, (hF22.trans hF23), hx33.pick [0, 1, 2, 3, 4, 5] (by decide) rfl, hs18, ha.cut (l := [1, 2, 5, 6, 7, 9, 13]) rfl⟩
             ·refine r_alloc ze24 rfl rfl rfl hx30 ?_
              intro b8 wx32 hx31
              refine d_next (hx31.sh hF22 [1, 2, 3, 4, 5] (by decide) rfl) ?_
              refine d_step 6 rfl (by kernel_rfl) ?_
              obtain ⟨v20, hv13, hb11⟩ := bind_some hb11
              refine r_callG0 ent43 rfl rfl rfl rfl hx31 (frac_Floor_ok _ _ _ hv13 hx31.sat hs17 ((hs2.mono hG5).mono hF22)) ?_
              rintro _ Fx23 _ wx33 hF23 hx32 ⟨as18, ns18, cs18, rfl, rfl, hs18⟩
              refine d_next (hx32.sh (hF22.trans hF23) [1, 2, 3, 4, 5] (by decide) rfl) ?_
              refine d_step 8 rfl (by kernel_rfl) ?_
              refine r_store sz24 rfl hx32 rfl rfl rfl rfl (i := 0) rfl rfl rfl rfl ?_
              intro wx34 hx33
              refine d_next (hx33.sh (hF22.trans hF23) [1, 2, 3, 4, 5] (by decide) rfl) ?_
              refine d_done (by kernel_rfl) ?_
              refine q_next (fun a ha => ?_)
              cases hb11
              exact ⟨_, b8, as18, ns18, cs18, (hF22.trans hF23), hx33.pick [0, 1, 2, 3, 4, 5] (by decide) rfl, hs18, ha.cut (l := [1, 2, 5, 6, 7, 9, 13]) rfl⟩
            ·refine r_alloc ze24 rfl rfl rfl hx29 ?_
             intro b8 wx31 hx30
             refine d_next (hx30.sh (Frz.refl _) [1, 2, 3, 4, 5] (by decide) rfl) ?_
             refine d_step 2 rfl (by kernel_rfl) ?_
             have hG5 := (((((((hF1.trans hF2).trans hF3).trans hF4).trans hF5).trans hF6).trans hF7).trans hF8).trans hF9
             obtain ⟨v19, hv12, hb11⟩ := bind_some hb11
             refine r_callG0 ent50 rfl rfl rfl rfl hx30 (big_Neg_ok _ _ _ hv12 hx30.sat (hs1.mono hG5)) ?_
             rintro _ Fx22 _ wx32 hF22 hx31 ⟨as17, ns17, cs17, rfl, rfl, hs17⟩
             refine d_next (hx31.sh hF22 [1, 2, 3, 4, 5] (by decide) rfl) ?_
             refine d_take 5 (v := .agg #[.int .i64 v19.Sign, .slice as17 ns17 cs17, .int .i64 f1.Q.Sign, .slice as2 ns2 cs2]) rfl (by kernel_rfl) (by kernel_rfl) (by kernel_rfl) rfl rfl rfl rfl (hx31.sh hF22 [1, 2, 3, 4, 5] (by decide) rfl) (fun _ hC => ?_) ?_
             ·obtain ⟨_, _, hleq, hq⟩ := hC
              refine r_build (v := .agg #[.int .i64 v19.Sign, .slice as17 ns17 cs17, .int .i64 f1.Q.Sign, .slice as2 ns2 cs2]) rfl rfl rfl (fun _ => by kernel_rfl) (r_nil (qq rfl))
             refine d_step 6 rfl (by kernel_rfl) ?_
             obtain ⟨v20, hv13, hb11⟩ := bind_some hb11
             refine r_callG0 ent43 rfl rfl rfl rfl hx31 (frac_Floor_ok _ _ _ hv13 hx31.sat hs17 ((hs2.mono hG5).mono hF22)) ?_
             rintro _ Fx23 _ wx33 hF23 hx32 ⟨as18, ns18, cs18, rfl, rfl, hs18⟩
             refine d_next (hx32.sh (hF22.trans hF23) [1, 2, 3, 4, 5] (by decide) rfl) ?_
             refine d_step 8 rfl (by kernel_rfl) ?_
             refine r_store sz24 rfl hx32 rfl rfl rfl rfl (i := 0) rfl rfl rfl rfl ?_
             intro wx34 hx33
             refine d_next (hx33.sh (hF22.trans hF23) [1, 2, 3, 4, 5] (by decide) rfl) ?_
             refine d_done (by kernel_rfl) ?_
             refine q_next (fun a ha => ?_)
             cases hb11
             exact ⟨_, b8, as18, ns18, cs18, (hF22.trans hF23), hx33.pick [0, 1, 2, 3, 4, 5] (by decide) rfl, hs18, ha.cut (l := [1, 2, 5, 6, 7, 9, 13]) rfl⟩
         ·clear hm
          rcases cond_some hb9 with ⟨hb18, hb9⟩ | ⟨hb18, hb9⟩
          ·refine r_lit 62 rfl hb18 ?_
           refine r_off rfl (by decide) rfl (r_off rfl (by decide) rfl (r_off rfl (by decide) rfl (r_off rfl (by decide) rfl (r_pick_true rfl rfl rfl rfl (r_nil ?_)))))
           refine q_next (fun a ha => ?_)
           cases hb9
           exact ⟨_, Frz.refl _, hx12.pick [0, 1, 2, 3, 4] (by decide) rfl, ha.cut (l := [1, 2, 5, 6, 7, 9, 67]) rfl⟩
          ·refine r_lit 62 rfl hb18 ?_
           refine r_loadBA (cs' := [.int .i64 f8, .slice as7 ns7 cs7, .int .i64 f10, .slice as8 ns8 cs8]) ag26 sz26 rfl rfl hx12 rfl (i := 0) rfl rfl rfl ?_
           refine r_loadBA (cs' := [.int .i64 f1.P.Sign, .slice as1 ns1 cs1, .int .i64 f1.Q.Sign, .slice as2 ns2 cs2]) ag26 sz26 rfl rfl hx12 rfl (i := 4) rfl rfl rfl ?_
           have hG6 := ((((((hF1.trans hF2).trans hF3).trans hF4).trans hF5).trans hF6).trans hF7).trans hF8
           obtain ⟨v21, hv14, hb9⟩ := bind_some hb9
           refine r_callG0 ent27 rfl rfl rfl rfl hx12 (frac_Compare_ok _ _ _ _ hv14 hx12.sat (hs7.mono hF8) (hs8.mono hF8) (hs1.mono hG6) (hs2.mono hG6)) ?_
           rintro _ Fx24 _ wx35 hF24 hx34 ⟨rfl, rfl⟩
           refine r_bin rfl rfl rfl rfl rfl ?_
           refine r_pick_false rfl rfl rfl rfl (r_nil ?_)
           refine q_next (fun a ha => ?_)
           cases hb9
           exact ⟨_, hF24, hx34.pick [0, 1, 2, 3, 4] (by decide) rfl, ha.cut (l := [1, 2, 5, 6, 7, 9, 67]) rfl⟩
        ·clear hm
         rcases cond_some hb8 with ⟨hb19, hb8⟩ | ⟨hb19, hb8⟩
         ·refine r_lit 56 rfl hb19 ?_
          refine r_off rfl (by decide) rfl (r_off rfl (by decide) rfl (r_off rfl (by decide) rfl (r_off rfl (by decide) rfl (r_pick_true rfl rfl rfl rfl (r_nil ?_)))))
          refine q_next (fun a ha => ?_)
          cases hb8
          exact ⟨_, Frz.refl _, hx11.pick [0, 1, 2, 3, 4] (by decide) rfl, ha.cut (l := [1, 2, 5, 6, 7, 9, 11, 61]) rfl⟩
         ·refine r_lit 56 rfl hb19 ?_
          refine r_loadBA (cs' := [.int .i64 f4, .slice as5 ns5 cs5, .int .i64 f6, .slice as6 ns6 cs6]) ag26 sz26 rfl rfl hx11 rfl (i := 1) rfl rfl rfl ?_
          refine r_loadBA (cs' := [.int .i64 f1.P.Sign, .slice as1 ns1 cs1, .int .i64 f1.Q.Sign, .slice as2 ns2 cs2]) ag26 sz26 rfl rfl hx11 rfl (i := 4) rfl rfl rfl ?_
          have hG7 := (((((hF1.trans hF2).trans hF3).trans hF4).trans hF5).trans hF6).trans hF7
          obtain ⟨v22, hv15, hb8⟩ := bind_some hb8
          refine r_callG0 ent27 rfl rfl rfl rfl hx11 (frac_Compare_ok _ _ _ _ hv15 hx11.sat (hs5.mono hF7) (hs6.mono hF7) (hs1.mono hG7) (hs2.mono hG7)) ?_
          rintro _ Fx25 _ wx36 hF25 hx35 ⟨rfl, rfl⟩
          refine r_bin rfl rfl rfl rfl rfl ?_
          refine r_pick_false rfl rfl rfl rfl (r_nil ?_)
          refine q_next (fun a ha => ?_)
          cases hb8
          exact ⟨_, hF25, hx35.pick [0, 1, 2, 3, 4] (by decide) rfl, ha.cut (l := [1, 2, 5, 6, 7, 9, 11, 61]) rfl⟩
       ·clear hm
        rcases cond_some hb7 with ⟨hb20, hb7⟩ | ⟨hb20, hb7⟩
        ·refine r_lit 52 rfl hb20 ?_
         refine r_off rfl (by decide) rfl (r_off rfl (by decide) rfl (r_pick_true rfl rfl rfl rfl (r_nil ?_)))
         refine q_next (fun a ha => ?_)
         cases hb7
         exact ⟨rfl, ha.cut (l := [1, 2, 5, 6, 7, 9, 11, 55]) rfl⟩
        ·refine r_lit 52 rfl hb20 ?_
         refine r_move rfl rfl rfl ?_
         refine r_bin rfl rfl rfl rfl rfl ?_
         refine r_pick_false rfl rfl rfl rfl (r_nil ?_)
         refine q_next (fun a ha => ?_)
         cases hb7
         exact ⟨rfl, ha.cut (l := [1, 2, 5, 6, 7, 9, 11, 55]) rfl⟩
      ·clear hm
       rcases cond_some hb6 with ⟨hb21, hb6⟩ | ⟨hb21, hb6⟩
       ·refine r_lit 48 rfl hb21 ?_
        refine r_off rfl (by decide) rfl (r_off rfl (by decide) rfl (r_pick_true rfl rfl rfl rfl (r_nil ?_)))
        refine q_next (fun a ha => ?_)
        cases hb6
        exact ⟨rfl, ha.cut (l := [1, 2, 5, 6, 7, 9, 11, 12, 51]) rfl⟩
       ·refine r_lit 48 rfl hb21 ?_
        refine r_move rfl rfl rfl ?_
        refine r_bin rfl rfl rfl rfl rfl ?_
        refine r_pick_false rfl rfl rfl rfl (r_nil ?_)
        refine q_next (fun a ha => ?_)
        cases hb6
        exact ⟨rfl, ha.cut (l := [1, 2, 5, 6, 7, 9, 11, 12, 51]) rfl⟩
     ·clear hm
      refine c_regionH (SH Fx6 [.box b4 26 [.int .i64 f4, .slice as5 ns5 cs5, .int .i64 f6, .slice as6 ns6 cs6], .box b3 24 [.int .i64 f2, .slice as4 ns4 cs4], .box b2 24 [.int .i64 v4.Sign, .slice as3 ns3 cs3], .box b1 26 [.int .i64 f1.P.Sign, .slice as1 ns1 cs1, .int .i64 f1.Q.Sign, .slice as2 ns2 cs2]]) 9 rfl (by kernel_rfl) hx9 ?_
      intro wx37 hx36
      refine d_take 0 (v := .agg #[.int .i64 f2, .slice as4 ns4 cs4]) rfl (by kernel_rfl) (by kernel_rfl) (by kernel_rfl) rfl rfl rfl rfl (hx36.sh (Frz.refl _) [0, 1, 2, 3] (by decide) rfl) (fun _ hC => ?_) ?_
      ·obtain ⟨_, _, hleq, hq⟩ := hC
       refine r_loadBA (cs' := [.int .i64 f2, .slice as4 ns4 cs4]) ag24 sz24 rfl rfl hq rfl (i := 1) rfl rfl rfl (r_nil (qq rfl))
      refine d_two 1 6 rfl rfl (by kernel_rfl) ?_ ?_
      ·obtain ⟨v23, hv16, hb5⟩ := bind_some hb5
       refine r_callG0 ent48 rfl rfl rfl rfl hx36 (big_Of_ok _ _ _ hv16 hx36.sat) ?_
       rintro _ Fx26 _ wx38 hF26 hx37 ⟨as19, ns19, cs19, rfl, rfl, hs19⟩
       refine d_next (hx37.sh hF26 [0, 1, 2, 3] (by decide) rfl) ?_
       refine d_two 2 6 rfl rfl (by kernel_rfl) ?_ ?_
       ·obtain ⟨v24, hv17, hb5⟩ := bind_some hb5
        refine r_callG0 ent23 rfl rfl rfl rfl hx37 (frac_New_ok _ _ _ _ hv17 hx37.sat ((hs4.mono hF6).mono hF26) hs19) ?_
        rintro _ Fx27 _ wx39 hF27 hx38 ⟨as20, ns20, cs20, as21, ns21, cs21, rfl, rfl, hs20, hs21⟩
        refine d_next (hx38.sh (hF26.trans hF27) [0, 1, 2, 3] (by decide) rfl) ?_
        refine d_take 3 (v := .tuple #[.agg #[.int .i64 v24.1.P.Sign, .slice as20 ns20 cs20, .int .i64 v24.1.Q.Sign, .slice as21 ns21 cs21], .int .i64 v24.2]) rfl (by kernel_rfl) (by kernel_rfl) (by kernel_rfl) rfl rfl rfl rfl (hx38.sh (hF26.trans hF27) [0, 1, 2, 3] (by decide) rfl) (fun _ hC => ?_) ?_
        ·obtain ⟨_, _, hleq, hq⟩ := hC
         refine r_move rfl rfl rfl (r_nil (qq rfl))
        refine d_take 4 (v := .agg #[.int .i64 v24.1.P.Sign, .slice as20 ns20 cs20, .int .i64 v24.1.Q.Sign, .slice as21 ns21 cs21]) rfl (by kernel_rfl) (by kernel_rfl) (by kernel_rfl) rfl rfl rfl rfl (hx38.sh (hF26.trans hF27) [0, 1, 2, 3] (by decide) rfl) (fun _ hC => ?_) ?_
        ·obtain ⟨_, _, hleq, hq⟩ := hC
         refine r_extract rfl rfl rfl rfl (r_nil (qq rfl))
        refine d_take 5 (v := .int .i64 v24.2) rfl (by kernel_rfl) (by kernel_rfl) (by kernel_rfl) rfl rfl rfl rfl (hx38.sh (hF26.trans hF27) [0, 1, 2, 3] (by decide) rfl) (fun _ hC => ?_) ?_
        ·obtain ⟨_, _, hleq, hq⟩ := hC
         refine r_extract rfl rfl rfl rfl (r_nil (qq rfl))
        refine d_step 6 rfl (by kernel_rfl) ?_
        refine r_alloc ze26 rfl rfl rfl hx38 ?_
        intro b9 wx40 hx39
        refine d_next (hx39.sh (hF26.trans hF27) [1, 2, 3, 4] (by decide) rfl) ?_
        refine d_step 7 rfl (by kernel_rfl) ?_
        refine r_store sz26 rfl hx39 rfl rfl rfl rfl (i := 0) rfl rfl rfl rfl ?_
        intro wx41 hx40
        refine d_next (hx40.sh (hF26.trans hF27) [1, 2, 3, 4] (by decide) rfl) ?_
        refine d_take 8 (v := .int .i64 v24.2) rfl (by kernel_rfl) (by kernel_rfl) (by kernel_rfl) rfl rfl rfl rfl (hx40.sh (hF26.trans hF27) [1, 2, 3, 4] (by decide) rfl) (fun _ hC => ?_) ?_
        ·obtain ⟨_, _, hleq, hq⟩ := hC
         refine r_assign rfl rfl rfl (r_nil (qq rfl))
        refine d_done (by kernel_rfl) ?_
        refine q_next (fun a ha => ?_)
        cases hb5
        exact ⟨_, b9, as20, ns20, cs20, as21, ns21, cs21, (hF26.trans hF27), hx40.pick [0, 1, 2, 3, 4] (by decide) rfl, hs20, hs21, ha.cut (l := [1, 2, 5, 6, 7, 8, 9, 10, 11, 12]) rfl⟩
       ·refine r_alloc ze26 rfl rfl rfl hx37 ?_
        intro b9 wx39 hx38
        refine d_next (hx38.sh hF26 [1, 2, 3, 4] (by decide) rfl) ?_
        refine d_step 2 rfl (by kernel_rfl) ?_
        obtain ⟨v24, hv17, hb5⟩ := bind_some hb5
        refine r_callG0 ent23 rfl rfl rfl rfl hx38 (frac_New_ok _ _ _ _ hv17 hx38.sat ((hs4.mono hF6).mono hF26) hs19) ?_
        rintro _ Fx27 _ wx40 hF27 hx39 ⟨as20, ns20, cs20, as21, ns21, cs21, rfl, rfl, hs20, hs21⟩
        refine d_next (hx39.sh (hF26.trans hF27) [1, 2, 3, 4] (by decide) rfl) ?_
        refine d_take 3 (v := .tuple #[.agg #[.int .i64 v24.1.P.Sign, .slice as20 ns20 cs20, .int .i64 v24.1.Q.Sign, .slice as21 ns21 cs21], .int .i64 v24.2]) rfl (by kernel_rfl) (by kernel_rfl) (by kernel_rfl) rfl rfl rfl rfl (hx39.sh (hF26.trans hF27) [1, 2, 3, 4] (by decide) rfl) (fun _ hC => ?_) ?_
        ·obtain ⟨_, _, hleq, hq⟩ := hC
         refine r_move rfl rfl rfl (r_nil (qq rfl))
        refine d_take 4 (v := .agg #[.int .i64 v24.1.P.Sign, .slice as20 ns20 cs20, .int .i64 v24.1.Q.Sign, .slice as21 ns21 cs21]) rfl (by kernel_rfl) (by kernel_rfl) (by kernel_rfl) rfl rfl rfl rfl (hx39.sh (hF26.trans hF27) [1, 2, 3, 4] (by decide) rfl) (fun _ hC => ?_) ?_
        ·obtain ⟨_, _, hleq, hq⟩ := hC
         refine r_extract rfl rfl rfl rfl (r_nil (qq rfl))
        refine d_take 5 (v := .int .i64 v24.2) rfl (by kernel_rfl) (by kernel_rfl) (by kernel_rfl) rfl rfl rfl rfl (hx39.sh (hF26.trans hF27) [1, 2, 3, 4] (by decide) rfl) (fun _ hC => ?_) ?_
        ·obtain ⟨_, _, hleq, hq⟩ := hC
         refine r_extract rfl rfl rfl rfl (r_nil (qq rfl))
        refine d_step 7 rfl (by kernel_rfl) ?_
        refine r_store sz26 rfl hx39 rfl rfl rfl rfl (i := 0) rfl rfl rfl rfl ?_
        intro wx41 hx40
        refine d_next (hx40.sh (hF26.trans hF27) [1, 2, 3, 4] (by decide) rfl) ?_
        refine d_take 8 (v := .int .i64 v24.2) rfl (by kernel_rfl) (by kernel_rfl) (by kernel_rfl) rfl rfl rfl rfl (hx40.sh (hF26.trans hF27) [1, 2, 3, 4] (by decide) rfl) (fun _ hC => ?_) ?_
        ·obtain ⟨_, _, hleq, hq⟩ := hC
         refine r_assign rfl rfl rfl (r_nil (qq rfl))
        refine d_done (by kernel_rfl) ?_
        refine q_next (fun a ha => ?_)
        cases hb5
        exact ⟨_, b9, as20, ns20, cs20, as21, ns21, cs21, (hF26.trans hF27), hx40.pick [0, 1, 2, 3, 4] (by decide) rfl, hs20, hs21, ha.cut (l := [1, 2, 5, 6, 7, 8, 9, 10, 11, 12]) rfl⟩
      ·refine r_alloc ze26 rfl rfl rfl hx36 ?_
       intro b9 wx38 hx37
       refine d_next (hx37.sh (Frz.refl _) [1, 2, 3, 4] (by decide) rfl) ?_
       refine d_step 1 rfl (by kernel_rfl) ?_
       obtain ⟨v23, hv16, hb5⟩ := bind_some hb5
       refine r_callG0 ent48 rfl rfl rfl rfl hx37 (big_Of_ok _ _ _ hv16 hx37.sat) ?_
       rintro _ Fx26 _ wx39 hF26 hx38 ⟨as19, ns19, cs19, rfl, rfl, hs19⟩
       refine d_next (hx38.sh hF26 [1, 2, 3, 4] (by decide) rfl) ?_
       refine d_step 2 rfl (by kernel_rfl) ?_
       obtain ⟨v24, hv17, hb5⟩ := bind_some hb5
       refine r_callG0 ent23 rfl rfl rfl rfl hx38 (frac_New_ok _ _ _ _ hv17 hx38.sat ((hs4.mono hF6).mono hF26) hs19) ?_
       rintro _ Fx27 _ wx40 hF27 hx39 ⟨as20, ns20, cs20, as21, ns21, cs21, rfl, rfl, hs20, hs21⟩
       refine d_next (hx39.sh (hF26.trans hF27) [1, 2, 3, 4] (by decide) rfl) ?_
       refine d_take 3 (v := .tuple #[.agg #[.int .i64 v24.1.P.Sign, .slice as20 ns20 cs20, .int .i64 v24.1.Q.Sign, .slice as21 ns21 cs21], .int .i64 v24.2]) rfl (by kernel_rfl) (by kernel_rfl) (by kernel_rfl) rfl rfl rfl rfl (hx39.sh (hF26.trans hF27) [1, 2, 3, 4] (by decide) rfl) (fun _ hC => ?_) ?_
       ·obtain ⟨_, _, hleq, hq⟩ := hC
        refine r_move rfl rfl rfl (r_nil (qq rfl))
       refine d_take 4 (v := .agg #[.int .i64 v24.1.P.Sign, .slice as20 ns20 cs20, .int .i64 v24.1.Q.Sign, .slice as21 ns21 cs21]) rfl (by kernel_rfl) (by kernel_rfl) (by kernel_rfl) rfl rfl rfl rfl (hx39.sh (hF26.trans hF27) [1, 2, 3, 4] (by decide) rfl) (fun _ hC => ?_) ?_
       ·obtain ⟨_, _, hleq, hq⟩ := hC
        refine r_extract rfl rfl rfl rfl (r_nil (qq rfl))
       refine d_take 5 (v := .int .i64 v24.2) rfl (by kernel_rfl) (by kernel_rfl) (by kernel_rfl) rfl rfl rfl rfl (hx39.sh (hF26.trans hF27) [1, 2, 3, 4] (by decide) rfl) (fun _ hC => ?_) ?_
       ·obtain ⟨_, _, hleq, hq⟩ := hC
        refine r_extract rfl rfl rfl rfl (r_nil (qq rfl))
       refine d_step 7 rfl (by kernel_rfl) ?_
       refine r_store sz26 rfl hx39 rfl rfl rfl rfl (i := 0) rfl rfl rfl rfl ?_
       intro wx41 hx40
       refine d_next (hx40.sh (hF26.trans hF27) [1, 2, 3, 4] (by decide) rfl) ?_
       refine d_take 8 (v := .int .i64 v24.2) rfl (by kernel_rfl) (by kernel_rfl) (by kernel_rfl) rfl rfl rfl rfl (hx40.sh (hF26.trans hF27) [1, 2, 3, 4] (by decide) rfl) (fun _ hC => ?_) ?_
       ·obtain ⟨_, _, hleq, hq⟩ := hC
        refine r_assign rfl rfl rfl (r_nil (qq rfl))
       refine d_done (by kernel_rfl) ?_
       refine q_next (fun a ha => ?_)
       cases hb5
       exact ⟨_, b9, as20, ns20, cs20, as21, ns21, cs21, (hF26.trans hF27), hx40.pick [0, 1, 2, 3, 4] (by decide) rfl, hs20, hs21, ha.cut (l := [1, 2, 5, 6, 7, 8, 9, 10, 11, 12]) rfl⟩
    ·clear hm
     refine c_regionH (SH Fx5 [.box b3 24 [.int .i64 f2, .slice as4 ns4 cs4], .box b2 24 [.int .i64 v4.Sign, .slice as3 ns3 cs3], .box b1 26 [.int .i64 f1.P.Sign, .slice as1 ns1 cs1, .int .i64 f1.Q.Sign, .slice as2 ns2 cs2]]) 9 rfl (by kernel_rfl) hx8 ?_
     intro wx42 hx41
     refine d_take 0 (v := .agg #[.int .i64 v4.Sign, .slice as3 ns3 cs3]) rfl (by kernel_rfl) (by kernel_rfl) (by kernel_rfl) rfl rfl rfl rfl (hx41.sh (Frz.refl _) [0, 1, 2] (by decide) rfl) (fun _ hC => ?_) ?_
     ·obtain ⟨_, _, hleq, hq⟩ := hC
      refine r_loadBA (cs' := [.int .i64 v4.Sign, .slice as3 ns3 cs3]) ag24 sz24 rfl rfl hq rfl (i := 1) rfl rfl rfl (r_nil (qq rfl))
     refine d_two 1 6 rfl rfl (by kernel_rfl) ?_ ?_
     ·obtain ⟨v25, hv18, hb4⟩ := bind_some hb4
      refine r_callG0 ent48 rfl rfl rfl rfl hx41 (big_Of_ok _ _ _ hv18 hx41.sat) ?_
      rintro _ Fx28 _ wx43 hF28 hx42 ⟨as22, ns22, cs22, rfl, rfl, hs22⟩
      refine d_next (hx42.sh hF28 [0, 1, 2] (by decide) rfl) ?_
      refine d_two 2 6 rfl rfl (by kernel_rfl) ?_ ?_
      ·obtain ⟨v26, hv19, hb4⟩ := bind_some hb4
       refine r_callG0 ent23 rfl rfl rfl rfl hx42 (frac_New_ok _ _ _ _ hv19 hx42.sat ((hs3.mono hF5).mono hF28) hs22) ?_
       rintro _ Fx29 _ wx44 hF29 hx43 ⟨as23, ns23, cs23, as24, ns24, cs24, rfl, rfl, hs23, hs24⟩
       refine d_next (hx43.sh (hF28.trans hF29) [0, 1, 2] (by decide) rfl) ?_
       refine d_take 3 (v := .tuple #[.agg #[.int .i64 v26.1.P.Sign, .slice as23 ns23 cs23, .int .i64 v26.1.Q.Sign, .slice as24 ns24 cs24], .int .i64 v26.2]) rfl (by kernel_rfl) (by kernel_rfl) (by kernel_rfl) rfl rfl rfl rfl (hx43.sh (hF28.trans hF29) [0, 1, 2] (by decide) rfl) (fun _ hC => ?_) ?_
       ·obtain ⟨_, _, hleq, hq⟩ := hC
        refine r_move rfl rfl rfl (r_nil (qq rfl))
       refine d_take 4 (v := .agg #[.int .i64 v26.1.P.Sign, .slice as23 ns23 cs23, .int .i64 v26.1.Q.Sign, .slice as24 ns24 cs24]) rfl (by kernel_rfl) (by kernel_rfl) (by kernel_rfl) rfl rfl rfl rfl (hx43.sh (hF28.trans hF29) [0, 1, 2] (by decide) rfl) (fun _ hC => ?_) ?_
       ·obtain ⟨_, _, hleq, hq⟩ := hC
        refine r_extract rfl rfl rfl rfl (r_nil (qq rfl))
       refine d_take 5 (v := .int .i64 v26.2) rfl (by kernel_rfl) (by kernel_rfl) (by kernel_rfl) rfl rfl rfl rfl (hx43.sh (hF28.trans hF29) [0, 1, 2] (by decide) rfl) (fun _ hC => ?_) ?_
       ·obtain ⟨_, _, hleq, hq⟩ := hC
        refine r_extract rfl rfl rfl rfl (r_nil (qq rfl))
       refine d_step 6 rfl (by kernel_rfl) ?_
       refine r_alloc ze26 rfl rfl rfl hx43 ?_
       intro b10 wx45 hx44
       refine d_next (hx44.sh (hF28.trans hF29) [1, 2, 3] (by decide) rfl) ?_
       refine d_step 7 rfl (by kernel_rfl) ?_
       refine r_store sz26 rfl hx44 rfl rfl rfl rfl (i := 0) rfl rfl rfl rfl ?_
       intro wx46 hx45
       refine d_next (hx45.sh (hF28.trans hF29) [1, 2, 3] (by decide) rfl) ?_
       refine d_take 8 (v := .int .i64 v26.2) rfl (by kernel_rfl) (by kernel_rfl) (by kernel_rfl) rfl rfl rfl rfl (hx45.sh (hF28.trans hF29) [1, 2, 3] (by decide) rfl) (fun _ hC => ?_) ?_
       ·obtain ⟨_, _, hleq, hq⟩ := hC
        refine r_assign rfl rfl rfl (r_nil (qq rfl))
       refine d_done (by kernel_rfl) ?_
       refine q_next (fun a ha => ?_)
       cases hb4
       exact ⟨_, b10, as23, ns23, cs23, as24, ns24, cs24, (hF28.trans hF29), hx45.pick [0, 1, 2, 3] (by decide) rfl, hs23, hs24, ha.cut (l := [1, 2, 5, 6, 7, 8, 9, 10]) rfl⟩
      ·refine r_alloc ze26 rfl rfl rfl hx42 ?_
       intro b10 wx44 hx43
       refine d_next (hx43.sh hF28 [1, 2, 3] (by decide) rfl) ?_
       refine d_step 2 rfl (by kernel_rfl) ?_
       obtain ⟨v26, hv19, hb4⟩ := bind_some hb4
       refine r_callG0 ent23 rfl rfl rfl rfl hx43 (frac_New_ok _ _ _ _ hv19 hx43.sat ((hs3.mono hF5).mono hF28) hs22) ?_
       rintro _ Fx29 _ wx45 hF29 hx44 ⟨as23, ns23, cs23, as24, ns24, cs24, rfl, rfl, hs23, hs24⟩
       refine d_next (hx44.sh (hF28.trans hF29) [1, 2, 3] (by decide) rfl) ?_
       refine d_take 3 (v := .tuple #[.agg #[.int .i64 v26.1.P.Sign, .slice as23 ns23 cs23, .int .i64 v26.1.Q.Sign, .slice as24 ns24 cs24], .int .i64 v26.2]) rfl (by kernel_rfl) (by kernel_rfl) (by kernel_rfl) rfl rfl rfl rfl (hx44.sh (hF28.trans hF29) [1, 2, 3] (by decide) rfl) (fun _ hC => ?_) ?_
       ·obtain ⟨_, _, hleq, hq⟩ := hC
        refine r_move rfl rfl rfl (r_nil (qq rfl))
       refine d_take 4 (v := .agg #[.int .i64 v26.1.P.Sign, .slice as23 ns23 cs23, .int .i64 v26.1.Q.Sign, .slice as24 ns24 cs24]) rfl (by kernel_rfl) (by kernel_rfl) (by kernel_rfl) rfl rfl rfl rfl (hx44.sh (hF28.trans hF29) [1, 2, 3] (by decide) rfl) (fun _ hC => ?_) ?_
       ·obtain ⟨_, _, hleq, hq⟩ := hC
        refine r_extract rfl rfl rfl rfl (r_nil (qq rfl))
       refine d_take 5 (v := .int .i64 v26.2) rfl (by kernel_rfl) (by kernel_rfl) (by kernel_rfl) rfl rfl rfl rfl (hx44.sh (hF28.trans hF29) [1, 2, 3] (by decide) rfl) (fun _ hC => ?_) ?_
       ·obtain ⟨_, _, hleq, hq⟩ := hC
        refine r_extract rfl rfl rfl rfl (r_nil (qq rfl))
       refine d_step 7 rfl (by kernel_rfl) ?_
       refine r_store sz26 rfl hx44 rfl rfl rfl rfl (i := 0) rfl rfl rfl rfl ?_
       intro wx46 hx45
       refine d_next (hx45.sh (hF28.trans hF29) [1, 2, 3] (by decide) rfl) ?_
       refine d_take 8 (v := .int .i64 v26.2) rfl (by kernel_rfl) (by kernel_rfl) (by kernel_rfl) rfl rfl rfl rfl (hx45.sh (hF28.trans hF29) [1, 2, 3] (by decide) rfl) (fun _ hC => ?_) ?_
       ·obtain ⟨_, _, hleq, hq⟩ := hC
        refine r_assign rfl rfl rfl (r_nil (qq rfl))
       refine d_done (by kernel_rfl) ?_
       refine q_next (fun a ha => ?_)
       cases hb4
       exact ⟨_, b10, as23, ns23, cs23, as24, ns24, cs24, (hF28.trans hF29), hx45.pick [0, 1, 2, 3] (by decide) rfl, hs23, hs24, ha.cut (l := [1, 2, 5, 6, 7, 8, 9, 10]) rfl⟩
     ·refine r_alloc ze26 rfl rfl rfl hx41 ?_
      intro b10 wx43 hx42
      refine d_next (hx42.sh (Frz.refl _) [1, 2, 3] (by decide) rfl) ?_
      refine d_step 1 rfl (by kernel_rfl) ?_
      obtain ⟨v25, hv18, hb4⟩ := bind_some hb4
      refine r_callG0 ent48 rfl rfl rfl rfl hx42 (big_Of_ok _ _ _ hv18 hx42.sat) ?_
      rintro _ Fx28 _ wx44 hF28 hx43 ⟨as22, ns22, cs22, rfl, rfl, hs22⟩
      refine d_next (hx43.sh hF28 [1, 2, 3] (by decide) rfl) ?_
      refine d_step 2 rfl (by kernel_rfl) ?_
      obtain ⟨v26, hv19, hb4⟩ := bind_some hb4
      refine r_callG0 ent23 rfl rfl rfl rfl hx43 (frac_New_ok _ _ _ _ hv19 hx43.sat ((hs3.mono hF5).mono hF28) hs22) ?_
      rintro _ Fx29 _ wx45 hF29 hx44 ⟨as23, ns23, cs23, as24, ns24, cs24, rfl, rfl, hs23, hs24⟩
      refine d_next (hx44.sh (hF28.trans hF29) [1, 2, 3] (by decide) rfl) ?_
      refine d_take 3 (v := .tuple #[.agg #[.int .i64 v26.1.P.Sign, .slice as23 ns23 cs23, .int .i64 v26.1.Q.Sign, .slice as24 ns24 cs24], .int .i64 v26.2]) rfl (by kernel_rfl) (by kernel_rfl) (by kernel_rfl) rfl rfl rfl rfl (hx44.sh (hF28.trans hF29) [1, 2, 3] (by decide) rfl) (fun _ hC => ?_) ?_
      ·obtain ⟨_, _, hleq, hq⟩ := hC
       refine r_move rfl rfl rfl (r_nil (qq rfl))
      refine d_take 4 (v := .agg #[.int .i64 v26.1.P.Sign, .slice as23 ns23 cs23, .int .i64 v26.1.Q.Sign, .slice as24 ns24 cs24]) rfl (by kernel_rfl) (by kernel_rfl) (by kernel_rfl) rfl rfl rfl rfl (hx44.sh (hF28.trans hF29) [1, 2, 3] (by decide) rfl) (fun _ hC => ?_) ?_
      ·obtain ⟨_, _, hleq, hq⟩ := hC
       refine r_extract rfl rfl rfl rfl (r_nil (qq rfl))
      refine d_take 5 (v := .int .i64 v26.2) rfl (by kernel_rfl) (by kernel_rfl) (by kernel_rfl) rfl rfl rfl rfl (hx44.sh (hF28.trans hF29) [1, 2, 3] (by decide) rfl) (fun _ hC => ?_) ?_
      ·obtain ⟨_, _, hleq, hq⟩ := hC
       refine r_extract rfl rfl rfl rfl (r_nil (qq rfl))
      refine d_step 7 rfl (by kernel_rfl) ?_
      refine r_store sz26 rfl hx44 rfl rfl rfl rfl (i := 0) rfl rfl rfl rfl ?_
      intro wx46 hx45
      refine d_next (hx45.sh (hF28.trans hF29) [1, 2, 3] (by decide) rfl) ?_
      refine d_take 8 (v := .int .i64 v26.2) rfl (by kernel_rfl) (by kernel_rfl) (by kernel_rfl) rfl rfl rfl rfl (hx45.sh (hF28.trans hF29) [1, 2, 3] (by decide) rfl) (fun _ hC => ?_) ?_
      ·obtain ⟨_, _, hleq, hq⟩ := hC
       refine r_assign rfl rfl rfl (r_nil (qq rfl))
      refine d_done (by kernel_rfl) ?_
      refine q_next (fun a ha => ?_)
      cases hb4
      exact ⟨_, b10, as23, ns23, cs23, as24, ns24, cs24, (hF28.trans hF29), hx45.pick [0, 1, 2, 3] (by decide) rfl, hs23, hs24, ha.cut (l := [1, 2, 5, 6, 7, 8, 9, 10]) rfl⟩
   ·clear hm
    refine c_regionH (SH Fx4 [.box b2 24 [.int .i64 v4.Sign, .slice as3 ns3 cs3], .box b1 26 [.int .i64 f1.P.Sign, .slice as1 ns1 cs1, .int .i64 f1.Q.Sign, .slice as2 ns2 cs2]]) 9 rfl (by kernel_rfl) hx7 ?_
    intro wx47 hx46
    refine d_take 0 (v := .agg #[.int .i64 v4.Sign, .slice as3 ns3 cs3]) rfl (by kernel_rfl) (by kernel_rfl) (by kernel_rfl) rfl rfl rfl rfl (hx46.sh (Frz.refl _) [0, 1] (by decide) rfl) (fun _ hC => ?_) ?_
    ·obtain ⟨_, _, hleq, hq⟩ := hC
     refine r_loadBA (cs' := [.int .i64 v4.Sign, .slice as3 ns3 cs3]) ag24 sz24 rfl rfl hq rfl (i := 0) rfl rfl rfl (r_nil (qq rfl))
    refine d_two 1 6 rfl rfl (by kernel_rfl) ?_ ?_
    ·obtain ⟨v27, hv20, hb3⟩ := bind_some hb3
     refine r_callG0 ent48 rfl rfl rfl rfl hx46 (big_Of_ok _ _ _ hv20 hx46.sat) ?_
     rintro _ Fx30 _ wx48 hF30 hx47 ⟨as25, ns25, cs25, rfl, rfl, hs25⟩
     refine d_next (hx47.sh hF30 [0, 1] (by decide) rfl) ?_
     refine d_two 2 6 rfl rfl (by kernel_rfl) ?_ ?_
     ·obtain ⟨v28, hv21, hb3⟩ := bind_some hb3
      refine r_callG0 ent49 rfl rfl rfl rfl hx47 (big_Add_ok _ _ _ _ hv21 hx47.sat (hs3.mono hF30) hs25) ?_
      rintro _ Fx31 _ wx49 hF31 hx48 ⟨as26, ns26, cs26, rfl, rfl, hs26⟩
      refine d_next (hx48.sh (hF30.trans hF31) [0, 1] (by decide) rfl) ?_
      refine d_take 3 (v := .tuple #[.agg #[.int .i64 v28.1.Sign, .slice as26 ns26 cs26], .int .i64 v28.2]) rfl (by kernel_rfl) (by kernel_rfl) (by kernel_rfl) rfl rfl rfl rfl (hx48.sh (hF30.trans hF31) [0, 1] (by decide) rfl) (fun _ hC => ?_) ?_
      ·obtain ⟨_, _, hleq, hq⟩ := hC
       refine r_move rfl rfl rfl (r_nil (qq rfl))
      refine d_take 4 (v := .agg #[.int .i64 v28.1.Sign, .slice as26 ns26 cs26]) rfl (by kernel_rfl) (by kernel_rfl) (by kernel_rfl) rfl rfl rfl rfl (hx48.sh (hF30.trans hF31) [0, 1] (by decide) rfl) (fun _ hC => ?_) ?_
      ·obtain ⟨_, _, hleq, hq⟩ := hC
       refine r_extract rfl rfl rfl rfl (r_nil (qq rfl))
      refine d_take 5 (v := .int .i64 v28.2) rfl (by kernel_rfl) (by kernel_rfl) (by kernel_rfl) rfl rfl rfl rfl (hx48.sh (hF30.trans hF31) [0, 1] (by decide) rfl) (fun _ hC => ?_) ?_
      ·obtain ⟨_, _, hleq, hq⟩ := hC
       refine r_extract rfl rfl rfl rfl (r_nil (qq rfl))
      refine d_step 6 rfl (by kernel_rfl) ?_
      refine r_alloc ze24 rfl rfl rfl hx48 ?_
      intro b11 wx50 hx49
      refine d_next (hx49.sh (hF30.trans hF31) [1, 2] (by decide) rfl) ?_
      refine d_step 7 rfl (by kernel_rfl) ?_
      refine r_store sz24 rfl hx49 rfl rfl rfl rfl (i := 0) rfl rfl rfl rfl ?_
      intro wx51 hx50
      refine d_next (hx50.sh (hF30.trans hF31) [1, 2] (by decide) rfl) ?_
      refine d_take 8 (v := .int .i64 v28.2) rfl (by kernel_rfl) (by kernel_rfl) (by kernel_rfl) rfl rfl rfl rfl (hx50.sh (hF30.trans hF31) [1, 2] (by decide) rfl) (fun _ hC => ?_) ?_
      ·obtain ⟨_, _, hleq, hq⟩ := hC
       refine r_assign rfl rfl rfl (r_nil (qq rfl))
      refine d_done (by kernel_rfl) ?_
      refine q_next (fun a ha => ?_)
      cases hb3
      exact ⟨_, b11, as26, ns26, cs26, (hF30.trans hF31), hx50.pick [0, 1, 2] (by decide) rfl, hs26, ha.cut (l := [1, 2, 5, 6, 7, 8]) rfl⟩
     ·refine r_alloc ze24 rfl rfl rfl hx47 ?_
      intro b11 wx49 hx48
      refine d_next (hx48.sh hF30 [1, 2] (by decide) rfl) ?_
      refine d_step 2 rfl (by kernel_rfl) ?_
      obtain ⟨v28, hv21, hb3⟩ := bind_some hb3
      refine r_callG0 ent49 rfl rfl rfl rfl hx48 (big_Add_ok _ _ _ _ hv21 hx48.sat (hs3.mono hF30) hs25) ?_
      rintro _ Fx31 _ wx50 hF31 hx49 ⟨as26, ns26, cs26, rfl, rfl, hs26⟩
      refine d_next (hx49.sh (hF30.trans hF31) [1, 2] (by decide) rfl) ?_
      refine d_take 3 (v := .tuple #[.agg #[.int .i64 v28.1.Sign, .slice as26 ns26 cs26], .int .i64 v28.2]) rfl (by kernel_rfl) (by kernel_rfl) (by kernel_rfl) rfl rfl rfl rfl (hx49.sh (hF30.trans hF31) [1, 2] (by decide) rfl) (fun _ hC => ?_) ?_
      ·obtain ⟨_, _, hleq, hq⟩ := hC
       refine r_move rfl rfl rfl (r_nil (qq rfl))
      refine d_take 4 (v := .agg #[.int .i64 v28.1.Sign, .slice as26 ns26 cs26]) rfl (by kernel_rfl) (by kernel_rfl) (by kernel_rfl) rfl rfl rfl rfl (hx49.sh (hF30.trans hF31) [1, 2] (by decide) rfl) (fun _ hC => ?_) ?_
      ·obtain ⟨_, _, hleq, hq⟩ := hC
       refine r_extract rfl rfl rfl rfl (r_nil (qq rfl))
      refine d_take 5 (v := .int .i64 v28.2) rfl (by kernel_rfl) (by kernel_rfl) (by kernel_rfl) rfl rfl rfl rfl (hx49.sh (hF30.trans hF31) [1, 2] (by decide) rfl) (fun _ hC => ?_) ?_
      ·obtain ⟨_, _, hleq, hq⟩ := hC
       refine r_extract rfl rfl rfl rfl (r_nil (qq rfl))
      refine d_step 7 rfl (by kernel_rfl) ?_
      refine r_store sz24 rfl hx49 rfl rfl rfl rfl (i := 0) rfl rfl rfl rfl ?_
      intro wx51 hx50
      refine d_next (hx50.sh (hF30.trans hF31) [1, 2] (by decide) rfl) ?_
      refine d_take 8 (v := .int .i64 v28.2) rfl (by kernel_rfl) (by kernel_rfl) (by kernel_rfl) rfl rfl rfl rfl (hx50.sh (hF30.trans hF31) [1, 2] (by decide) rfl) (fun _ hC => ?_) ?_
      ·obtain ⟨_, _, hleq, hq⟩ := hC
       refine r_assign rfl rfl rfl (r_nil (qq rfl))
      refine d_done (by kernel_rfl) ?_
      refine q_next (fun a ha => ?_)
      cases hb3
      exact ⟨_, b11, as26, ns26, cs26, (hF30.trans hF31), hx50.pick [0, 1, 2] (by decide) rfl, hs26, ha.cut (l := [1, 2, 5, 6, 7, 8]) rfl⟩
    ·refine r_alloc ze24 rfl rfl rfl hx46 ?_
     intro b11 wx48 hx47
     refine d_next (hx47.sh (Frz.refl _) [1, 2] (by decide) rfl) ?_
     refine d_step 1 rfl (by kernel_rfl) ?_
     obtain ⟨v27, hv20, hb3⟩ := bind_some hb3
     refine r_callG0 ent48 rfl rfl rfl rfl hx47 (big_Of_ok _ _ _ hv20 hx47.sat) ?_
     rintro _ Fx30 _ wx49 hF30 hx48 ⟨as25, ns25, cs25, rfl, rfl, hs25⟩
     refine d_next (hx48.sh hF30 [1, 2] (by decide) rfl) ?_
     refine d_step 2 rfl (by kernel_rfl) ?_
     obtain ⟨v28, hv21, hb3⟩ := bind_some hb3
     refine r_callG0 ent49 rfl rfl rfl rfl hx48 (big_Add_ok _ _ _ _ hv21 hx48.sat (hs3.mono hF30) hs25) ?_
     rintro _ Fx31 _ wx50 hF31 hx49 ⟨as26, ns26, cs26, rfl, rfl, hs26⟩
     refine d_next (hx49.sh (hF30.trans hF31) [1, 2] (by decide) rfl) ?_
     refine d_take 3 (v := .tuple #[.agg #[.int .i64 v28.1.Sign, .slice as26 ns26 cs26], .int .i64 v28.2]) rfl (by kernel_rfl) (by kernel_rfl) (by kernel_rfl) rfl rfl rfl rfl (hx49.sh (hF30.trans hF31) [1, 2] (by decide) rfl) (fun _ hC => ?_) ?_
     ·obtain ⟨_, _, hleq, hq⟩ := hC
      refine r_move rfl rfl rfl (r_nil (qq rfl))
     refine d_take 4 (v := .agg #[.int .i64 v28.1.Sign, .slice as26 ns26 cs26]) rfl (by kernel_rfl) (by kernel_rfl) (by kernel_rfl) rfl rfl rfl rfl (hx49.sh (hF30.trans hF31) [1, 2] (by decide) rfl) (fun _ hC => ?_) ?_
     ·obtain ⟨_, _, hleq, hq⟩ := hC
      refine r_extract rfl rfl rfl rfl (r_nil (qq rfl))
     refine d_take 5 (v := .int .i64 v28.2) rfl (by kernel_rfl) (by kernel_rfl) (by kernel_rfl) rfl rfl rfl rfl (hx49.sh (hF30.trans hF31) [1, 2] (by decide) rfl) (fun _ hC => ?_) ?_
     ·obtain ⟨_, _, hleq, hq⟩ := hC
      refine r_extract rfl rfl rfl rfl (r_nil (qq rfl))
     refine d_step 7 rfl (by kernel_rfl) ?_
     refine r_store sz24 rfl hx49 rfl rfl rfl rfl (i := 0) rfl rfl rfl rfl ?_
     intro wx51 hx50
     refine d_next (hx50.sh (hF30.trans hF31) [1, 2] (by decide) rfl) ?_
     refine d_take 8 (v := .int .i64 v28.2) rfl (by kernel_rfl) (by kernel_rfl) (by kernel_rfl) rfl rfl rfl rfl (hx50.sh (hF30.trans hF31) [1, 2] (by decide) rfl) (fun _ hC => ?_) ?_
     ·obtain ⟨_, _, hleq, hq⟩ := hC
      refine r_assign rfl rfl rfl (r_nil (qq rfl))
     refine d_done (by kernel_rfl) ?_
     refine q_next (fun a ha => ?_)
     cases hb3
     exact ⟨_, b11, as26, ns26, cs26, (hF30.trans hF31), hx50.pick [0, 1, 2] (by decide) rfl, hs26, ha.cut (l := [1, 2, 5, 6, 7, 8]) rfl⟩
 ·clear hm
  rcases cond_some hb1 with ⟨hb22, hb1⟩ | ⟨hb22, hb1⟩
  ·refine r_lit 20 rfl hb22 ?_
   refine r_off rfl (by decide) rfl (r_off rfl (by decide) rfl (r_off rfl (by decide) rfl (r_pick_true rfl rfl rfl rfl (r_nil ?_))))
   refine q_next (fun a ha => ?_)
   cases hb1
   exact ⟨_, Frz.refl _, hx3.pick [0] (by decide) rfl, ha.cut (l := [1, 2, 5, 24]) rfl⟩
  ·refine r_lit 20 rfl hb22 ?_
   refine r_loadBA (cs' := [.int .i64 f1.P.Sign, .slice as1 ns1 cs1, .int .i64 f1.Q.Sign, .slice as2 ns2 cs2]) ag26 sz26 rfl rfl hx3 rfl (i := 0) rfl rfl rfl ?_
   obtain ⟨v29, hv22, hb1⟩ := bind_some hb1
   refine r_callG0 ent25 rfl rfl rfl rfl hx3 (frac_Right_ok _ _ _ hv22 hx3.sat ((hs1.mono hF1).mono hF2) ((hs2.mono hF1).mono hF2)) ?_
   rintro _ Fx32 _ wx52 hF32 hx51 ⟨rfl, rfl⟩
   refine r_not rfl rfl rfl (r_pick_false rfl rfl rfl rfl (r_nil ?_))
   refine q_next (fun a ha => ?_)
   cases hb1
   exact ⟨_, hF32, hx51.pick [0] (by decide) rfl, ha.cut (l := [1, 2, 5, 24]) rfl⟩


end Go.Proofs.YtaanocaobllohaaGreatDoor.M
