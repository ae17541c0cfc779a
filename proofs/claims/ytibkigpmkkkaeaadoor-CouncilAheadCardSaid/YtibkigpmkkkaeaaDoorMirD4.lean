/-
  THE MIRRORS of the council's functions, of the tariff's and the lexer's, of the references and the laws, and that each call returns what its mirror says. Printed by gen.py.
-/
import Derived.Test.YtibkigpmkkkaeaaDoorRows
import Derived.Test.YtibkigpmkkkaeaaDoorRtH
import Derived.Test.YtibkigpmkkkaeaaDoorExpr
import Derived.Test.YtibkigpmkkkaeaaDoorMirS
namespace Go.Proofs.YtibkigpmkkkaeaaDoor.M
open Go Go.RowKit Rt

theorem ent7 : Ent Tryd.prog 7 := fun _ _ => by kernel_rfl

theorem ent8 : Ent Tryd.prog 8 := fun _ _ => by kernel_rfl

theorem ent14 : Ent Tryd.prog 14 := fun _ _ => by kernel_rfl

theorem u4 : Tryd.prog.underlying 4 = some .bool := by kernel_rfl

theorem ap22 : AppIs Tryd.prog 22 42 3 32 := AppIs.of (z := .agg #[vs [], .int .i64 0, .int .i64 0]) (by kernel_rfl) (by kernel_rfl) rfl (by decide) (by decide)

def law40_CouncilAhead_L2 (n : Nat) (motions1 : (List Motion)) (about1 : (List Vote)) (kont1 : (List Vote) → Option Bool) : Nat → Int → (List Vote) → Option Bool
 | 0, _, _ => none
 | mx1 + 1, i2, l2 =>
  bif decide (i2 < (about1.length : Int)) then
   (ix about1 i2).bind fun ex1 =>
   (ix about1 i2).bind fun ex2 =>
   (app 24 l2 [(⟨(motions1.length : Int), ex1.Commune, ex2.Yes⟩ : Vote)]).bind fun l7 =>
   law40_CouncilAhead_L2 n motions1 about1 kont1 mx1 (iadd .i64 i2 1) l7
  else
   kont1 l2

theorem law40_CouncilAhead_L2_s (n : Nat) (motions1 : (List Motion)) (about1 : (List Vote)) (kont1 : (List Vote) → Option Bool) (mx1 : Nat) (i2 : Int) (l2 : List Vote) : law40_CouncilAhead_L2 n motions1 about1 kont1 (mx1 + 1) i2 l2 =
  bif decide (i2 < (about1.length : Int)) then
   (ix about1 i2).bind fun ex1 =>
   (ix about1 i2).bind fun ex2 =>
   (app 24 l2 [(⟨(motions1.length : Int), ex1.Commune, ex2.Yes⟩ : Vote)]).bind fun l7 =>
   law40_CouncilAhead_L2 n motions1 about1 kont1 mx1 (iadd .i64 i2 1) l7
  else
   kont1 l2 := rfl

def law40_CouncilAhead_L1 (n : Nat) (motions1 : (List Motion)) (votes1 : (List Vote)) (v1 : Bool) (kont2 : Option Bool) : Nat → Int → Option Bool
 | 0, _ => none
 | mx2 + 1, i1 =>
  bif decide (i1 < (votes1.length : Int)) then
   (ix votes1 i1).bind fun ex3 =>
   bif ex3.Motion == (motions1.length : Int) then
    some v1
   else
    law40_CouncilAhead_L1 n motions1 votes1 v1 kont2 mx2 (iadd .i64 i1 1)
  else
   kont2

theorem law40_CouncilAhead_L1_s (n : Nat) (motions1 : (List Motion)) (votes1 : (List Vote)) (v1 : Bool) (kont2 : Option Bool) (mx2 : Nat) (i1 : Int) : law40_CouncilAhead_L1 n motions1 votes1 v1 kont2 (mx2 + 1) i1 =
  bif decide (i1 < (votes1.length : Int)) then
   (ix votes1 i1).bind fun ex3 =>
   bif ex3.Motion == (motions1.length : Int) then
    some v1
   else
    law40_CouncilAhead_L1 n motions1 votes1 v1 kont2 mx2 (iadd .i64 i1 1)
  else
   kont2 := rfl

def law40_CouncilAhead (n : Nat) (motions1 : (List Motion)) (votes1 : (List Vote)) (weights1 : (List Int)) (names1 : (List Bs)) (notice1 : Int) (x1 : Motion) (about1 : (List Vote)) (day1 : Int) : Option Bool :=
 (law40_sane n).bind fun v1 =>
 (ref40_Few n motions1 votes1 weights1 names1).bind fun v2 =>
 (bif !v2 then
  some true
 else
  some (decide (7 < (motions1.length : Int)))).bind fun v3 =>
 (bif v3 then
  some true
 else
  some (decide (60 < (votes1.length : Int)))).bind fun v4 =>
 (bif v4 then
  some true
 else
  some (decide (600 < (x1.Text.length : Int)))).bind fun v5 =>
 (bif v5 then
  some true
 else
  some (decide (30 < (about1.length : Int)))).bind fun v6 =>
 bif v6 then
  some v1
 else
  law40_CouncilAhead_L1 n motions1 votes1 v1 (
   (app 24 [] votes1).bind fun l1 =>
   law40_CouncilAhead_L2 n motions1 about1 (fun (l3 : List Vote) =>
    (council_Adopt n motions1 votes1 weights1 names1 notice1).bind fun v7 =>
    ((app 32 [] motions1).bind fun l5 =>
    (app 32 l5 [x1]).bind fun l6 =>
    (council_Adopt n l6 l3 weights1 names1 notice1).bind fun v21 =>
    some (v21.1, v21.2.1, v21.2.2)).bind fun (c1, d1, f1) =>
    (bif v7.2.2 != f1 then
     some true
    else
     some (v7.2.2 != 0)).bind fun v8 =>
    bif v8 then
     (bif v1 then
      some (v7.2.2 == f1)
     else
      some false).bind fun v9 =>
     some v9
    else
     (bif (d1.length : Int) != (iadd .i64 (v7.2.1.length : Int) 1) then
      some true
     else
      (lsl d1 0 (isub .i64 (d1.length : Int) 1)).bind fun l4 =>
      (ref40_SameErrors n l4 v7.2.1).bind fun v20 =>
      some (!v20)).bind fun v10 =>
     (bif v10 then
      some true
     else
      some (decide ((c1.length : Int) < (v7.1.length : Int)))).bind fun v11 =>
     (bif v11 then
      some true
     else
      some (decide ((iadd .i64 (v7.1.length : Int) 1) < (c1.length : Int)))).bind fun v12 =>
     bif v12 then
      some false
     else
      (council_InForce n v7.1 day1).bind fun v13 =>
      (council_InForce n c1 day1).bind fun v14 =>
      bif decide (x1.From ≤ day1) then
       (bif v1 then
        (bif !v13.2 then
         some true
        else
         some v14.2).bind fun v16 =>
        some v16
       else
        some false).bind fun v15 =>
       some v15
      else
       (bif v1 then
        some (v13.2 == v14.2)
       else
        some false).bind fun v17 =>
       (bif v17 then
        (ref35_SameTariff n v13.1 v14.1).bind fun v19 =>
        some v19
       else
        some false).bind fun v18 =>
       some v18) n 0 l1) n 0

set_option maxHeartbeats 1000000 in
set_option maxRecDepth 1000000 in
theorem law40_CouncilAhead_ok (n : Nat) (motions1 : (List Motion)) (votes1 : (List Vote)) (weights1 : (List Int)) (names1 : (List Bs)) (notice1 : Int) (x1 : Motion) (about1 : (List Vote)) (day1 : Int) (r : Bool) (hm : law40_CouncilAhead n motions1 votes1 weights1 names1 notice1 x1 about1 day1 = some r) {w : World} {F : Frz} (hs : Sat F w) {as1 : Option Addr} {ns1 : Nat} {cs1 : Nat} {as2 : Option Addr} {ns2 : Nat} {cs2 : Nat} {as3 : Option Addr} {ns3 : Nat} {cs3 : Nat} {as4 : Option Addr} {ns4 : Nat} {cs4 : Nat} {as5 : Option Addr} {ns5 : Nat} {cs5 : Nat} (hs1 : SlR rp_Motion F as1 ns1 cs1 motions1) (hs2 : SlR rp_Vote F as2 ns2 cs2 votes1) (hs3 : SlR (Rp.int .i64) F as3 ns3 cs3 weights1) (hs4 : SlR Rp.str F as4 ns4 cs4 names1) (hs5 : SlR rp_Vote F as5 ns5 cs5 about1) (hg0 : FX F 0 [.int .u8 40, .int .u8 41, .int .u8 44, .int .u8 59, .int .u8 58, .int .u8 61, .int .u8 60, .int .u8 43, .int .u8 45, .int .u8 42, .int .u8 47, .int .u8 123, .int .u8 125]) :
  Calls Tryd.prog 6 #[.slice as1 ns1 cs1, .slice as2 ns2 cs2, .slice as3 ns3 cs3, .slice as4 ns4 cs4, .int .i64 notice1, .agg #[vs x1.Text, .int .i64 x1.Day, .int .i64 x1.From], .slice as5 ns5 cs5, .int .i64 day1] w fun e w' => ∃ v F' O', e = .returned v ∧ HS F w [] F' O' w' ∧ (v = .bool r ∧ O' = []) := by
 unfold law40_CouncilAhead at hm
 have h := HS.init hs
 refine calls_of 204 Tryd.func6 rfl rfl rfl ?_
 refine c_seq (c_region ?_)
 refine r_box rfl rfl rfl rfl h ?_
 intro b1 wx1 hx1
 refine r_assign rfl rfl rfl (r_nil (q_then (c_seq (c_region ?_))))
 obtain ⟨v1, hv1, hm⟩ := bind_some hm
 refine r_callG0 ent7 rfl rfl rfl rfl hx1 (law40_sane_ok _ _ hv1 hx1.sat hg0) ?_
 rintro _ Fx1 _ wx2 hF1 hx2 ⟨rfl, rfl⟩
 refine r_assign rfl rfl rfl (r_nil (q_then (c_seq (c_seq (c_region (r_move rfl rfl rfl (r_move rfl rfl rfl (r_move rfl rfl rfl (r_move rfl rfl rfl ?_)))))))))
 obtain ⟨v2, hv2, hm⟩ := bind_some hm
 refine r_callP0 ent8 rfl rfl rfl rfl (ref40_Few_ok _ _ _ _ _ _ hv2 hx2.sat (hs1.mono hF1) (hs2.mono hF1) (hs3.mono hF1) (hs4.mono hF1)) ?_
 refine r_not rfl rfl rfl (r_move rfl rfl rfl ?_)
 obtain ⟨v3, hb1, hm⟩ := bind_some hm
 refine r_mid 4 (fun a w' => wx2 = w' ∧ Has 204 a [(0, .slice as1 ns1 cs1), (1, .slice as2 ns2 cs2), (2, .slice as3 ns3 cs3), (3, .slice as4 ns4 cs4), (4, .int .i64 notice1), (6, .slice as5 ns5 cs5), (7, .int .i64 day1), (13, .pointer (some ⟨b1, 0, none⟩)), (17, .bool v1), (42, .bool v3)]) ?_ ?_
 ·rintro a wx3 ⟨rfl, hax1⟩
  refine rw_apply hax1 ?_
  refine r_move rfl rfl rfl ?_
  obtain ⟨v4, hb2, hm⟩ := bind_some hm
  refine r_mid 4 (fun a w' => wx2 = w' ∧ Has 204 a [(0, .slice as1 ns1 cs1), (1, .slice as2 ns2 cs2), (2, .slice as3 ns3 cs3), (3, .slice as4 ns4 cs4), (4, .int .i64 notice1), (6, .slice as5 ns5 cs5), (7, .int .i64 day1), (13, .pointer (some ⟨b1, 0, none⟩)), (17, .bool v1), (47, .bool v4)]) ?_ ?_
  ·rintro a wx4 ⟨rfl, hax2⟩
   refine rw_apply hax2 ?_
   refine r_move rfl rfl rfl ?_
   obtain ⟨v5, hb3, hm⟩ := bind_some hm
   refine r_mid 5 (fun a w' => wx2 = w' ∧ Has 204 a [(0, .slice as1 ns1 cs1), (1, .slice as2 ns2 cs2), (2, .slice as3 ns3 cs3), (3, .slice as4 ns4 cs4), (4, .int .i64 notice1), (6, .slice as5 ns5 cs5), (7, .int .i64 day1), (13, .pointer (some ⟨b1, 0, none⟩)), (17, .bool v1), (53, .bool v5)]) ?_ ?_
   ·rintro a wx5 ⟨rfl, hax3⟩
    refine rw_apply hax3 ?_
    refine r_move rfl rfl rfl ?_
    obtain ⟨v6, hb4, hm⟩ := bind_some hm
    refine r_mid 4 (fun a w' => wx2 = w' ∧ Has 204 a [(0, .slice as1 ns1 cs1), (1, .slice as2 ns2 cs2), (2, .slice as3 ns3 cs3), (3, .slice as4 ns4 cs4), (4, .int .i64 notice1), (6, .slice as5 ns5 cs5), (7, .int .i64 day1), (13, .pointer (some ⟨b1, 0, none⟩)), (17, .bool v1), (58, .bool v6)]) ?_ ?_
    ·rintro a wx6 ⟨rfl, hax4⟩
     refine rw_apply hax4 ?_
     refine r_nil (q_then ?_)
     rcases cond_some hm with ⟨hb5, hm⟩ | ⟨hb5, hm⟩
     ·refine c_lit 58 rfl hb5 ?_
      refine c_true rfl (c_seq (c_region (r_move rfl rfl rfl (r_assign rfl rfl rfl (r_nil (q_then (c_ret (q_then_ret ?_))))))))
      refine b_ret1 rfl rfl ?_
      obtain rfl := Option.some.inj hm
      exact ⟨_, _, _, rfl, hx2.pick [] (by decide) rfl, rfl, rfl⟩
     ·refine c_lit 58 rfl hb5 ?_
      refine c_false rfl (c_skip (q_then (c_seq (c_seq (c_region (r_assign rfl rfl rfl (r_nil (q_then (c_block ?_)))))))))
      intro a hax20
      obtain ⟨kont2, hkont2⟩ : ∃ kont2 : Option Bool, kont2 = (
       (app 24 [] votes1).bind fun l1 =>
       law40_CouncilAhead_L2 n motions1 about1 (fun (l3 : List Vote) =>
        (council_Adopt n motions1 votes1 weights1 names1 notice1).bind fun v7 =>
        ((app 32 [] motions1).bind fun l5 =>
        (app 32 l5 [x1]).bind fun l6 =>
        (council_Adopt n l6 l3 weights1 names1 notice1).bind fun v21 =>
        some (v21.1, v21.2.1, v21.2.2)).bind fun (c1, d1, f1) =>
        (bif v7.2.2 != f1 then
         some true
        else
         some (v7.2.2 != 0)).bind fun v8 =>
        bif v8 then
         (bif v1 then
          some (v7.2.2 == f1)
         else
          some false).bind fun v9 =>
         some v9
        else
         (bif (d1.length : Int) != (iadd .i64 (v7.2.1.length : Int) 1) then
          some true
         else
          (lsl d1 0 (isub .i64 (d1.length : Int) 1)).bind fun l4 =>
          (ref40_SameErrors n l4 v7.2.1).bind fun v20 =>
          some (!v20)).bind fun v10 =>
         (bif v10 then
          some true
         else
          some (decide ((c1.length : Int) < (v7.1.length : Int)))).bind fun v11 =>
         (bif v11 then
          some true
         else
          some (decide ((iadd .i64 (v7.1.length : Int) 1) < (c1.length : Int)))).bind fun v12 =>
         bif v12 then
          some false
         else
          (council_InForce n v7.1 day1).bind fun v13 =>
          (council_InForce n c1 day1).bind fun v14 =>
          bif decide (x1.From ≤ day1) then
           (bif v1 then
            (bif !v13.2 then
             some true
            else
             some v14.2).bind fun v16 =>
            some v16
           else
            some false).bind fun v15 =>
           some v15
          else
           (bif v1 then
            some (v13.2 == v14.2)
           else
            some false).bind fun v17 =>
           (bif v17 then
            (ref35_SameTariff n v13.1 v14.1).bind fun v19 =>
            some v19
           else
            some false).bind fun v18 =>
           some v18) n 0 l1) := ⟨_, rfl⟩
      replace hm : (fun m (s : Int) => law40_CouncilAhead_L1 n motions1 votes1 v1 kont2 m s) n 0 = some r := by rw [hkont2]; exact hm
      refine loopX (id := 0) (fun m (s : Int) => law40_CouncilAhead_L1 n motions1 votes1 v1 kont2 m s) (fun (y : Unit) => kont2) r (fun (s : Int) a w' => wx2 = w' ∧ Has 204 a [(0, .slice as1 ns1 cs1), (1, .slice as2 ns2 cs2), (2, .slice as3 ns3 cs3), (3, .slice as4 ns4 cs4), (4, .int .i64 notice1), (6, .slice as5 ns5 cs5), (7, .int .i64 day1), (13, .pointer (some ⟨b1, 0, none⟩)), (17, .bool v1), (18, .int .i64 s)]) (fun (y : Unit) a w' => wx2 = w' ∧ Has 204 a [(0, .slice as1 ns1 cs1), (1, .slice as2 ns2 cs2), (2, .slice as3 ns3 cs3), (3, .slice as4 ns4 cs4), (4, .int .i64 notice1), (6, .slice as5 ns5 cs5), (7, .int .i64 day1), (13, .pointer (some ⟨b1, 0, none⟩)), (17, .bool v1)]) (fun _ => rfl) ?_ ?_ hm ⟨rfl, hax20.cut (l := [0, 1, 2, 3, 4, 6, 7, 13, 17, 18]) rfl⟩
      ·clear hm; rintro _u a wx7 hm ⟨rfl, hax5⟩
       rw [hkont2] at hm
       refine qw_apply (e := .exit 0) hax5 ?_
       refine q_block_hit (q_then (c_seq (c_region ?_)))
       refine r_buildSlice (e := 53) (cs := []) (q := 3) rfl rfl hx2 rfl (fun _ => by kernel_rfl) rfl rfl ?_
       intro b2 wx8 hx3
       refine r_move rfl rfl rfl ?_
       obtain ⟨l1, hr1, hm⟩ := bind_some hm
       refine r_appendF (r := rp_Vote) ap23 rfl rfl rfl hx3 rfl rfl (i := 0) rfl ((show RowN rp_Vote Fx1 0 [] [] from ⟨rfl, (rfl : RowR rp_Vote _ [] [])⟩)) (hs2.mono hF1) hr1 ?_
       intro as6 cs6 wx9 xss6 hx4 hs6
       refine r_assign rfl rfl rfl (r_nil (q_then (c_seq (c_seq (c_region (r_assign rfl rfl rfl (r_nil (q_then (c_block ?_)))))))))
       intro a hax18
       obtain ⟨kont1, hkont1⟩ : ∃ kont1 : (List Vote) → Option Bool, kont1 = (fun (l3 : List Vote) =>
       (council_Adopt n motions1 votes1 weights1 names1 notice1).bind fun v7 =>
       ((app 32 [] motions1).bind fun l5 =>
       (app 32 l5 [x1]).bind fun l6 =>
       (council_Adopt n l6 l3 weights1 names1 notice1).bind fun v21 =>
       some (v21.1, v21.2.1, v21.2.2)).bind fun (c1, d1, f1) =>
       (bif v7.2.2 != f1 then
        some true
       else
        some (v7.2.2 != 0)).bind fun v8 =>
       bif v8 then
        (bif v1 then
         some (v7.2.2 == f1)
        else
         some false).bind fun v9 =>
        some v9
       else
        (bif (d1.length : Int) != (iadd .i64 (v7.2.1.length : Int) 1) then
         some true
        else
         (lsl d1 0 (isub .i64 (d1.length : Int) 1)).bind fun l4 =>
         (ref40_SameErrors n l4 v7.2.1).bind fun v20 =>
         some (!v20)).bind fun v10 =>
        (bif v10 then
         some true
        else
         some (decide ((c1.length : Int) < (v7.1.length : Int)))).bind fun v11 =>
        (bif v11 then
         some true
        else
         some (decide ((iadd .i64 (v7.1.length : Int) 1) < (c1.length : Int)))).bind fun v12 =>
        bif v12 then
         some false
        else
         (council_InForce n v7.1 day1).bind fun v13 =>
         (council_InForce n c1 day1).bind fun v14 =>
         bif decide (x1.From ≤ day1) then
          (bif v1 then
           (bif !v13.2 then
            some true
           else
            some v14.2).bind fun v16 =>
           some v16
          else
           some false).bind fun v15 =>
          some v15
         else
          (bif v1 then
           some (v13.2 == v14.2)
          else
           some false).bind fun v17 =>
          (bif v17 then
           (ref35_SameTariff n v13.1 v14.1).bind fun v19 =>
           some v19
          else
           some false).bind fun v18 =>
          some v18) := ⟨_, rfl⟩
       replace hm : (fun m (s : Int × List Vote) => law40_CouncilAhead_L2 n motions1 about1 kont1 m s.1 s.2) n (0, l1) = some r := by rw [hkont1]; exact hm
       refine loopX (id := 2) (fun m (s : Int × List Vote) => law40_CouncilAhead_L2 n motions1 about1 kont1 m s.1 s.2) (fun (y : List Vote) => kont1 y) r (fun (s : Int × List Vote) a w' => ∃ (Fx2 : Frz) (as7 : Option Addr) (ns7 : Nat) (cs7 : Nat) (xss7 : List Value), Frz.le Fx1 Fx2 ∧ HS F w [] Fx2 [.row 53 3 as7 ns7 cs7 xss7, .box b1 42 [vs x1.Text, .int .i64 x1.Day, .int .i64 x1.From]] w' ∧ (RowN rp_Vote Fx2 ns7 xss7 s.2) ∧ Has 204 a [(0, .slice as1 ns1 cs1), (1, .slice as2 ns2 cs2), (2, .slice as3 ns3 cs3), (3, .slice as4 ns4 cs4), (4, .int .i64 notice1), (6, .slice as5 ns5 cs5), (7, .int .i64 day1), (13, .pointer (some ⟨b1, 0, none⟩)), (17, .bool v1), (19, .slice as7 ns7 cs7), (20, .int .i64 s.1)]) (fun (y : List Vote) a w' => ∃ (Fx3 : Frz) (as8 : Option Addr) (ns8 : Nat) (cs8 : Nat) (xss8 : List Value), Frz.le Fx1 Fx3 ∧ HS F w [] Fx3 [.row 53 3 as8 ns8 cs8 xss8, .box b1 42 [vs x1.Text, .int .i64 x1.Day, .int .i64 x1.From]] w' ∧ (RowN rp_Vote Fx3 ns8 xss8 y) ∧ Has 204 a [(0, .slice as1 ns1 cs1), (1, .slice as2 ns2 cs2), (2, .slice as3 ns3 cs3), (3, .slice as4 ns4 cs4), (4, .int .i64 notice1), (7, .int .i64 day1), (13, .pointer (some ⟨b1, 0, none⟩)), (17, .bool v1), (19, .slice as8 ns8 cs8)]) (fun _ => rfl) ?_ ?_ hm ⟨_, as6, (0 + ns2), cs6, xss6, Frz.refl _, hx4.pick [0, 1] (by decide) rfl, hs6, hax18.cut (l := [0, 1, 2, 3, 4, 6, 7, 13, 17, 19, 20]) rfl⟩
       ·clear hm; rintro l3 a wx10 hm ⟨Fx3, as8, ns8, cs8, xss8, hF3, hx6, hs8, hax6⟩
        rw [hkont1] at hm
        replace hm := hm
        refine qw_apply (e := .exit 2) hax6 ?_
        refine q_block_hit (q_then (c_seq (c_region (r_move rfl rfl rfl (r_move rfl rfl rfl (r_move rfl rfl rfl (r_move rfl rfl rfl (r_move rfl rfl rfl ?_))))))))
        obtain ⟨v7, hv3, hm⟩ := bind_some hm
        refine r_callG0 ent9 rfl rfl rfl rfl hx6 (council_Adopt_ok _ _ _ _ _ _ _ hv3 hx6.sat ((hs1.mono hF1).mono hF3) ((hs2.mono hF1).mono hF3) ((hs3.mono hF1).mono hF3) ((hs4.mono hF1).mono hF3) ((hg0.mono hF1).mono hF3)) ?_
        rintro _ Fx4 _ wx11 hF4 hx7 ⟨as9, ns9, cs9, as10, ns10, cs10, rfl, rfl, hs9, hs10⟩
        refine r_move rfl rfl rfl (r_extract rfl rfl rfl rfl (r_extract rfl rfl rfl rfl (r_extract rfl rfl rfl rfl (r_assign rfl rfl rfl (r_assign rfl rfl rfl (r_assign rfl rfl rfl (r_nil (q_then ?_))))))))
        obtain ⟨Fx5, hF5, hx8, hsx1⟩ := freezeRow hx7 (i := 0) rfl (hs8.mono hF4)
        obtain ⟨⟨c1, d1, f1⟩, hb6, hm⟩ := bind_some hm
        refine c_mid (fun a w' => ∃ (Fx6 : Frz) (as11 : Option Addr) (ns11 : Nat) (cs11 : Nat) (as12 : Option Addr) (ns12 : Nat) (cs12 : Nat), Frz.le Fx5 Fx6 ∧ HS F w [] Fx6 [.box b1 42 [vs x1.Text, .int .i64 x1.Day, .int .i64 x1.From]] w' ∧ (SlR rp_Version Fx6 as11 ns11 cs11 c1) ∧ (SlR (Rp.int .i64) Fx6 as12 ns12 cs12 d1) ∧ Has 204 a [(7, .int .i64 day1), (13, .pointer (some ⟨b1, 0, none⟩)), (17, .bool v1), (21, .slice as9 ns9 cs9), (22, .slice as10 ns10 cs10), (23, .int .i64 v7.2.2), (24, .slice as11 ns11 cs11), (25, .slice as12 ns12 cs12), (26, .int .i64 f1)]) ?_ ?_
        ·rintro a wx12 ⟨Fx6, as11, ns11, cs11, as12, ns12, cs12, hF6, hx9, hs11, hs12, hax7⟩
         refine cw_apply hax7 ?_
         refine c_seq (c_seq (c_region (r_move rfl rfl rfl (r_move rfl rfl rfl ?_))))
         refine r_bin rfl rfl rfl rfl rfl ?_
         refine r_move rfl rfl rfl ?_
         obtain ⟨v8, hb7, hm⟩ := bind_some hm
         refine r_mid 3 (fun a w' => wx12 = w' ∧ Has 204 a [(7, .int .i64 day1), (13, .pointer (some ⟨b1, 0, none⟩)), (17, .bool v1), (21, .slice as9 ns9 cs9), (22, .slice as10 ns10 cs10), (23, .int .i64 v7.2.2), (24, .slice as11 ns11 cs11), (25, .slice as12 ns12 cs12), (26, .int .i64 f1), (131, .bool v8)]) ?_ ?_
         ·rintro a wx13 ⟨rfl, hax8⟩
          refine rw_apply hax8 ?_
          refine r_nil (q_then ?_)
          rcases cond_some hm with ⟨hb8, hm⟩ | ⟨hb8, hm⟩
          ·refine c_lit 131 rfl hb8 ?_
           refine c_true rfl (c_seq (c_region (r_move rfl rfl rfl (r_move rfl rfl rfl ?_))))
           obtain ⟨v9, hb9, hm⟩ := bind_some hm
           refine r_mid 4 (fun a w' => wx12 = w' ∧ Has 204 a [(137, .bool v9)]) ?_ ?_
           ·rintro a wx14 ⟨rfl, hax9⟩
            refine rw_apply hax9 ?_
            refine r_assign rfl rfl rfl (r_nil (q_then (c_ret (q_then_ret ?_))))
            refine b_ret1 rfl rfl ?_
            obtain rfl := Option.some.inj hm
            exact ⟨_, _, _, rfl, hx9.pick [] (by decide) rfl, rfl, rfl⟩
           ·clear hm
            rcases cond_some hb9 with ⟨hb10, hb9⟩ | ⟨hb10, hb9⟩
            ·refine r_lit 133 rfl hb10 ?_
             refine r_move rfl rfl rfl (r_move rfl rfl rfl ?_)
             refine r_bin rfl rfl rfl rfl rfl ?_
             refine r_pick_true rfl rfl rfl rfl (r_nil ?_)
             refine q_next (fun a ha => ?_)
             cases hb9
             exact ⟨rfl, ha.cut (l := [137]) rfl⟩
            ·refine r_lit 133 rfl hb10 ?_
             refine r_off rfl (by decide) rfl (r_off rfl (by decide) rfl (r_off rfl (by decide) rfl (r_pick_false rfl rfl rfl rfl (r_nil ?_))))
             refine q_next (fun a ha => ?_)
             cases hb9
             exact ⟨rfl, ha.cut (l := [137]) rfl⟩
          ·refine c_lit 131 rfl hb8 ?_
           refine c_false rfl (c_skip (q_then (c_seq (c_seq (c_region (r_move rfl rfl rfl ?_))))))
           refine r_lenS hs12.len u29 rfl rfl rfl ?_
           refine r_move rfl rfl rfl ?_
           refine r_lenS hs10.len u29 rfl rfl rfl ?_
           refine r_bin rfl rfl rfl rfl rfl ?_
           refine r_bin rfl rfl rfl rfl rfl ?_
           refine r_move rfl rfl rfl ?_
           obtain ⟨v10, hb11, hm⟩ := bind_some hm
           refine r_mid 9 (fun a w' => ∃ (Fx7 : Frz), Frz.le Fx6 Fx7 ∧ HS F w [] Fx7 [.box b1 42 [vs x1.Text, .int .i64 x1.Day, .int .i64 x1.From]] w' ∧ Has 204 a [(7, .int .i64 day1), (13, .pointer (some ⟨b1, 0, none⟩)), (17, .bool v1), (21, .slice as9 ns9 cs9), (24, .slice as11 ns11 cs11), (153, .bool v10)]) ?_ ?_
           ·rintro a wx15 ⟨Fx7, hF7, hx10, hax10⟩
            refine rw_apply hax10 ?_
            refine r_move rfl rfl rfl ?_
            obtain ⟨v11, hb12, hm⟩ := bind_some hm
            refine r_mid 6 (fun a w' => wx15 = w' ∧ Has 204 a [(7, .int .i64 day1), (13, .pointer (some ⟨b1, 0, none⟩)), (17, .bool v1), (21, .slice as9 ns9 cs9), (24, .slice as11 ns11 cs11), (160, .bool v11)]) ?_ ?_
            ·rintro a wx16 ⟨rfl, hax11⟩
             refine rw_apply hax11 ?_
             refine r_move rfl rfl rfl ?_
             obtain ⟨v12, hb13, hm⟩ := bind_some hm
             refine r_mid 7 (fun a w' => wx15 = w' ∧ Has 204 a [(7, .int .i64 day1), (13, .pointer (some ⟨b1, 0, none⟩)), (17, .bool v1), (21, .slice as9 ns9 cs9), (24, .slice as11 ns11 cs11), (168, .bool v12)]) ?_ ?_
             ·rintro a wx17 ⟨rfl, hax12⟩
              refine rw_apply hax12 ?_
              refine r_nil (q_then ?_)
              rcases cond_some hm with ⟨hb14, hm⟩ | ⟨hb14, hm⟩
              ·refine c_lit 168 rfl hb14 ?_
               refine c_true rfl (c_seq (c_region (r_assign rfl rfl rfl (r_nil (q_then (c_ret (q_then_ret ?_)))))))
               refine b_ret1 rfl rfl ?_
               obtain rfl := Option.some.inj hm
               exact ⟨_, _, _, rfl, hx10.pick [] (by decide) rfl, rfl, rfl⟩
              ·refine c_lit 168 rfl hb14 ?_
               refine c_false rfl (c_skip (q_then (c_seq (c_region (r_move rfl rfl rfl (r_move rfl rfl rfl ?_))))))
               obtain ⟨v13, hv4, hm⟩ := bind_some hm
               refine r_callG0 ent10 rfl rfl rfl rfl hx10 (council_InForce_ok _ _ _ _ hv4 hx10.sat (((hs9.mono hF5).mono hF6).mono hF7)) ?_
               rintro _ Fx8 _ wx18 hF8 hx11 ⟨as13, ns13, cs13, rfl, rfl, hs13⟩
               refine r_move rfl rfl rfl (r_extract rfl rfl rfl rfl (r_extract rfl rfl rfl rfl ?_))
               refine r_alloc ze37 rfl rfl rfl hx11 ?_
               intro b3 wx19 hx12
               refine r_store sz37 rfl hx12 rfl rfl rfl rfl (i := 0) rfl rfl rfl rfl ?_
               intro wx20 hx13
               refine r_assign rfl rfl rfl (r_nil (q_then (c_seq (c_region (r_move rfl rfl rfl (r_move rfl rfl rfl ?_))))))
               obtain ⟨v14, hv5, hm⟩ := bind_some hm
               refine r_callG0 ent10 rfl rfl rfl rfl hx13 (council_InForce_ok _ _ _ _ hv5 hx13.sat ((hs11.mono hF7).mono hF8)) ?_
               rintro _ Fx9 _ wx21 hF9 hx14 ⟨as14, ns14, cs14, rfl, rfl, hs14⟩
               refine r_move rfl rfl rfl (r_extract rfl rfl rfl rfl (r_extract rfl rfl rfl rfl ?_))
               refine r_alloc ze37 rfl rfl rfl hx14 ?_
               intro b4 wx22 hx15
               refine r_store sz37 rfl hx15 rfl rfl rfl rfl (i := 0) rfl rfl rfl rfl ?_
               intro wx23 hx16
               refine r_assign rfl rfl rfl (r_nil (q_then (c_seq (c_seq (c_region (r_move rfl rfl rfl ?_))))))
               refine r_fieldAddr fa42_2 rfl rfl rfl ?_
               refine r_loadB1 ag3 rfl rfl hx16 rfl (i := 2) rfl rfl ?_
               refine r_bin rfl rfl rfl rfl rfl ?_
               refine r_nil (q_then ?_)
               rcases cond_some hm with ⟨hb15, hm⟩ | ⟨hb15, hm⟩
               ·refine c_lit 184 rfl hb15 ?_
                refine c_true rfl (c_seq (c_region (r_move rfl rfl rfl (r_move rfl rfl rfl ?_))))
                obtain ⟨v15, hb16, hm⟩ := bind_some hm
                refine r_mid 6 (fun a w' => wx23 = w' ∧ Has 204 a [(192, .bool v15)]) ?_ ?_
                ·rintro a wx24 ⟨rfl, hax13⟩
                 refine rw_apply hax13 ?_
                 refine r_assign rfl rfl rfl (r_nil (q_then (c_ret (q_then_ret ?_))))
                 refine b_ret1 rfl rfl ?_
                 obtain rfl := Option.some.inj hm
                 exact ⟨_, _, _, rfl, hx16.pick [] (by decide) rfl, rfl, rfl⟩
                ·clear hm
                 rcases cond_some hb16 with ⟨hb17, hb16⟩ | ⟨hb17, hb16⟩
                 ·refine r_lit 186 rfl hb17 ?_
                  refine r_move rfl rfl rfl (r_not rfl rfl rfl (r_move rfl rfl rfl ?_))
                  obtain ⟨v16, hb18, hb16⟩ := bind_some hb16
                  refine r_mid 2 (fun a w' => wx23 = w' ∧ Has 204 a [(186, .bool true), (191, .bool v16)]) ?_ ?_
                  ·rintro a wx25 ⟨rfl, hax14⟩
                   refine rw_apply hax14 ?_
                   refine r_pick_true rfl rfl rfl rfl (r_nil ?_)
                   refine q_next (fun a ha => ?_)
                   cases hb16
                   exact ⟨rfl, ha.cut (l := [192]) rfl⟩
                  ·clear hb16
                   rcases cond_some hb18 with ⟨hb19, hb18⟩ | ⟨hb19, hb18⟩
                   ·refine r_lit 189 rfl hb19 ?_
                    refine r_off rfl (by decide) rfl (r_pick_true rfl rfl rfl rfl (r_nil ?_))
                    refine q_next (fun a ha => ?_)
                    cases hb18
                    exact ⟨rfl, ha.cut (l := [186, 191]) rfl⟩
                   ·refine r_lit 189 rfl hb19 ?_
                    refine r_move rfl rfl rfl (r_pick_false rfl rfl rfl rfl (r_nil ?_))
                    refine q_next (fun a ha => ?_)
                    cases hb18
                    exact ⟨rfl, ha.cut (l := [186, 191]) rfl⟩
                 ·refine r_lit 186 rfl hb17 ?_
                  refine r_off rfl (by decide) rfl (r_off rfl (by decide) rfl (r_off rfl (by decide) rfl (r_off rfl (by decide) rfl (r_off rfl (by decide) rfl (r_pick_false rfl rfl rfl rfl (r_nil ?_))))))
                  refine q_next (fun a ha => ?_)
                  cases hb16
                  exact ⟨rfl, ha.cut (l := [192]) rfl⟩
               ·refine c_lit 184 rfl hb15 ?_
                refine c_false rfl (c_skip (q_then (c_seq (c_region (r_move rfl rfl rfl (r_move rfl rfl rfl ?_))))))
                obtain ⟨v17, hb20, hm⟩ := bind_some hm
                refine r_mid 4 (fun a w' => wx23 = w' ∧ Has 204 a [(27, .pointer (some ⟨b3, 0, none⟩)), (29, .pointer (some ⟨b4, 0, none⟩)), (198, .bool v17)]) ?_ ?_
                ·rintro a wx26 ⟨rfl, hax15⟩
                 refine rw_apply hax15 ?_
                 refine r_move rfl rfl rfl ?_
                 obtain ⟨v18, hb21, hm⟩ := bind_some hm
                 refine r_mid 4 (fun a w' => ∃ (Fx10 : Frz), Frz.le Fx9 Fx10 ∧ HS F w [] Fx10 [.box b4 37 [vs v14.1.Name, .int .i64 v14.1.Fee.Op, .int .i64 v14.1.Fee.N, vs v14.1.Fee.Name, .slice as14 ns14 cs14, .int .i64 v14.1.Cap], .box b3 37 [vs v13.1.Name, .int .i64 v13.1.Fee.Op, .int .i64 v13.1.Fee.N, vs v13.1.Fee.Name, .slice as13 ns13 cs13, .int .i64 v13.1.Cap], .box b1 42 [vs x1.Text, .int .i64 x1.Day, .int .i64 x1.From]] w' ∧ Has 204 a [(203, .bool v18)]) ?_ ?_
                 ·rintro a wx27 ⟨Fx10, hF10, hx17, hax16⟩
                  refine rw_apply hax16 ?_
                  refine r_assign rfl rfl rfl (r_nil (q_then (c_ret ?_)))
                  refine b_ret1 rfl rfl ?_
                  obtain rfl := Option.some.inj hm
                  exact ⟨_, _, _, rfl, hx17.pick [] (by decide) rfl, rfl, rfl⟩
                 ·clear hm
                  rcases cond_some hb21 with ⟨hb22, hb21⟩ | ⟨hb22, hb21⟩
                  ·refine r_lit 199 rfl hb22 ?_
                   refine r_loadBW ag37 sz37 rfl rfl hx16 rfl (i := 1) rfl rfl ?_
                   refine r_loadBW ag37 sz37 rfl rfl hx16 rfl (i := 0) rfl rfl ?_
                   obtain ⟨v19, hv6, hb21⟩ := bind_some hb21
                   refine r_callG0 ent14 rfl rfl rfl rfl hx16 (ref35_SameTariff_ok _ _ _ _ hv6 hx16.sat (hs13.mono hF9) hs14) ?_
                   rintro _ Fx11 _ wx28 hF11 hx18 ⟨rfl, rfl⟩
                   refine r_pick_true rfl rfl rfl rfl (r_nil ?_)
                   refine q_next (fun a ha => ?_)
                   cases hb21
                   exact ⟨_, hF11, hx18.pick [0, 1, 2] (by decide) rfl, ha.cut (l := [203]) rfl⟩
                  ·refine r_lit 199 rfl hb22 ?_
                   refine r_off rfl (by decide) rfl (r_off rfl (by decide) rfl (r_off rfl (by decide) rfl (r_pick_false rfl rfl rfl rfl (r_nil ?_))))
                   refine q_next (fun a ha => ?_)
                   cases hb21
                   exact ⟨_, Frz.refl _, hx16.pick [0, 1, 2] (by decide) rfl, ha.cut (l := [203]) rfl⟩
                ·clear hm
                 rcases cond_some hb20 with ⟨hb23, hb20⟩ | ⟨hb23, hb20⟩
                 ·refine r_lit 194 rfl hb23 ?_
                  refine r_move rfl rfl rfl (r_move rfl rfl rfl ?_)
                  refine r_beq u4 rfl rfl rfl rfl ?_
                  refine r_pick_true rfl rfl rfl rfl (r_nil ?_)
                  refine q_next (fun a ha => ?_)
                  cases hb20
                  exact ⟨rfl, ha.cut (l := [27, 29, 198]) rfl⟩
                 ·refine r_lit 194 rfl hb23 ?_
                  refine r_off rfl (by decide) rfl (r_off rfl (by decide) rfl (r_off rfl (by decide) rfl (r_pick_false rfl rfl rfl rfl (r_nil ?_))))
                  refine q_next (fun a ha => ?_)
                  cases hb20
                  exact ⟨rfl, ha.cut (l := [27, 29, 198]) rfl⟩
             ·clear hm
              rcases cond_some hb13 with ⟨hb24, hb13⟩ | ⟨hb24, hb13⟩
              ·refine r_lit 161 rfl hb24 ?_
               refine r_off rfl (by decide) rfl (r_off rfl (by decide) rfl (r_off rfl (by decide) rfl (r_off rfl (by decide) rfl (r_off rfl (by decide) rfl (r_off rfl (by decide) rfl (r_pick_true rfl rfl rfl rfl (r_nil ?_)))))))
               refine q_next (fun a ha => ?_)
               cases hb13
               exact ⟨rfl, ha.cut (l := [7, 13, 17, 21, 24, 168]) rfl⟩
              ·refine r_lit 161 rfl hb24 ?_
               refine r_move rfl rfl rfl ?_
               refine r_lenS hs11.len u28 rfl rfl rfl ?_
               refine r_move rfl rfl rfl ?_
               refine r_lenS hs9.len u28 rfl rfl rfl ?_
               refine r_bin rfl rfl rfl rfl rfl ?_
               refine r_bin rfl rfl rfl rfl rfl ?_
               refine r_pick_false rfl rfl rfl rfl (r_nil ?_)
               refine q_next (fun a ha => ?_)
               cases hb13
               exact ⟨rfl, ha.cut (l := [7, 13, 17, 21, 24, 168]) rfl⟩
            ·clear hm
             rcases cond_some hb12 with ⟨hb25, hb12⟩ | ⟨hb25, hb12⟩
             ·refine r_lit 154 rfl hb25 ?_
              refine r_off rfl (by decide) rfl (r_off rfl (by decide) rfl (r_off rfl (by decide) rfl (r_off rfl (by decide) rfl (r_off rfl (by decide) rfl (r_pick_true rfl rfl rfl rfl (r_nil ?_))))))
              refine q_next (fun a ha => ?_)
              cases hb12
              exact ⟨rfl, ha.cut (l := [7, 13, 17, 21, 24, 160]) rfl⟩
             ·refine r_lit 154 rfl hb25 ?_
              refine r_move rfl rfl rfl ?_
              refine r_lenS hs11.len u28 rfl rfl rfl ?_
              refine r_move rfl rfl rfl ?_
              refine r_lenS hs9.len u28 rfl rfl rfl ?_
              refine r_bin rfl rfl rfl rfl rfl ?_
              refine r_pick_false rfl rfl rfl rfl (r_nil ?_)
              refine q_next (fun a ha => ?_)
              cases hb12
              exact ⟨rfl, ha.cut (l := [7, 13, 17, 21, 24, 160]) rfl⟩
           ·clear hm
            rcases cond_some hb11 with ⟨hb26, hb11⟩ | ⟨hb26, hb11⟩
            ·refine r_lit 144 rfl hb26 ?_
             refine r_off rfl (by decide) rfl (r_off rfl (by decide) rfl (r_off rfl (by decide) rfl (r_off rfl (by decide) rfl (r_off rfl (by decide) rfl (r_off rfl (by decide) rfl (r_off rfl (by decide) rfl (r_off rfl (by decide) rfl (r_pick_true rfl rfl rfl rfl (r_nil ?_)))))))))
             refine q_next (fun a ha => ?_)
             cases hb11
             exact ⟨_, Frz.refl _, hx9.pick [0] (by decide) rfl, ha.cut (l := [7, 13, 17, 21, 24, 153]) rfl⟩
            ·refine r_lit 144 rfl hb26 ?_
             refine r_move rfl rfl rfl (r_move rfl rfl rfl ?_)
             refine r_lenS hs12.len u29 rfl rfl rfl ?_
             refine r_bin rfl rfl rfl rfl rfl ?_
             obtain ⟨l4, hc1, hb11⟩ := bind_some hb11
             refine r_fsl_h u29 (r := (Rp.int .i64)) sz30 rfl rfl rfl rfl hs12 hc1 ?_
             intro as15 ns15 cs15 hs15
             refine r_move rfl rfl rfl ?_
             obtain ⟨v20, hv7, hb11⟩ := bind_some hb11
             refine r_callG0 ent18 rfl rfl rfl rfl hx9 (ref40_SameErrors_ok _ _ _ _ hv7 hx9.sat hs15 ((hs10.mono hF5).mono hF6)) ?_
             rintro _ Fx12 _ wx29 hF12 hx19 ⟨rfl, rfl⟩
             refine r_not rfl rfl rfl (r_pick_false rfl rfl rfl rfl (r_nil ?_))
             refine q_next (fun a ha => ?_)
             cases hb11
             exact ⟨_, hF12, hx19.pick [0] (by decide) rfl, ha.cut (l := [7, 13, 17, 21, 24, 153]) rfl⟩
         ·clear hm
          rcases cond_some hb7 with ⟨hb27, hb7⟩ | ⟨hb27, hb7⟩
          ·refine r_lit 128 rfl hb27 ?_
           refine r_off rfl (by decide) rfl (r_off rfl (by decide) rfl (r_pick_true rfl rfl rfl rfl (r_nil ?_)))
           refine q_next (fun a ha => ?_)
           cases hb7
           exact ⟨rfl, ha.cut (l := [7, 13, 17, 21, 22, 23, 24, 25, 26, 131]) rfl⟩
          ·refine r_lit 128 rfl hb27 ?_
           refine r_move rfl rfl rfl ?_
           refine r_bin rfl rfl rfl rfl rfl ?_
           refine r_pick_false rfl rfl rfl rfl (r_nil ?_)
           refine q_next (fun a ha => ?_)
           cases hb7
           exact ⟨rfl, ha.cut (l := [7, 13, 17, 21, 22, 23, 24, 25, 26, 131]) rfl⟩
        ·clear hm
         refine c_regionH (SH Fx5 [.box b1 42 [vs x1.Text, .int .i64 x1.Day, .int .i64 x1.From]]) 18 rfl (by kernel_rfl) hx8 ?_
         intro wx30 hx20
         refine d_tk 1 rfl (by kernel_rfl) rfl rfl rfl rfl (hx20.sh (Frz.refl _) [0] (by decide) rfl) (fun _ _ _ _ _ => r_move rfl rfl rfl (r_nil (qq rfl))) ?_
         refine d_tk 3 rfl (by kernel_rfl) rfl rfl rfl rfl (hx20.sh (Frz.refl _) [0] (by decide) rfl) (fun _ _ _ _ hq => r_loadBW ag42 sz42 rfl rfl hq rfl (i := 0) rfl rfl (r_nil (qq rfl))) ?_
         refine d_tk 6 rfl (by kernel_rfl) rfl rfl rfl rfl (hx20.sh (Frz.refl _) [0] (by decide) rfl) (fun _ _ _ _ _ => r_move rfl rfl rfl (r_nil (qq rfl))) ?_
         refine d_tk 7 rfl (by kernel_rfl) rfl rfl rfl rfl (hx20.sh (Frz.refl _) [0] (by decide) rfl) (fun _ _ _ _ _ => r_move rfl rfl rfl (r_nil (qq rfl))) ?_
         refine d_tk 8 rfl (by kernel_rfl) rfl rfl rfl rfl (hx20.sh (Frz.refl _) [0] (by decide) rfl) (fun _ _ _ _ _ => r_move rfl rfl rfl (r_nil (qq rfl))) ?_
         refine d_tk 9 rfl (by kernel_rfl) rfl rfl rfl rfl (hx20.sh (Frz.refl _) [0] (by decide) rfl) (fun _ _ _ _ _ => r_move rfl rfl rfl (r_nil (qq rfl))) ?_
         refine d_two 0 4 rfl rfl (by kernel_rfl) ?_ ?_
         ·refine r_buildSlice (e := 42) (cs := []) (q := 3) rfl rfl hx20 rfl (fun _ => by kernel_rfl) rfl rfl ?_
          intro b5 wx31 hx21
          refine d_next (hx21.sh (Frz.refl _) [1] (by decide) rfl) ?_
          refine d_two 2 4 rfl rfl (by kernel_rfl) ?_ ?_
          ·obtain ⟨l5, hr2, hb6⟩ := bind_some hb6
           refine r_appendF (r := rp_Motion) ap22 rfl rfl rfl hx21 rfl rfl (i := 0) rfl ((show RowN rp_Motion Fx5 0 [] [] from ⟨rfl, (rfl : RowR rp_Motion _ [] [])⟩)) ((((hs1.mono hF1).mono hF3).mono hF4).mono hF5) hr2 ?_
           intro as16 cs16 wx32 xss16 hx22 hs16
           refine d_next (hx22.sh (Frz.refl _) [1] (by decide) rfl) ?_
           refine d_step 4 rfl (by kernel_rfl) ?_
           refine r_buildSlice (e := 42) (cs := [vs x1.Text, .int .i64 x1.Day, .int .i64 x1.From]) (q := 3) rfl rfl hx22 rfl (fun _ => by kernel_rfl) rfl rfl ?_
           intro b6 wx33 hx23
           refine d_next (hx23.sh (Frz.refl _) [2] (by decide) rfl) ?_
           refine d_step 5 rfl (by kernel_rfl) ?_
           obtain ⟨l6, hr3, hb6⟩ := bind_some hb6
           refine r_appendN (r := rp_Motion) ap22 rfl rfl hx23 rfl rfl (i := 1) (j := 0) rfl rfl hs16 ((show RowN rp_Motion Fx5 1 [vs x1.Text, .int .i64 x1.Day, .int .i64 x1.From] [x1] from ⟨rfl, ⟨_, _, rfl, rfl, (rfl : RowR rp_Motion _ [] [])⟩⟩)) hr3 ?_
           intro as17 cs17 wx34 hx24 hs17
           refine d_next (hx24.sh (Frz.refl _) [2] (by decide) rfl) ?_
           refine d_step 10 rfl (by kernel_rfl) ?_
           obtain ⟨Fx13, hF13, hx25, hsx2⟩ := freezeRow hx24 (i := 1) rfl hs17
           have hG1 := (((hF1.trans hF3).trans hF4).trans hF5).trans hF13
           obtain ⟨v21, hv8, hb6⟩ := bind_some hb6
           refine r_callG0 ent9 rfl rfl rfl rfl hx25 (council_Adopt_ok _ _ _ _ _ _ _ hv8 hx25.sat hsx2 (hsx1.mono hF13) (hs3.mono hG1) (hs4.mono hG1) (hg0.mono hG1)) ?_
           rintro _ Fx14 _ wx35 hF14 hx26 ⟨as18, ns18, cs18, as19, ns19, cs19, rfl, rfl, hs18, hs19⟩
           refine d_next (hx26.sh (hF13.trans hF14) [1] (by decide) rfl) ?_
           refine d_tk 11 rfl (by kernel_rfl) rfl rfl rfl rfl (hx26.sh (hF13.trans hF14) [1] (by decide) rfl) (fun _ _ _ _ _ => r_move rfl rfl rfl (r_nil (qq rfl))) ?_
           refine d_tk 12 rfl (by kernel_rfl) rfl rfl rfl rfl (hx26.sh (hF13.trans hF14) [1] (by decide) rfl) (fun _ _ _ _ _ => r_extract rfl rfl rfl rfl (r_nil (qq rfl))) ?_
           refine d_tk 13 rfl (by kernel_rfl) rfl rfl rfl rfl (hx26.sh (hF13.trans hF14) [1] (by decide) rfl) (fun _ _ _ _ _ => r_extract rfl rfl rfl rfl (r_nil (qq rfl))) ?_
           refine d_tk 14 rfl (by kernel_rfl) rfl rfl rfl rfl (hx26.sh (hF13.trans hF14) [1] (by decide) rfl) (fun _ _ _ _ _ => r_extract rfl rfl rfl rfl (r_nil (qq rfl))) ?_
           refine d_tk 15 rfl (by kernel_rfl) rfl rfl rfl rfl (hx26.sh (hF13.trans hF14) [1] (by decide) rfl) (fun _ _ _ _ _ => r_assign rfl rfl rfl (r_nil (qq rfl))) ?_
           refine d_tk 16 rfl (by kernel_rfl) rfl rfl rfl rfl (hx26.sh (hF13.trans hF14) [1] (by decide) rfl) (fun _ _ _ _ _ => r_assign rfl rfl rfl (r_nil (qq rfl))) ?_
           refine d_tk 17 rfl (by kernel_rfl) rfl rfl rfl rfl (hx26.sh (hF13.trans hF14) [1] (by decide) rfl) (fun _ _ _ _ _ => r_assign rfl rfl rfl (r_nil (qq rfl))) ?_
           refine d_done (by kernel_rfl) ?_
           refine q_next (fun a ha => ?_)
           cases hb6
           exact ⟨_, as18, ns18, cs18, as19, ns19, cs19, (hF13.trans hF14), hx26.pick [1] (by decide) rfl, hs18, hs19, ha.cut (l := [7, 13, 17, 21, 22, 23, 24, 25, 26]) rfl⟩
          ·refine r_buildSlice (e := 42) (cs := [vs x1.Text, .int .i64 x1.Day, .int .i64 x1.From]) (q := 3) rfl rfl hx21 rfl (fun _ => by kernel_rfl) rfl rfl ?_
           intro b6 wx32 hx22
           refine d_next (hx22.sh (Frz.refl _) [2] (by decide) rfl) ?_
           refine d_step 2 rfl (by kernel_rfl) ?_
           obtain ⟨l5, hr2, hb6⟩ := bind_some hb6
           refine r_appendF (r := rp_Motion) ap22 rfl rfl rfl hx22 rfl rfl (i := 1) rfl ((show RowN rp_Motion Fx5 0 [] [] from ⟨rfl, (rfl : RowR rp_Motion _ [] [])⟩)) ((((hs1.mono hF1).mono hF3).mono hF4).mono hF5) hr2 ?_
           intro as16 cs16 wx33 xss16 hx23 hs16
           refine d_next (hx23.sh (Frz.refl _) [2] (by decide) rfl) ?_
           refine d_step 5 rfl (by kernel_rfl) ?_
           obtain ⟨l6, hr3, hb6⟩ := bind_some hb6
           refine r_appendN (r := rp_Motion) ap22 rfl rfl hx23 rfl rfl (i := 1) (j := 0) rfl rfl hs16 ((show RowN rp_Motion Fx5 1 [vs x1.Text, .int .i64 x1.Day, .int .i64 x1.From] [x1] from ⟨rfl, ⟨_, _, rfl, rfl, (rfl : RowR rp_Motion _ [] [])⟩⟩)) hr3 ?_
           intro as17 cs17 wx34 hx24 hs17
           refine d_next (hx24.sh (Frz.refl _) [2] (by decide) rfl) ?_
           refine d_step 10 rfl (by kernel_rfl) ?_
           obtain ⟨Fx13, hF13, hx25, hsx2⟩ := freezeRow hx24 (i := 1) rfl hs17
           have hG1 := (((hF1.trans hF3).trans hF4).trans hF5).trans hF13
           obtain ⟨v21, hv8, hb6⟩ := bind_some hb6
           refine r_callG0 ent9 rfl rfl rfl rfl hx25 (council_Adopt_ok _ _ _ _ _ _ _ hv8 hx25.sat hsx2 (hsx1.mono hF13) (hs3.mono hG1) (hs4.mono hG1) (hg0.mono hG1)) ?_
           rintro _ Fx14 _ wx35 hF14 hx26 ⟨as18, ns18, cs18, as19, ns19, cs19, rfl, rfl, hs18, hs19⟩
           refine d_next (hx26.sh (hF13.trans hF14) [1] (by decide) rfl) ?_
           refine d_tk 11 rfl (by kernel_rfl) rfl rfl rfl rfl (hx26.sh (hF13.trans hF14) [1] (by decide) rfl) (fun _ _ _ _ _ => r_move rfl rfl rfl (r_nil (qq rfl))) ?_
           refine d_tk 12 rfl (by kernel_rfl) rfl rfl rfl rfl (hx26.sh (hF13.trans hF14) [1] (by decide) rfl) (fun _ _ _ _ _ => r_extract rfl rfl rfl rfl (r_nil (qq rfl))) ?_
           refine d_tk 13 rfl (by kernel_rfl) rfl rfl rfl rfl (hx26.sh (hF13.trans hF14) [1] (by decide) rfl) (fun _ _ _ _ _ => r_extract rfl rfl rfl rfl (r_nil (qq rfl))) ?_
           refine d_tk 14 rfl (by kernel_rfl) rfl rfl rfl rfl (hx26.sh (hF13.trans hF14) [1] (by decide) rfl) (fun _ _ _ _ _ => r_extract rfl rfl rfl rfl (r_nil (qq rfl))) ?_
           refine d_tk 15 rfl (by kernel_rfl) rfl rfl rfl rfl (hx26.sh (hF13.trans hF14) [1] (by decide) rfl) (fun _ _ _ _ _ => r_assign rfl rfl rfl (r_nil (qq rfl))) ?_
           refine d_tk 16 rfl (by kernel_rfl) rfl rfl rfl rfl (hx26.sh (hF13.trans hF14) [1] (by decide) rfl) (fun _ _ _ _ _ => r_assign rfl rfl rfl (r_nil (qq rfl))) ?_
           refine d_tk 17 rfl (by kernel_rfl) rfl rfl rfl rfl (hx26.sh (hF13.trans hF14) [1] (by decide) rfl) (fun _ _ _ _ _ => r_assign rfl rfl rfl (r_nil (qq rfl))) ?_
           refine d_done (by kernel_rfl) ?_
           refine q_next (fun a ha => ?_)
           cases hb6
           exact ⟨_, as18, ns18, cs18, as19, ns19, cs19, (hF13.trans hF14), hx26.pick [1] (by decide) rfl, hs18, hs19, ha.cut (l := [7, 13, 17, 21, 22, 23, 24, 25, 26]) rfl⟩
         ·refine r_buildSlice (e := 42) (cs := [vs x1.Text, .int .i64 x1.Day, .int .i64 x1.From]) (q := 3) rfl rfl hx20 rfl (fun _ => by kernel_rfl) rfl rfl ?_
          intro b5 wx31 hx21
          refine d_next (hx21.sh (Frz.refl _) [1] (by decide) rfl) ?_
          refine d_step 0 rfl (by kernel_rfl) ?_
          refine r_buildSlice (e := 42) (cs := []) (q := 3) rfl rfl hx21 rfl (fun _ => by kernel_rfl) rfl rfl ?_
          intro b6 wx32 hx22
          refine d_next (hx22.sh (Frz.refl _) [2] (by decide) rfl) ?_
          refine d_step 2 rfl (by kernel_rfl) ?_
          obtain ⟨l5, hr2, hb6⟩ := bind_some hb6
          refine r_appendF (r := rp_Motion) ap22 rfl rfl rfl hx22 rfl rfl (i := 0) rfl ((show RowN rp_Motion Fx5 0 [] [] from ⟨rfl, (rfl : RowR rp_Motion _ [] [])⟩)) ((((hs1.mono hF1).mono hF3).mono hF4).mono hF5) hr2 ?_
          intro as16 cs16 wx33 xss16 hx23 hs16
          refine d_next (hx23.sh (Frz.refl _) [2] (by decide) rfl) ?_
          refine d_step 5 rfl (by kernel_rfl) ?_
          obtain ⟨l6, hr3, hb6⟩ := bind_some hb6
          refine r_appendN (r := rp_Motion) ap22 rfl rfl hx23 rfl rfl (i := 0) (j := 1) rfl rfl hs16 ((show RowN rp_Motion Fx5 1 [vs x1.Text, .int .i64 x1.Day, .int .i64 x1.From] [x1] from ⟨rfl, ⟨_, _, rfl, rfl, (rfl : RowR rp_Motion _ [] [])⟩⟩)) hr3 ?_
          intro as17 cs17 wx34 hx24 hs17
          refine d_next (hx24.sh (Frz.refl _) [2] (by decide) rfl) ?_
          refine d_step 10 rfl (by kernel_rfl) ?_
          obtain ⟨Fx13, hF13, hx25, hsx2⟩ := freezeRow hx24 (i := 0) rfl hs17
          have hG1 := (((hF1.trans hF3).trans hF4).trans hF5).trans hF13
          obtain ⟨v21, hv8, hb6⟩ := bind_some hb6
          refine r_callG0 ent9 rfl rfl rfl rfl hx25 (council_Adopt_ok _ _ _ _ _ _ _ hv8 hx25.sat hsx2 (hsx1.mono hF13) (hs3.mono hG1) (hs4.mono hG1) (hg0.mono hG1)) ?_
          rintro _ Fx14 _ wx35 hF14 hx26 ⟨as18, ns18, cs18, as19, ns19, cs19, rfl, rfl, hs18, hs19⟩
          refine d_next (hx26.sh (hF13.trans hF14) [1] (by decide) rfl) ?_
          refine d_tk 11 rfl (by kernel_rfl) rfl rfl rfl rfl (hx26.sh (hF13.trans hF14) [1] (by decide) rfl) (fun _ _ _ _ _ => r_move rfl rfl rfl (r_nil (qq rfl))) ?_
          refine d_tk 12 rfl (by kernel_rfl) rfl rfl rfl rfl (hx26.sh (hF13.trans hF14) [1] (by decide) rfl) (fun _ _ _ _ _ => r_extract rfl rfl rfl rfl (r_nil (qq rfl))) ?_
          refine d_tk 13 rfl (by kernel_rfl) rfl rfl rfl rfl (hx26.sh (hF13.trans hF14) [1] (by decide) rfl) (fun _ _ _ _ _ => r_extract rfl rfl rfl rfl (r_nil (qq rfl))) ?_
          refine d_tk 14 rfl (by kernel_rfl) rfl rfl rfl rfl (hx26.sh (hF13.trans hF14) [1] (by decide) rfl) (fun _ _ _ _ _ => r_extract rfl rfl rfl rfl (r_nil (qq rfl))) ?_
          refine d_tk 15 rfl (by kernel_rfl) rfl rfl rfl rfl (hx26.sh (hF13.trans hF14) [1] (by decide) rfl) (fun _ _ _ _ _ => r_assign rfl rfl rfl (r_nil (qq rfl))) ?_
          refine d_tk 16 rfl (by kernel_rfl) rfl rfl rfl rfl (hx26.sh (hF13.trans hF14) [1] (by decide) rfl) (fun _ _ _ _ _ => r_assign rfl rfl rfl (r_nil (qq rfl))) ?_
          refine d_tk 17 rfl (by kernel_rfl) rfl rfl rfl rfl (hx26.sh (hF13.trans hF14) [1] (by decide) rfl) (fun _ _ _ _ _ => r_assign rfl rfl rfl (r_nil (qq rfl))) ?_
          refine d_done (by kernel_rfl) ?_
          refine q_next (fun a ha => ?_)
          cases hb6
          exact ⟨_, as18, ns18, cs18, as19, ns19, cs19, (hF13.trans hF14), hx26.pick [1] (by decide) rfl, hs18, hs19, ha.cut (l := [7, 13, 17, 21, 22, 23, 24, 25, 26]) rfl⟩
       ·clear hm hkont1; intro hk1 mx1 K ihx1
        rintro ⟨i2, l2⟩ a wx36 hm ⟨Fx2, as7, ns7, cs7, xss7, hF2, hx5, hs7, hax17⟩
        simp only [law40_CouncilAhead_L2_s] at hm
        refine cw_apply hax17 ?_
        refine c_seq (c_seq (c_region (r_move rfl rfl rfl (r_move rfl rfl rfl ?_))))
        refine r_lenS hs5.len u23 rfl rfl rfl ?_
        refine r_bin rfl rfl rfl rfl rfl ?_
        refine r_nil (q_then ?_)
        rcases cond_some hm with ⟨hb28, hm⟩ | ⟨hb28, hm⟩
        ·refine c_lit 81 rfl hb28 ?_
         refine c_true rfl (c_skip (q_then (c_seq (c_block ?_))))
         refine c_regionH (SH Fx2 [.box b1 42 [vs x1.Text, .int .i64 x1.Day, .int .i64 x1.From]]) 17 rfl (by kernel_rfl) hx5 ?_
         intro wx37 hx27
         refine d_tk 0 rfl (by kernel_rfl) rfl rfl rfl rfl (hx27.sh (Frz.refl _) [1] (by decide) rfl) (fun _ _ _ _ _ => r_move rfl rfl rfl (r_nil (qq rfl))) ?_
         refine d_tk 1 rfl (by kernel_rfl) rfl rfl rfl rfl (hx27.sh (Frz.refl _) [1] (by decide) rfl) (fun _ _ _ _ _ => r_move rfl rfl rfl (r_nil (qq rfl))) ?_
         refine d_tk 2 rfl (by kernel_rfl) rfl rfl rfl rfl (hx27.sh (Frz.refl _) [1] (by decide) rfl) (fun _ _ _ _ _ => r_lenS hs1.len u22 rfl rfl rfl (r_nil (qq rfl))) ?_
         refine d_tk 3 rfl (by kernel_rfl) rfl rfl rfl rfl (hx27.sh (Frz.refl _) [1] (by decide) rfl) (fun _ _ _ _ _ => r_move rfl rfl rfl (r_nil (qq rfl))) ?_
         refine d_tk 4 rfl (by kernel_rfl) rfl rfl rfl rfl (hx27.sh (Frz.refl _) [1] (by decide) rfl) (fun _ _ _ _ _ => r_move rfl rfl rfl (r_nil (qq rfl))) ?_
         obtain ⟨ex1, he1, hm⟩ := bind_some hm
         obtain ⟨b7, o1, cs1, hf1, hr4, hrun1⟩ := findex_ex (P := Tryd.prog) (r := rp_Vote) u23 sz53 ((hs5.mono hF1).mono hF2) he1
         have hc2 : cs1 = [.int .i64 ex1.Motion, .int .i64 ex1.Commune, .bool ex1.Yes] := hr4
         subst hc2
         refine d_findex 5 rfl (by kernel_rfl) (by kernel_rfl) (by kernel_rfl) rfl rfl rfl rfl hrun1 (hx27.sh (Frz.refl _) [1] (by decide) rfl) ?_
         refine d_tk 6 rfl (by kernel_rfl) rfl rfl rfl rfl (hx27.sh (Frz.refl _) [1] (by decide) rfl) (fun _ _ _ _ _ => r_fieldAddr fa53_1 rfl rfl rfl (r_nil (qq rfl))) ?_
         refine d_tk 7 rfl (by kernel_rfl) rfl rfl rfl rfl (hx27.sh (Frz.refl _) [1] (by decide) rfl) (fun _ _ _ hleq hq => r_loadF1 (j := 1) ag3 rfl rfl hq (hf1.mono hleq) rfl rfl (r_nil (qq rfl))) ?_
         refine d_tk 8 rfl (by kernel_rfl) rfl rfl rfl rfl (hx27.sh (Frz.refl _) [1] (by decide) rfl) (fun _ _ _ _ _ => r_move rfl rfl rfl (r_nil (qq rfl))) ?_
         refine d_tk 9 rfl (by kernel_rfl) rfl rfl rfl rfl (hx27.sh (Frz.refl _) [1] (by decide) rfl) (fun _ _ _ _ _ => r_move rfl rfl rfl (r_nil (qq rfl))) ?_
         obtain ⟨ex2, he2, hm⟩ := bind_some hm
         obtain ⟨b8, o2, cs2, hf2, hr5, hrun2⟩ := findex_ex (P := Tryd.prog) (r := rp_Vote) u23 sz53 ((hs5.mono hF1).mono hF2) he2
         have hc3 : cs2 = [.int .i64 ex2.Motion, .int .i64 ex2.Commune, .bool ex2.Yes] := hr5
         subst hc3
         refine d_findex 10 rfl (by kernel_rfl) (by kernel_rfl) (by kernel_rfl) rfl rfl rfl rfl hrun2 (hx27.sh (Frz.refl _) [1] (by decide) rfl) ?_
         refine d_tk 11 rfl (by kernel_rfl) rfl rfl rfl rfl (hx27.sh (Frz.refl _) [1] (by decide) rfl) (fun _ _ _ _ _ => r_fieldAddr fa53_2 rfl rfl rfl (r_nil (qq rfl))) ?_
         refine d_tk 12 rfl (by kernel_rfl) rfl rfl rfl rfl (hx27.sh (Frz.refl _) [1] (by decide) rfl) (fun _ _ _ hleq hq => r_loadF1 (j := 2) ag4 rfl rfl hq (hf2.mono hleq) rfl rfl (r_nil (qq rfl))) ?_
         refine d_tk 13 rfl (by kernel_rfl) rfl rfl rfl rfl (hx27.sh (Frz.refl _) [1] (by decide) rfl) (fun _ _ _ _ _ => r_build (v := .agg #[.int .i64 (motions1.length : Int), .int .i64 ex1.Commune, .bool ex2.Yes]) rfl rfl rfl (fun _ => by kernel_rfl) (r_nil (qq rfl))) ?_
         refine d_step 14 rfl (by kernel_rfl) ?_
         refine r_buildSlice (e := 53) (cs := [.int .i64 (motions1.length : Int), .int .i64 ex1.Commune, .bool ex2.Yes]) (q := 3) rfl rfl hx27 rfl (fun _ => by kernel_rfl) rfl rfl ?_
         intro b9 wx38 hx28
         refine d_next (hx28.sh (Frz.refl _) [2] (by decide) rfl) ?_
         refine d_step 15 rfl (by kernel_rfl) ?_
         obtain ⟨l7, hr6, hm⟩ := bind_some hm
         refine r_appendN (r := rp_Vote) ap23 rfl rfl hx28 rfl rfl (i := 1) (j := 0) rfl rfl hs7 ((show RowN rp_Vote Fx2 1 [.int .i64 (motions1.length : Int), .int .i64 ex1.Commune, .bool ex2.Yes] [(⟨(motions1.length : Int), ex1.Commune, ex2.Yes⟩ : Vote)] from ⟨rfl, ⟨_, _, rfl, rfl, (rfl : RowR rp_Vote _ [] [])⟩⟩)) hr6 ?_
         intro as20 cs20 wx39 hx29 hs20
         refine d_next (hx29.sh (Frz.refl _) [2] (by decide) rfl) ?_
         refine d_tk 16 rfl (by kernel_rfl) rfl rfl rfl rfl (hx29.sh (Frz.refl _) [2] (by decide) rfl) (fun _ _ _ _ _ => r_assign rfl rfl rfl (r_nil (qq rfl))) ?_
         refine d_done (by kernel_rfl) ?_
         refine q_block (q_then (c_region (r_move rfl rfl rfl ?_)))
         refine r_bin rfl rfl rfl rfl rfl ?_
         refine r_assign rfl rfl rfl (r_nil ?_)
         refine q_next (fun a ha => ihx1 ((iadd .i64 i2 1), l7) a _ hm ?_)
         exact ⟨_, as20, (ns7 + 1), cs20, (xss7 ++ [.int .i64 (motions1.length : Int), .int .i64 ex1.Commune, .bool ex2.Yes]), hF2, hx29.pick [1, 2] (by decide) rfl, hs20, ha.cut (l := [0, 1, 2, 3, 4, 6, 7, 13, 17, 19, 20]) rfl⟩
        ·refine c_lit 81 rfl hb28 ?_
         refine c_false rfl (c_exit (q_then_exit (q_then_exit ?_)))
         refine fun a ha => hk1 l2 a _ hm ?_
         exact ⟨_, as7, ns7, cs7, xss7, hF2, hx5.pick [0, 1] (by decide) rfl, hs7, ha.cut (l := [0, 1, 2, 3, 4, 7, 13, 17, 19]) rfl⟩
      ·clear hm hkont2; intro hk2 mx2 K ihx2
       rintro i1 a wx40 hm ⟨rfl, hax19⟩
       simp only [law40_CouncilAhead_L1_s] at hm
       refine cw_apply hax19 ?_
       refine c_seq (c_seq (c_region (r_move rfl rfl rfl (r_move rfl rfl rfl ?_))))
       refine r_lenS hs2.len u23 rfl rfl rfl ?_
       refine r_bin rfl rfl rfl rfl rfl ?_
       refine r_nil (q_then ?_)
       rcases cond_some hm with ⟨hb29, hm⟩ | ⟨hb29, hm⟩
       ·refine c_lit 63 rfl hb29 ?_
        refine c_true rfl (c_skip (q_then (c_seq (c_block (c_seq (c_region (r_move rfl rfl rfl (r_move rfl rfl rfl ?_))))))))
        obtain ⟨ex3, he3, hm⟩ := bind_some hm
        refine r_findex (r := rp_Vote) u23 sz53 rfl rfl rfl rfl (hs2.mono hF1) he3 ?_
        intro b10 o3 cs3 hf3 hr7
        have hc4 : cs3 = [.int .i64 ex3.Motion, .int .i64 ex3.Commune, .bool ex3.Yes] := hr7
        subst hc4
        refine r_fieldAddr fa53_0 rfl rfl rfl ?_
        refine r_loadF1 (j := 0) ag3 rfl rfl hx2 hf3 rfl rfl ?_
        refine r_move rfl rfl rfl ?_
        refine r_lenS hs1.len u22 rfl rfl rfl ?_
        refine r_bin rfl rfl rfl rfl rfl ?_
        refine r_nil (q_then ?_)
        rcases cond_some hm with ⟨hb30, hm⟩ | ⟨hb30, hm⟩
        ·refine c_lit 73 rfl hb30 ?_
         refine c_true rfl (c_seq (c_region (r_move rfl rfl rfl (r_assign rfl rfl rfl (r_nil (q_then (c_ret (q_block_ret (q_then_ret (q_then_ret (q_block_ret (q_then_ret ?_))))))))))))
         refine b_ret1 rfl rfl ?_
         obtain rfl := Option.some.inj hm
         exact ⟨_, _, _, rfl, hx2.pick [] (by decide) rfl, rfl, rfl⟩
        ·refine c_lit 73 rfl hb30 ?_
         refine c_false rfl (c_skip (q_block (q_then (c_region (r_move rfl rfl rfl ?_)))))
         refine r_bin rfl rfl rfl rfl rfl ?_
         refine r_assign rfl rfl rfl (r_nil ?_)
         refine q_next (fun a ha => ihx2 (iadd .i64 i1 1) a _ hm ?_)
         exact ⟨rfl, ha.cut (l := [0, 1, 2, 3, 4, 6, 7, 13, 17, 18]) rfl⟩
       ·refine c_lit 63 rfl hb29 ?_
        refine c_false rfl (c_exit (q_then_exit (q_then_exit ?_)))
        refine fun a ha => hk2 () a _ hm ?_
        exact ⟨rfl, ha.cut (l := [0, 1, 2, 3, 4, 6, 7, 13, 17]) rfl⟩
    ·clear hm
     rcases cond_some hb4 with ⟨hb31, hb4⟩ | ⟨hb31, hb4⟩
     ·refine r_lit 54 rfl hb31 ?_
      refine r_off rfl (by decide) rfl (r_off rfl (by decide) rfl (r_off rfl (by decide) rfl (r_pick_true rfl rfl rfl rfl (r_nil ?_))))
      refine q_next (fun a ha => ?_)
      cases hb4
      exact ⟨rfl, ha.cut (l := [0, 1, 2, 3, 4, 6, 7, 13, 17, 58]) rfl⟩
     ·refine r_lit 54 rfl hb31 ?_
      refine r_move rfl rfl rfl ?_
      refine r_lenS hs5.len u23 rfl rfl rfl ?_
      refine r_bin rfl rfl rfl rfl rfl ?_
      refine r_pick_false rfl rfl rfl rfl (r_nil ?_)
      refine q_next (fun a ha => ?_)
      cases hb4
      exact ⟨rfl, ha.cut (l := [0, 1, 2, 3, 4, 6, 7, 13, 17, 58]) rfl⟩
   ·clear hm
    rcases cond_some hb3 with ⟨hb32, hb3⟩ | ⟨hb32, hb3⟩
    ·refine r_lit 48 rfl hb32 ?_
     refine r_off rfl (by decide) rfl (r_off rfl (by decide) rfl (r_off rfl (by decide) rfl (r_off rfl (by decide) rfl (r_pick_true rfl rfl rfl rfl (r_nil ?_)))))
     refine q_next (fun a ha => ?_)
     cases hb3
     exact ⟨rfl, ha.cut (l := [0, 1, 2, 3, 4, 6, 7, 13, 17, 53]) rfl⟩
    ·refine r_lit 48 rfl hb32 ?_
     refine r_fieldAddr fa42_0 rfl rfl rfl ?_
     refine r_loadB1 ag9 rfl rfl hx2 rfl (i := 0) rfl rfl ?_
     refine r_slen u9 rfl rfl rfl ?_
     refine r_bin rfl rfl rfl rfl rfl ?_
     refine r_pick_false rfl rfl rfl rfl (r_nil ?_)
     refine q_next (fun a ha => ?_)
     cases hb3
     exact ⟨rfl, ha.cut (l := [0, 1, 2, 3, 4, 6, 7, 13, 17, 53]) rfl⟩
  ·clear hm
   rcases cond_some hb2 with ⟨hb33, hb2⟩ | ⟨hb33, hb2⟩
   ·refine r_lit 43 rfl hb33 ?_
    refine r_off rfl (by decide) rfl (r_off rfl (by decide) rfl (r_off rfl (by decide) rfl (r_pick_true rfl rfl rfl rfl (r_nil ?_))))
    refine q_next (fun a ha => ?_)
    cases hb2
    exact ⟨rfl, ha.cut (l := [0, 1, 2, 3, 4, 6, 7, 13, 17, 47]) rfl⟩
   ·refine r_lit 43 rfl hb33 ?_
    refine r_move rfl rfl rfl ?_
    refine r_lenS hs2.len u23 rfl rfl rfl ?_
    refine r_bin rfl rfl rfl rfl rfl ?_
    refine r_pick_false rfl rfl rfl rfl (r_nil ?_)
    refine q_next (fun a ha => ?_)
    cases hb2
    exact ⟨rfl, ha.cut (l := [0, 1, 2, 3, 4, 6, 7, 13, 17, 47]) rfl⟩
 ·clear hm
  rcases cond_some hb1 with ⟨hb34, hb1⟩ | ⟨hb34, hb1⟩
  ·refine r_lit 38 rfl hb34 ?_
   refine r_off rfl (by decide) rfl (r_off rfl (by decide) rfl (r_off rfl (by decide) rfl (r_pick_true rfl rfl rfl rfl (r_nil ?_))))
   refine q_next (fun a ha => ?_)
   cases hb1
   exact ⟨rfl, ha.cut (l := [0, 1, 2, 3, 4, 6, 7, 13, 17, 42]) rfl⟩
  ·refine r_lit 38 rfl hb34 ?_
   refine r_move rfl rfl rfl ?_
   refine r_lenS hs1.len u22 rfl rfl rfl ?_
   refine r_bin rfl rfl rfl rfl rfl ?_
   refine r_pick_false rfl rfl rfl rfl (r_nil ?_)
   refine q_next (fun a ha => ?_)
   cases hb1
   exact ⟨rfl, ha.cut (l := [0, 1, 2, 3, 4, 6, 7, 13, 17, 42]) rfl⟩


end Go.Proofs.YtibkigpmkkkaeaaDoor.M
