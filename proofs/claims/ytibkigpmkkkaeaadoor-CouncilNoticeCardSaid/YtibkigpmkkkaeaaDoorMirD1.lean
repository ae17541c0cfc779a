/-
  THE MIRRORS of the council's functions, of the tariff's and the lexer's, of the references and the laws, and that each call returns what its mirror says. Printed by gen.py.
-/
import Derived.Test.YtibkigpmkkkaeaaDoorRows
import Derived.Test.YtibkigpmkkkaeaaDoorRtH
import Derived.Test.YtibkigpmkkkaeaaDoorExpr
import Derived.Test.YtibkigpmkkkaeaaDoorMirS
namespace Go.Proofs.YtibkigpmkkkaeaaDoor.M
open Go Go.RowKit Rt

theorem ent7 : Ent Tryd.prog 7 := fun _ _ => by kernel_rfl

theorem ent8 : Ent Tryd.prog 8 := fun _ _ => by kernel_rfl

theorem ent14 : Ent Tryd.prog 14 := fun _ _ => by kernel_rfl

theorem u4 : Tryd.prog.underlying 4 = some .bool := by kernel_rfl

def law40_CouncilNotice_L1 (n : Nat) (motions1 : (List Motion)) (votes1 : (List Vote)) (weights1 : (List Int)) (names1 : (List Bs)) (notice1 : Int) (day1 : Int) (v3 : ((List Version) × (List Int) × Int)) (kont1 : Int → Option Bool) : Nat → Int → Int → Option Bool
 | 0, _, _ => none
 | mx1 + 1, best1, i1 =>
  bif decide (i1 < (motions1.length : Int)) then
   (ix motions1 i1).bind fun ex2 =>
   (council_Check n ex2 names1 notice1).bind fun v15 =>
   (bif v15 == 0 then
    (council_Passes n weights1 votes1 i1).bind fun v19 =>
    some v19
   else
    some false).bind fun v16 =>
   (ix v3.2.1 i1).bind fun ex3 =>
   bif !(v16 == (ex3 == 0)) then
    some false
   else
    bif !v16 then
     law40_CouncilNotice_L1 n motions1 votes1 weights1 names1 notice1 day1 v3 kont1 mx1 best1 (iadd .i64 i1 1)
    else
     (ix motions1 i1).bind fun ex4 =>
     (ix motions1 i1).bind fun ex5 =>
     bif decide ((isub .i64 ex4.From ex5.Day) < notice1) then
      some false
     else
      (ix motions1 i1).bind fun ex6 =>
      (bif decide (ex6.From ≤ day1) then
       (bif decide (best1 < 0) then
        some true
       else
        (ix motions1 i1).bind fun ex7 =>
        (ix motions1 (imax best1 0)).bind fun ex8 =>
        some (decide (ex8.From ≤ ex7.From))).bind fun v18 =>
       some v18
      else
       some false).bind fun v17 =>
      bif v17 then
       law40_CouncilNotice_L1 n motions1 votes1 weights1 names1 notice1 day1 v3 kont1 mx1 i1 (iadd .i64 i1 1)
      else
       law40_CouncilNotice_L1 n motions1 votes1 weights1 names1 notice1 day1 v3 kont1 mx1 best1 (iadd .i64 i1 1)
  else
   kont1 best1

theorem law40_CouncilNotice_L1_s (n : Nat) (motions1 : (List Motion)) (votes1 : (List Vote)) (weights1 : (List Int)) (names1 : (List Bs)) (notice1 : Int) (day1 : Int) (v3 : ((List Version) × (List Int) × Int)) (kont1 : Int → Option Bool) (mx1 : Nat) (best1 : Int) (i1 : Int) : law40_CouncilNotice_L1 n motions1 votes1 weights1 names1 notice1 day1 v3 kont1 (mx1 + 1) best1 i1 =
  bif decide (i1 < (motions1.length : Int)) then
   (ix motions1 i1).bind fun ex2 =>
   (council_Check n ex2 names1 notice1).bind fun v15 =>
   (bif v15 == 0 then
    (council_Passes n weights1 votes1 i1).bind fun v19 =>
    some v19
   else
    some false).bind fun v16 =>
   (ix v3.2.1 i1).bind fun ex3 =>
   bif !(v16 == (ex3 == 0)) then
    some false
   else
    bif !v16 then
     law40_CouncilNotice_L1 n motions1 votes1 weights1 names1 notice1 day1 v3 kont1 mx1 best1 (iadd .i64 i1 1)
    else
     (ix motions1 i1).bind fun ex4 =>
     (ix motions1 i1).bind fun ex5 =>
     bif decide ((isub .i64 ex4.From ex5.Day) < notice1) then
      some false
     else
      (ix motions1 i1).bind fun ex6 =>
      (bif decide (ex6.From ≤ day1) then
       (bif decide (best1 < 0) then
        some true
       else
        (ix motions1 i1).bind fun ex7 =>
        (ix motions1 (imax best1 0)).bind fun ex8 =>
        some (decide (ex8.From ≤ ex7.From))).bind fun v18 =>
       some v18
      else
       some false).bind fun v17 =>
      bif v17 then
       law40_CouncilNotice_L1 n motions1 votes1 weights1 names1 notice1 day1 v3 kont1 mx1 i1 (iadd .i64 i1 1)
      else
       law40_CouncilNotice_L1 n motions1 votes1 weights1 names1 notice1 day1 v3 kont1 mx1 best1 (iadd .i64 i1 1)
  else
   kont1 best1 := rfl

def law40_CouncilNotice (n : Nat) (motions1 : (List Motion)) (votes1 : (List Vote)) (weights1 : (List Int)) (names1 : (List Bs)) (notice1 : Int) (day1 : Int) : Option Bool :=
 (law40_sane n).bind fun v1 =>
 (ref40_Few n motions1 votes1 weights1 names1).bind fun v2 =>
 bif !v2 then
  some v1
 else
  (council_Adopt n motions1 votes1 weights1 names1 notice1).bind fun v3 =>
  bif v3.2.2 != 0 then
   (bif v1 then
    some ((v3.1.length : Int) == 0)
   else
    some false).bind fun v4 =>
   (bif v4 then
    some ((v3.2.1.length : Int) == 0)
   else
    some false).bind fun v5 =>
   some v5
  else
   bif (v3.2.1.length : Int) != (motions1.length : Int) then
    some false
   else
    (council_InForce n v3.1 day1).bind fun v6 =>
    law40_CouncilNotice_L1 n motions1 votes1 weights1 names1 notice1 day1 v3 (fun (best2 : Int) =>
     bif decide (best2 < 0) then
      (bif v1 then
       some (!v6.2)
      else
       some false).bind fun v7 =>
      some v7
     else
      (ix motions1 best2).bind fun ex1 =>
      (tariff_Parse n ex1.Text).bind fun v8 =>
      (bif v1 then
       some v6.2
      else
       some false).bind fun v9 =>
      (bif v9 then
       some (v8.2.2 == 0)
      else
       some false).bind fun v10 =>
      (bif v10 then
       (ref35_SameTariff n v6.1 v8.1).bind fun v14 =>
       some v14
      else
       some false).bind fun v11 =>
      (bif v11 then
       (tariff_Check n v6.1 names1).bind fun v13 =>
       some (v13 == 0)
      else
       some false).bind fun v12 =>
      some v12) n (-1) 0

set_option maxHeartbeats 1000000 in
set_option maxRecDepth 1000000 in
theorem law40_CouncilNotice_ok (n : Nat) (motions1 : (List Motion)) (votes1 : (List Vote)) (weights1 : (List Int)) (names1 : (List Bs)) (notice1 : Int) (day1 : Int) (r : Bool) (hm : law40_CouncilNotice n motions1 votes1 weights1 names1 notice1 day1 = some r) {w : World} {F : Frz} (hs : Sat F w) {as1 : Option Addr} {ns1 : Nat} {cs1 : Nat} {as2 : Option Addr} {ns2 : Nat} {cs2 : Nat} {as3 : Option Addr} {ns3 : Nat} {cs3 : Nat} {as4 : Option Addr} {ns4 : Nat} {cs4 : Nat} (hs1 : SlR rp_Motion F as1 ns1 cs1 motions1) (hs2 : SlR rp_Vote F as2 ns2 cs2 votes1) (hs3 : SlR (Rp.int .i64) F as3 ns3 cs3 weights1) (hs4 : SlR Rp.str F as4 ns4 cs4 names1) (hg0 : FX F 0 [.int .u8 40, .int .u8 41, .int .u8 44, .int .u8 59, .int .u8 58, .int .u8 61, .int .u8 60, .int .u8 43, .int .u8 45, .int .u8 42, .int .u8 47, .int .u8 123, .int .u8 125]) :
  Calls Tryd.prog 3 #[.slice as1 ns1 cs1, .slice as2 ns2 cs2, .slice as3 ns3 cs3, .slice as4 ns4 cs4, .int .i64 notice1, .int .i64 day1] w fun e w' => ∃ v F' O', e = .returned v ∧ HS F w [] F' O' w' ∧ (v = .bool r ∧ O' = []) := by
 unfold law40_CouncilNotice at hm
 have h := HS.init hs
 refine calls_of 171 Tryd.func3 rfl rfl rfl ?_
 refine c_seq (c_region (r_assign rfl rfl rfl (r_nil (q_then (c_seq (c_region ?_))))))
 obtain ⟨v1, hv1, hm⟩ := bind_some hm
 refine r_callG0 ent7 rfl rfl rfl rfl h (law40_sane_ok _ _ hv1 h.sat hg0) ?_
 rintro _ Fx1 _ wx1 hF1 hx1 ⟨rfl, rfl⟩
 refine r_assign rfl rfl rfl (r_nil (q_then (c_seq (c_seq (c_region (r_move rfl rfl rfl (r_move rfl rfl rfl (r_move rfl rfl rfl (r_move rfl rfl rfl ?_)))))))))
 obtain ⟨v2, hv2, hm⟩ := bind_some hm
 refine r_callP0 ent8 rfl rfl rfl rfl (ref40_Few_ok _ _ _ _ _ _ hv2 hx1.sat (hs1.mono hF1) (hs2.mono hF1) (hs3.mono hF1) (hs4.mono hF1)) ?_
 refine r_not rfl rfl rfl (r_nil (q_then ?_))
 rcases cond_some hm with ⟨hb1, hm⟩ | ⟨hb1, hm⟩
 ·refine c_lit 31 rfl hb1 ?_
  refine c_true rfl (c_seq (c_region (r_move rfl rfl rfl (r_assign rfl rfl rfl (r_nil (q_then (c_ret (q_then_ret ?_))))))))
  refine b_ret1 rfl rfl ?_
  obtain rfl := Option.some.inj hm
  exact ⟨_, _, _, rfl, hx1.pick [] (by decide) rfl, rfl, rfl⟩
 ·refine c_lit 31 rfl hb1 ?_
  refine c_false rfl (c_skip (q_then (c_seq (c_region (r_move rfl rfl rfl (r_move rfl rfl rfl (r_move rfl rfl rfl (r_move rfl rfl rfl (r_move rfl rfl rfl ?_)))))))))
  obtain ⟨v3, hv3, hm⟩ := bind_some hm
  refine r_callG0 ent9 rfl rfl rfl rfl hx1 (council_Adopt_ok _ _ _ _ _ _ _ hv3 hx1.sat (hs1.mono hF1) (hs2.mono hF1) (hs3.mono hF1) (hs4.mono hF1) (hg0.mono hF1)) ?_
  rintro _ Fx2 _ wx2 hF2 hx2 ⟨as5, ns5, cs5, as6, ns6, cs6, rfl, rfl, hs5, hs6⟩
  refine r_move rfl rfl rfl (r_extract rfl rfl rfl rfl (r_extract rfl rfl rfl rfl (r_extract rfl rfl rfl rfl (r_assign rfl rfl rfl (r_assign rfl rfl rfl (r_assign rfl rfl rfl (r_nil (q_then (c_seq (c_seq (c_region (r_move rfl rfl rfl ?_))))))))))))
  refine r_bin rfl rfl rfl rfl rfl ?_
  refine r_nil (q_then ?_)
  rcases cond_some hm with ⟨hb2, hm⟩ | ⟨hb2, hm⟩
  ·refine c_lit 44 rfl hb2 ?_
   refine c_true rfl (c_seq (c_region (r_move rfl rfl rfl (r_move rfl rfl rfl ?_))))
   obtain ⟨v4, hb3, hm⟩ := bind_some hm
   refine r_mid 4 (fun a w' => wx2 = w' ∧ Has 171 a [(15, .slice as6 ns6 cs6), (50, .bool v4)]) ?_ ?_
   ·rintro a wx3 ⟨rfl, hax1⟩
    refine rw_apply hax1 ?_
    refine r_move rfl rfl rfl ?_
    obtain ⟨v5, hb4, hm⟩ := bind_some hm
    refine r_mid 4 (fun a w' => wx2 = w' ∧ Has 171 a [(55, .bool v5)]) ?_ ?_
    ·rintro a wx4 ⟨rfl, hax2⟩
     refine rw_apply hax2 ?_
     refine r_assign rfl rfl rfl (r_nil (q_then (c_ret (q_then_ret ?_))))
     refine b_ret1 rfl rfl ?_
     obtain rfl := Option.some.inj hm
     exact ⟨_, _, _, rfl, hx2.pick [] (by decide) rfl, rfl, rfl⟩
    ·clear hm
     rcases cond_some hb4 with ⟨hb5, hb4⟩ | ⟨hb5, hb4⟩
     ·refine r_lit 51 rfl hb5 ?_
      refine r_move rfl rfl rfl ?_
      refine r_lenS hs6.len u29 rfl rfl rfl ?_
      refine r_bin rfl rfl rfl rfl rfl ?_
      refine r_pick_true rfl rfl rfl rfl (r_nil ?_)
      refine q_next (fun a ha => ?_)
      cases hb4
      exact ⟨rfl, ha.cut (l := [55]) rfl⟩
     ·refine r_lit 51 rfl hb5 ?_
      refine r_off rfl (by decide) rfl (r_off rfl (by decide) rfl (r_off rfl (by decide) rfl (r_pick_false rfl rfl rfl rfl (r_nil ?_))))
      refine q_next (fun a ha => ?_)
      cases hb4
      exact ⟨rfl, ha.cut (l := [55]) rfl⟩
   ·clear hm
    rcases cond_some hb3 with ⟨hb6, hb3⟩ | ⟨hb6, hb3⟩
    ·refine r_lit 46 rfl hb6 ?_
     refine r_move rfl rfl rfl ?_
     refine r_lenS hs5.len u28 rfl rfl rfl ?_
     refine r_bin rfl rfl rfl rfl rfl ?_
     refine r_pick_true rfl rfl rfl rfl (r_nil ?_)
     refine q_next (fun a ha => ?_)
     cases hb3
     exact ⟨rfl, ha.cut (l := [15, 50]) rfl⟩
    ·refine r_lit 46 rfl hb6 ?_
     refine r_off rfl (by decide) rfl (r_off rfl (by decide) rfl (r_off rfl (by decide) rfl (r_pick_false rfl rfl rfl rfl (r_nil ?_))))
     refine q_next (fun a ha => ?_)
     cases hb3
     exact ⟨rfl, ha.cut (l := [15, 50]) rfl⟩
  ·refine c_lit 44 rfl hb2 ?_
   refine c_false rfl (c_skip (q_then (c_seq (c_seq (c_region (r_move rfl rfl rfl ?_))))))
   refine r_lenS hs6.len u29 rfl rfl rfl ?_
   refine r_move rfl rfl rfl ?_
   refine r_lenS hs1.len u22 rfl rfl rfl ?_
   refine r_bin rfl rfl rfl rfl rfl ?_
   refine r_nil (q_then ?_)
   rcases cond_some hm with ⟨hb7, hm⟩ | ⟨hb7, hm⟩
   ·refine c_lit 60 rfl hb7 ?_
    refine c_true rfl (c_seq (c_region (r_assign rfl rfl rfl (r_nil (q_then (c_ret (q_then_ret ?_)))))))
    refine b_ret1 rfl rfl ?_
    obtain rfl := Option.some.inj hm
    exact ⟨_, _, _, rfl, hx2.pick [] (by decide) rfl, rfl, rfl⟩
   ·refine c_lit 60 rfl hb7 ?_
    refine c_false rfl (c_skip (q_then (c_seq (c_region (r_move rfl rfl rfl (r_move rfl rfl rfl ?_))))))
    obtain ⟨v6, hv4, hm⟩ := bind_some hm
    refine r_callG0 ent10 rfl rfl rfl rfl hx2 (council_InForce_ok _ _ _ _ hv4 hx2.sat hs5) ?_
    rintro _ Fx3 _ wx5 hF3 hx3 ⟨as7, ns7, cs7, rfl, rfl, hs7⟩
    refine r_move rfl rfl rfl (r_extract rfl rfl rfl rfl (r_extract rfl rfl rfl rfl ?_))
    refine r_alloc ze37 rfl rfl rfl hx3 ?_
    intro b1 wx6 hx4
    refine r_store sz37 rfl hx4 rfl rfl rfl rfl (i := 0) rfl rfl rfl rfl ?_
    intro wx7 hx5
    refine r_assign rfl rfl rfl (r_nil (q_then (c_seq (c_region (r_assign rfl rfl rfl (r_nil (q_then (c_seq (c_seq (c_region (r_assign rfl rfl rfl (r_nil (q_then (c_block ?_))))))))))))))
    intro a hax13
    obtain ⟨kont1, hkont1⟩ : ∃ kont1 : Int → Option Bool, kont1 = (fun (best2 : Int) =>
       bif decide (best2 < 0) then
        (bif v1 then
         some (!v6.2)
        else
         some false).bind fun v7 =>
        some v7
       else
        (ix motions1 best2).bind fun ex1 =>
        (tariff_Parse n ex1.Text).bind fun v8 =>
        (bif v1 then
         some v6.2
        else
         some false).bind fun v9 =>
        (bif v9 then
         some (v8.2.2 == 0)
        else
         some false).bind fun v10 =>
        (bif v10 then
         (ref35_SameTariff n v6.1 v8.1).bind fun v14 =>
         some v14
        else
         some false).bind fun v11 =>
        (bif v11 then
         (tariff_Check n v6.1 names1).bind fun v13 =>
         some (v13 == 0)
        else
         some false).bind fun v12 =>
        some v12) := ⟨_, rfl⟩
    replace hm : (fun m (s : Int × Int) => law40_CouncilNotice_L1 n motions1 votes1 weights1 names1 notice1 day1 v3 kont1 m s.1 s.2) n ((-1), 0) = some r := by rw [hkont1]; exact hm
    refine loopX (id := 0) (fun m (s : Int × Int) => law40_CouncilNotice_L1 n motions1 votes1 weights1 names1 notice1 day1 v3 kont1 m s.1 s.2) (fun (y : Int) => kont1 y) r (fun (s : Int × Int) a w' => ∃ (Fx4 : Frz), Frz.le Fx3 Fx4 ∧ HS F w [] Fx4 [.box b1 37 [vs v6.1.Name, .int .i64 v6.1.Fee.Op, .int .i64 v6.1.Fee.N, vs v6.1.Fee.Name, .slice as7 ns7 cs7, .int .i64 v6.1.Cap]] w' ∧ Has 171 a [(0, .slice as1 ns1 cs1), (1, .slice as2 ns2 cs2), (2, .slice as3 ns3 cs3), (3, .slice as4 ns4 cs4), (4, .int .i64 notice1), (5, .int .i64 day1), (13, .bool v1), (15, .slice as6 ns6 cs6), (17, .pointer (some ⟨b1, 0, none⟩)), (18, .bool v6.2), (19, .int .i64 s.1), (20, .int .i64 s.2)]) (fun (y : Int) a w' => ∃ (Fx5 : Frz), Frz.le Fx3 Fx5 ∧ HS F w [] Fx5 [.box b1 37 [vs v6.1.Name, .int .i64 v6.1.Fee.Op, .int .i64 v6.1.Fee.N, vs v6.1.Fee.Name, .slice as7 ns7 cs7, .int .i64 v6.1.Cap]] w' ∧ Has 171 a [(0, .slice as1 ns1 cs1), (3, .slice as4 ns4 cs4), (13, .bool v1), (17, .pointer (some ⟨b1, 0, none⟩)), (18, .bool v6.2), (19, .int .i64 y)]) (fun _ => rfl) ?_ ?_ hm ⟨_, Frz.refl _, hx5.pick [0] (by decide) rfl, hax13.cut (l := [0, 1, 2, 3, 4, 5, 13, 15, 17, 18, 19, 20]) rfl⟩
    ·clear hm; rintro best2 a wx8 hm ⟨Fx5, hF5, hx7, hax3⟩
     rw [hkont1] at hm
     replace hm := hm
     refine qw_apply (e := .exit 0) hax3 ?_
     refine q_block_hit (q_then (c_seq (c_seq (c_region (r_move rfl rfl rfl ?_)))))
     refine r_bin rfl rfl rfl rfl rfl ?_
     refine r_nil (q_then ?_)
     rcases cond_some hm with ⟨hb8, hm⟩ | ⟨hb8, hm⟩
     ·refine c_lit 136 rfl hb8 ?_
      refine c_true rfl (c_seq (c_region (r_move rfl rfl rfl (r_move rfl rfl rfl ?_))))
      obtain ⟨v7, hb9, hm⟩ := bind_some hm
      refine r_mid 3 (fun a w' => wx8 = w' ∧ Has 171 a [(141, .bool v7)]) ?_ ?_
      ·rintro a wx9 ⟨rfl, hax4⟩
       refine rw_apply hax4 ?_
       refine r_assign rfl rfl rfl (r_nil (q_then (c_ret (q_then_ret ?_))))
       refine b_ret1 rfl rfl ?_
       obtain rfl := Option.some.inj hm
       exact ⟨_, _, _, rfl, hx7.pick [] (by decide) rfl, rfl, rfl⟩
      ·clear hm
       rcases cond_some hb9 with ⟨hb10, hb9⟩ | ⟨hb10, hb9⟩
       ·refine r_lit 138 rfl hb10 ?_
        refine r_move rfl rfl rfl (r_not rfl rfl rfl (r_pick_true rfl rfl rfl rfl (r_nil ?_)))
        refine q_next (fun a ha => ?_)
        cases hb9
        exact ⟨rfl, ha.cut (l := [141]) rfl⟩
       ·refine r_lit 138 rfl hb10 ?_
        refine r_off rfl (by decide) rfl (r_off rfl (by decide) rfl (r_pick_false rfl rfl rfl rfl (r_nil ?_)))
        refine q_next (fun a ha => ?_)
        cases hb9
        exact ⟨rfl, ha.cut (l := [141]) rfl⟩
     ·refine c_lit 136 rfl hb8 ?_
      refine c_false rfl (c_skip (q_then (c_seq (c_region (r_move rfl rfl rfl (r_move rfl rfl rfl ?_))))))
      obtain ⟨ex1, he1, hm⟩ := bind_some hm
      refine r_findex (r := rp_Motion) u22 sz42 rfl rfl rfl rfl ((((hs1.mono hF1).mono hF2).mono hF3).mono hF5) he1 ?_
      intro b2 o1 cs1 hf1 hr1
      have hc1 : cs1 = [vs ex1.Text, .int .i64 ex1.Day, .int .i64 ex1.From] := hr1
      subst hc1
      refine r_fieldAddr fa42_0 rfl rfl rfl ?_
      refine r_loadF1 (j := 0) ag9 rfl rfl hx7 hf1 rfl rfl ?_
      have hG1 := ((hF1.trans hF2).trans hF3).trans hF5
      obtain ⟨v8, hv5, hm⟩ := bind_some hm
      refine r_callG0 ent13 rfl rfl rfl rfl hx7 (tariff_Parse_ok _ _ _ hv5 hx7.sat (hg0.mono hG1)) ?_
      rintro _ Fx6 _ wx10 hF6 hx8 ⟨as8, ns8, cs8, rfl, rfl, hs8⟩
      refine r_move rfl rfl rfl (r_extract rfl rfl rfl rfl (r_extract rfl rfl rfl rfl (r_extract rfl rfl rfl rfl ?_)))
      refine r_alloc ze37 rfl rfl rfl hx8 ?_
      intro b3 wx11 hx9
      refine r_store sz37 rfl hx9 rfl rfl rfl rfl (i := 0) rfl rfl rfl rfl ?_
      intro wx12 hx10
      refine r_assign rfl rfl rfl (r_assign rfl rfl rfl (r_nil (q_then (c_seq (c_region (r_move rfl rfl rfl (r_move rfl rfl rfl ?_)))))))
      obtain ⟨v9, hb11, hm⟩ := bind_some hm
      refine r_mid 2 (fun a w' => wx12 = w' ∧ Has 171 a [(3, .slice as4 ns4 cs4), (17, .pointer (some ⟨b1, 0, none⟩)), (22, .pointer (some ⟨b3, 0, none⟩)), (24, .int .i64 v8.2.2), (155, .bool v9)]) ?_ ?_
      ·rintro a wx13 ⟨rfl, hax5⟩
       refine rw_apply hax5 ?_
       refine r_move rfl rfl rfl ?_
       obtain ⟨v10, hb12, hm⟩ := bind_some hm
       refine r_mid 3 (fun a w' => wx12 = w' ∧ Has 171 a [(3, .slice as4 ns4 cs4), (17, .pointer (some ⟨b1, 0, none⟩)), (22, .pointer (some ⟨b3, 0, none⟩)), (159, .bool v10)]) ?_ ?_
       ·rintro a wx14 ⟨rfl, hax6⟩
        refine rw_apply hax6 ?_
        refine r_move rfl rfl rfl ?_
        obtain ⟨v11, hb13, hm⟩ := bind_some hm
        refine r_mid 4 (fun a w' => ∃ (Fx7 : Frz), Frz.le Fx6 Fx7 ∧ HS F w [] Fx7 [.box b3 37 [vs v8.1.Name, .int .i64 v8.1.Fee.Op, .int .i64 v8.1.Fee.N, vs v8.1.Fee.Name, .slice as8 ns8 cs8, .int .i64 v8.1.Cap], .box b1 37 [vs v6.1.Name, .int .i64 v6.1.Fee.Op, .int .i64 v6.1.Fee.N, vs v6.1.Fee.Name, .slice as7 ns7 cs7, .int .i64 v6.1.Cap]] w' ∧ Has 171 a [(3, .slice as4 ns4 cs4), (17, .pointer (some ⟨b1, 0, none⟩)), (164, .bool v11)]) ?_ ?_
        ·rintro a wx15 ⟨Fx7, hF7, hx11, hax7⟩
         refine rw_apply hax7 ?_
         refine r_move rfl rfl rfl ?_
         obtain ⟨v12, hb14, hm⟩ := bind_some hm
         refine r_mid 5 (fun a w' => ∃ (Fx8 : Frz), Frz.le Fx7 Fx8 ∧ HS F w [] Fx8 [.box b3 37 [vs v8.1.Name, .int .i64 v8.1.Fee.Op, .int .i64 v8.1.Fee.N, vs v8.1.Fee.Name, .slice as8 ns8 cs8, .int .i64 v8.1.Cap], .box b1 37 [vs v6.1.Name, .int .i64 v6.1.Fee.Op, .int .i64 v6.1.Fee.N, vs v6.1.Fee.Name, .slice as7 ns7 cs7, .int .i64 v6.1.Cap]] w' ∧ Has 171 a [(170, .bool v12)]) ?_ ?_
         ·rintro a wx16 ⟨Fx8, hF8, hx12, hax8⟩
          refine rw_apply hax8 ?_
          refine r_assign rfl rfl rfl (r_nil (q_then (c_ret ?_)))
          refine b_ret1 rfl rfl ?_
          obtain rfl := Option.some.inj hm
          exact ⟨_, _, _, rfl, hx12.pick [] (by decide) rfl, rfl, rfl⟩
         ·clear hm
          rcases cond_some hb14 with ⟨hb15, hb14⟩ | ⟨hb15, hb14⟩
          ·refine r_lit 165 rfl hb15 ?_
           refine r_loadBW ag37 sz37 rfl rfl hx11 rfl (i := 1) rfl rfl ?_
           refine r_move rfl rfl rfl ?_
           obtain ⟨v13, hv6, hb14⟩ := bind_some hb14
           refine r_callG0 ent15 rfl rfl rfl rfl hx11 (tariff_Check_ok _ _ _ _ hv6 hx11.sat (((hs7.mono hF5).mono hF6).mono hF7) (((hs4.mono hG1).mono hF6).mono hF7)) ?_
           rintro _ Fx9 _ wx17 hF9 hx13 ⟨rfl, rfl⟩
           refine r_bin rfl rfl rfl rfl rfl ?_
           refine r_pick_true rfl rfl rfl rfl (r_nil ?_)
           refine q_next (fun a ha => ?_)
           cases hb14
           exact ⟨_, hF9, hx13.pick [0, 1] (by decide) rfl, ha.cut (l := [170]) rfl⟩
          ·refine r_lit 165 rfl hb15 ?_
           refine r_off rfl (by decide) rfl (r_off rfl (by decide) rfl (r_off rfl (by decide) rfl (r_off rfl (by decide) rfl (r_pick_false rfl rfl rfl rfl (r_nil ?_)))))
           refine q_next (fun a ha => ?_)
           cases hb14
           exact ⟨_, Frz.refl _, hx11.pick [0, 1] (by decide) rfl, ha.cut (l := [170]) rfl⟩
        ·clear hm
         rcases cond_some hb13 with ⟨hb16, hb13⟩ | ⟨hb16, hb13⟩
         ·refine r_lit 160 rfl hb16 ?_
          refine r_loadBW ag37 sz37 rfl rfl hx10 rfl (i := 1) rfl rfl ?_
          refine r_loadBW ag37 sz37 rfl rfl hx10 rfl (i := 0) rfl rfl ?_
          obtain ⟨v14, hv7, hb13⟩ := bind_some hb13
          refine r_callG0 ent14 rfl rfl rfl rfl hx10 (ref35_SameTariff_ok _ _ _ _ hv7 hx10.sat ((hs7.mono hF5).mono hF6) hs8) ?_
          rintro _ Fx10 _ wx18 hF10 hx14 ⟨rfl, rfl⟩
          refine r_pick_true rfl rfl rfl rfl (r_nil ?_)
          refine q_next (fun a ha => ?_)
          cases hb13
          exact ⟨_, hF10, hx14.pick [0, 1] (by decide) rfl, ha.cut (l := [3, 17, 164]) rfl⟩
         ·refine r_lit 160 rfl hb16 ?_
          refine r_off rfl (by decide) rfl (r_off rfl (by decide) rfl (r_off rfl (by decide) rfl (r_pick_false rfl rfl rfl rfl (r_nil ?_))))
          refine q_next (fun a ha => ?_)
          cases hb13
          exact ⟨_, Frz.refl _, hx10.pick [0, 1] (by decide) rfl, ha.cut (l := [3, 17, 164]) rfl⟩
       ·clear hm
        rcases cond_some hb12 with ⟨hb17, hb12⟩ | ⟨hb17, hb12⟩
        ·refine r_lit 156 rfl hb17 ?_
         refine r_move rfl rfl rfl ?_
         refine r_bin rfl rfl rfl rfl rfl ?_
         refine r_pick_true rfl rfl rfl rfl (r_nil ?_)
         refine q_next (fun a ha => ?_)
         cases hb12
         exact ⟨rfl, ha.cut (l := [3, 17, 22, 159]) rfl⟩
        ·refine r_lit 156 rfl hb17 ?_
         refine r_off rfl (by decide) rfl (r_off rfl (by decide) rfl (r_pick_false rfl rfl rfl rfl (r_nil ?_)))
         refine q_next (fun a ha => ?_)
         cases hb12
         exact ⟨rfl, ha.cut (l := [3, 17, 22, 159]) rfl⟩
      ·clear hm
       rcases cond_some hb11 with ⟨hb18, hb11⟩ | ⟨hb18, hb11⟩
       ·refine r_lit 153 rfl hb18 ?_
        refine r_move rfl rfl rfl (r_pick_true rfl rfl rfl rfl (r_nil ?_))
        refine q_next (fun a ha => ?_)
        cases hb11
        exact ⟨rfl, ha.cut (l := [3, 17, 22, 24, 155]) rfl⟩
       ·refine r_lit 153 rfl hb18 ?_
        refine r_off rfl (by decide) rfl (r_pick_false rfl rfl rfl rfl (r_nil ?_))
        refine q_next (fun a ha => ?_)
        cases hb11
        exact ⟨rfl, ha.cut (l := [3, 17, 22, 24, 155]) rfl⟩
    ·clear hm hkont1; intro hk1 mx1 K ihx1
     rintro ⟨best1, i1⟩ a wx19 hm ⟨Fx4, hF4, hx6, hax9⟩
     simp only [law40_CouncilNotice_L1_s] at hm
     refine cw_apply hax9 ?_
     refine c_seq (c_seq (c_region (r_move rfl rfl rfl (r_move rfl rfl rfl ?_))))
     refine r_lenS hs1.len u22 rfl rfl rfl ?_
     refine r_bin rfl rfl rfl rfl rfl ?_
     refine r_nil (q_then ?_)
     rcases cond_some hm with ⟨hb19, hm⟩ | ⟨hb19, hm⟩
     ·refine c_lit 70 rfl hb19 ?_
      refine c_true rfl (c_skip (q_then (c_seq (c_block (c_seq (c_region (r_move rfl rfl rfl (r_move rfl rfl rfl ?_))))))))
      obtain ⟨ex2, he2, hm⟩ := bind_some hm
      refine r_findex (r := rp_Motion) u22 sz42 rfl rfl rfl rfl ((((hs1.mono hF1).mono hF2).mono hF3).mono hF4) he2 ?_
      intro b4 o2 cs2 hf2 hr2
      have hc2 : cs2 = [vs ex2.Text, .int .i64 ex2.Day, .int .i64 ex2.From] := hr2
      subst hc2
      refine r_loadFW ag42 sz42 rfl rfl hx6 hf2 rfl rfl ?_
      refine r_move rfl rfl rfl (r_move rfl rfl rfl ?_)
      have hG2 := ((hF1.trans hF2).trans hF3).trans hF4
      obtain ⟨v15, hv8, hm⟩ := bind_some hm
      refine r_callG0 ent11 rfl rfl rfl rfl hx6 (council_Check_ok _ _ _ _ _ hv8 hx6.sat (hs4.mono hG2) (hg0.mono hG2)) ?_
      rintro _ Fx11 _ wx20 hF11 hx15 ⟨rfl, rfl⟩
      refine r_bin rfl rfl rfl rfl rfl ?_
      refine r_move rfl rfl rfl ?_
      obtain ⟨v16, hb20, hm⟩ := bind_some hm
      refine r_mid 5 (fun a w' => ∃ (Fx12 : Frz), Frz.le Fx11 Fx12 ∧ HS F w [] Fx12 [.box b1 37 [vs v6.1.Name, .int .i64 v6.1.Fee.Op, .int .i64 v6.1.Fee.N, vs v6.1.Fee.Name, .slice as7 ns7 cs7, .int .i64 v6.1.Cap]] w' ∧ Has 171 a [(0, .slice as1 ns1 cs1), (1, .slice as2 ns2 cs2), (2, .slice as3 ns3 cs3), (3, .slice as4 ns4 cs4), (4, .int .i64 notice1), (5, .int .i64 day1), (13, .bool v1), (15, .slice as6 ns6 cs6), (17, .pointer (some ⟨b1, 0, none⟩)), (18, .bool v6.2), (19, .int .i64 best1), (20, .int .i64 i1), (86, .bool v16)]) ?_ ?_
      ·rintro a wx21 ⟨Fx12, hF12, hx16, hax10⟩
       refine rw_apply hax10 ?_
       refine r_assign rfl rfl rfl (r_nil (q_then (c_seq (c_seq (c_region (r_move rfl rfl rfl (r_move rfl rfl rfl (r_move rfl rfl rfl ?_))))))))
       obtain ⟨ex3, he3, hm⟩ := bind_some hm
       refine r_findex (r := (Rp.int .i64)) u29 sz30 rfl rfl rfl rfl ((((hs6.mono hF3).mono hF4).mono hF11).mono hF12) he3 ?_
       intro b5 o3 cs3 hf3 hr3
       have hc3 : cs3 = [.int .i64 ex3] := hr3
       subst hc3
       refine r_loadF1 (j := 0) ag30 rfl rfl hx16 hf3 rfl rfl ?_
       refine r_bin rfl rfl rfl rfl rfl ?_
       refine r_bne u4 rfl rfl rfl rfl ?_
       refine r_nil (q_then ?_)
       rcases cond_some hm with ⟨hb21, hm⟩ | ⟨hb21, hm⟩
       ·refine c_lit 93 rfl hb21 ?_
        refine c_true rfl (c_seq (c_region (r_assign rfl rfl rfl (r_nil (q_then (c_ret (q_then_ret (q_block_ret (q_then_ret (q_then_ret (q_block_ret (q_then_ret ?_))))))))))))
        refine b_ret1 rfl rfl ?_
        obtain rfl := Option.some.inj hm
        exact ⟨_, _, _, rfl, hx16.pick [] (by decide) rfl, rfl, rfl⟩
       ·refine c_lit 93 rfl hb21 ?_
        refine c_false rfl (c_skip (q_then (c_seq (c_seq (c_region (r_move rfl rfl rfl (r_not rfl rfl rfl (r_nil (q_then ?_)))))))))
        rcases cond_some hm with ⟨hb22, hm⟩ | ⟨hb22, hm⟩
        ·refine c_lit 95 rfl hb22 ?_
         refine c_true rfl (c_exit (q_then_exit (q_block_hit (q_then (c_region (r_move rfl rfl rfl ?_))))))
         refine r_bin rfl rfl rfl rfl rfl ?_
         refine r_assign rfl rfl rfl (r_nil ?_)
         refine q_next (fun a ha => ihx1 (best1, (iadd .i64 i1 1)) a _ hm ?_)
         exact ⟨_, ((hF4.trans hF11).trans hF12), hx16.pick [0] (by decide) rfl, ha.cut (l := [0, 1, 2, 3, 4, 5, 13, 15, 17, 18, 19, 20]) rfl⟩
        ·refine c_lit 95 rfl hb22 ?_
         refine c_false rfl (c_skip (q_then (c_seq (c_seq ?_))))
         refine c_regionD (by kernel_rfl) (by kernel_rfl) hx16 ?_
         refine q_stp rfl rfl rfl rfl (fun _ _ _ _ => r_move rfl rfl rfl (r_nil (qq rfl))) ?_
         refine q_stp rfl rfl rfl rfl (fun _ _ _ _ => r_move rfl rfl rfl (r_nil (qq rfl))) ?_
         obtain ⟨ex4, he4, hm⟩ := bind_some hm
         obtain ⟨b6, o4, cs4, hf4, hr4, hrun1⟩ := findex_ex (P := Tryd.prog) (r := rp_Motion) u22 sz42 (((hs1.mono hG2).mono hF11).mono hF12) he4
         have hc4 : cs4 = [vs ex4.Text, .int .i64 ex4.Day, .int .i64 ex4.From] := hr4
         subst hc4
         refine q_findex rfl rfl rfl rfl hrun1 ?_
         refine q_stp rfl rfl rfl rfl (fun _ _ _ _ => r_fieldAddr fa42_2 rfl rfl rfl (r_nil (qq rfl))) ?_
         refine q_stp rfl rfl rfl rfl (fun _ _ hleq hq => r_loadF1 (j := 2) ag3 rfl rfl hq (hf4.mono hleq) rfl rfl (r_nil (qq rfl))) ?_
         refine q_stp rfl rfl rfl rfl (fun _ _ _ _ => r_move rfl rfl rfl (r_nil (qq rfl))) ?_
         refine q_stp rfl rfl rfl rfl (fun _ _ _ _ => r_move rfl rfl rfl (r_nil (qq rfl))) ?_
         obtain ⟨ex5, he5, hm⟩ := bind_some hm
         obtain ⟨b7, o5, cs5, hf5, hr5, hrun2⟩ := findex_ex (P := Tryd.prog) (r := rp_Motion) u22 sz42 (((hs1.mono hG2).mono hF11).mono hF12) he5
         have hc5 : cs5 = [vs ex5.Text, .int .i64 ex5.Day, .int .i64 ex5.From] := hr5
         subst hc5
         refine q_findex rfl rfl rfl rfl hrun2 ?_
         refine q_stp rfl rfl rfl rfl (fun _ _ _ _ => r_fieldAddr fa42_1 rfl rfl rfl (r_nil (qq rfl))) ?_
         refine q_stp rfl rfl rfl rfl (fun _ _ hleq hq => r_loadF1 (j := 1) ag3 rfl rfl hq (hf5.mono hleq) rfl rfl (r_nil (qq rfl))) ?_
         refine q_stp rfl rfl rfl rfl (fun _ _ _ _ => r_bin rfl rfl rfl rfl rfl (r_nil (qq rfl))) ?_
         refine q_stp rfl rfl rfl rfl (fun _ _ _ _ => r_move rfl rfl rfl (r_nil (qq rfl))) ?_
         refine q_stp rfl rfl rfl rfl (fun _ _ _ _ => r_bin rfl rfl rfl rfl rfl (r_nil (qq rfl))) ?_
         refine q_end ?_
         rintro wx22 ⟨Fx13, hF13, hx17⟩
         refine q_then ?_
         rcases cond_some hm with ⟨hb23, hm⟩ | ⟨hb23, hm⟩
         ·refine c_lit 108 rfl hb23 ?_
          refine c_true rfl (c_seq (c_region (r_assign rfl rfl rfl (r_nil (q_then (c_ret (q_then_ret (q_block_ret (q_then_ret (q_then_ret (q_block_ret (q_then_ret ?_))))))))))))
          refine b_ret1 rfl rfl ?_
          obtain rfl := Option.some.inj hm
          exact ⟨_, _, _, rfl, hx17.pick [] (by decide) rfl, rfl, rfl⟩
         ·refine c_lit 108 rfl hb23 ?_
          refine c_false rfl (c_skip (q_then (c_seq ?_)))
          refine c_regionD (by kernel_rfl) (by kernel_rfl) hx17 ?_
          refine q_stp rfl rfl rfl rfl (fun _ _ _ _ => r_move rfl rfl rfl (r_nil (qq rfl))) ?_
          refine q_stp rfl rfl rfl rfl (fun _ _ _ _ => r_move rfl rfl rfl (r_nil (qq rfl))) ?_
          obtain ⟨ex6, he6, hm⟩ := bind_some hm
          obtain ⟨b8, o6, cs6, hf6, hr6, hrun3⟩ := findex_ex (P := Tryd.prog) (r := rp_Motion) u22 sz42 ((((hs1.mono hG2).mono hF11).mono hF12).mono hF13) he6
          have hc6 : cs6 = [vs ex6.Text, .int .i64 ex6.Day, .int .i64 ex6.From] := hr6
          subst hc6
          refine q_findex rfl rfl rfl rfl hrun3 ?_
          refine q_stp rfl rfl rfl rfl (fun _ _ _ _ => r_fieldAddr fa42_2 rfl rfl rfl (r_nil (qq rfl))) ?_
          refine q_stp rfl rfl rfl rfl (fun _ _ hleq hq => r_loadF1 (j := 2) ag3 rfl rfl hq (hf6.mono hleq) rfl rfl (r_nil (qq rfl))) ?_
          refine q_stp rfl rfl rfl rfl (fun _ _ _ _ => r_move rfl rfl rfl (r_nil (qq rfl))) ?_
          refine q_stp rfl rfl rfl rfl (fun _ _ _ _ => r_bin rfl rfl rfl rfl rfl (r_nil (qq rfl))) ?_
          refine q_stp rfl rfl rfl rfl (fun _ _ _ _ => r_move rfl rfl rfl (r_nil (qq rfl))) ?_
          obtain ⟨v17, hb24, hm⟩ := bind_some hm
          refine q_mid 17 (fun a => Has 171 a [(0, .slice as1 ns1 cs1), (1, .slice as2 ns2 cs2), (2, .slice as3 ns3 cs3), (3, .slice as4 ns4 cs4), (4, .int .i64 notice1), (5, .int .i64 day1), (13, .bool v1), (15, .slice as6 ns6 cs6), (17, .pointer (some ⟨b1, 0, none⟩)), (18, .bool v6.2), (19, .int .i64 best1), (20, .int .i64 i1), (133, .bool v17)]) ?_ ?_
          ·intro a hax11
           refine qr_apply hax11 ?_
           refine q_end ?_
           rintro wx24 ⟨Fx14, hF14, hx18⟩
           refine q_then ?_
           rcases cond_some hm with ⟨hb25, hm⟩ | ⟨hb25, hm⟩
           ·refine c_lit 133 rfl hb25 ?_
            refine c_true rfl (c_region (r_move rfl rfl rfl (r_assign rfl rfl rfl (r_nil (q_block (q_then (c_region (r_move rfl rfl rfl ?_))))))))
            refine r_bin rfl rfl rfl rfl rfl ?_
            refine r_assign rfl rfl rfl (r_nil ?_)
            refine q_next (fun a ha => ihx1 (i1, (iadd .i64 i1 1)) a _ hm ?_)
            exact ⟨_, ((((hF4.trans hF11).trans hF12).trans hF13).trans hF14), hx18.pick [0] (by decide) rfl, ha.cut (l := [0, 1, 2, 3, 4, 5, 13, 15, 17, 18, 19, 20]) rfl⟩
           ·refine c_lit 133 rfl hb25 ?_
            refine c_false rfl (c_skip (q_block (q_then (c_region (r_move rfl rfl rfl ?_)))))
            refine r_bin rfl rfl rfl rfl rfl ?_
            refine r_assign rfl rfl rfl (r_nil ?_)
            refine q_next (fun a ha => ihx1 (best1, (iadd .i64 i1 1)) a _ hm ?_)
            exact ⟨_, ((((hF4.trans hF11).trans hF12).trans hF13).trans hF14), hx18.pick [0] (by decide) rfl, ha.cut (l := [0, 1, 2, 3, 4, 5, 13, 15, 17, 18, 19, 20]) rfl⟩
          ·clear hm
           rcases cond_some hb24 with ⟨hb26, hb24⟩ | ⟨hb26, hb24⟩
           ·refine q_lit 116 rfl hb26 ?_
            refine q_stp rfl rfl rfl rfl (fun _ _ _ _ => r_move rfl rfl rfl (r_nil (qq rfl))) ?_
            refine q_stp rfl rfl rfl rfl (fun _ _ _ _ => r_bin rfl rfl rfl rfl rfl (r_nil (qq rfl))) ?_
            refine q_stp rfl rfl rfl rfl (fun _ _ _ _ => r_move rfl rfl rfl (r_nil (qq rfl))) ?_
            obtain ⟨v18, hb27, hb24⟩ := bind_some hb24
            refine q_mid 13 (fun a => Has 171 a [(0, .slice as1 ns1 cs1), (1, .slice as2 ns2 cs2), (2, .slice as3 ns3 cs3), (3, .slice as4 ns4 cs4), (4, .int .i64 notice1), (5, .int .i64 day1), (13, .bool v1), (15, .slice as6 ns6 cs6), (17, .pointer (some ⟨b1, 0, none⟩)), (18, .bool v6.2), (19, .int .i64 best1), (20, .int .i64 i1), (116, .bool true), (132, .bool v18)]) ?_ ?_
            ·intro a hax12
             refine qr_apply hax12 ?_
             refine q_stp rfl rfl rfl rfl (fun _ _ _ _ => r_pick_true rfl rfl rfl rfl (r_nil (qq rfl))) ?_
             refine q_nil (fun a ha => ?_)
             cases hb24
             exact ha.cut (l := [0, 1, 2, 3, 4, 5, 13, 15, 17, 18, 19, 20, 133]) rfl
            ·clear hb24
             rcases cond_some hb27 with ⟨hb28, hb27⟩ | ⟨hb28, hb27⟩
             ·refine q_lit 119 rfl hb28 ?_
              refine q_off rfl rfl rfl (q_off rfl rfl rfl (q_off rfl rfl rfl (q_off rfl rfl rfl (q_off rfl rfl rfl (q_off rfl rfl rfl (q_off rfl rfl rfl (q_off rfl rfl rfl (q_off rfl rfl rfl (q_off rfl rfl rfl (q_off rfl rfl rfl (q_off rfl rfl rfl ?_)))))))))))
              refine q_stp rfl rfl rfl rfl (fun _ _ _ _ => r_pick_true rfl rfl rfl rfl (r_nil (qq rfl))) ?_
              refine q_nil (fun a ha => ?_)
              cases hb27
              exact ha.cut (l := [0, 1, 2, 3, 4, 5, 13, 15, 17, 18, 19, 20, 116, 132]) rfl
             ·refine q_lit 119 rfl hb28 ?_
              refine q_stp rfl rfl rfl rfl (fun _ _ _ _ => r_move rfl rfl rfl (r_nil (qq rfl))) ?_
              refine q_stp rfl rfl rfl rfl (fun _ _ _ _ => r_move rfl rfl rfl (r_nil (qq rfl))) ?_
              obtain ⟨ex7, he7, hb27⟩ := bind_some hb27
              obtain ⟨b9, o7, cs7, hf7, hr7, hrun4⟩ := findex_ex (P := Tryd.prog) (r := rp_Motion) u22 sz42 ((((hs1.mono hG2).mono hF11).mono hF12).mono hF13) he7
              have hc7 : cs7 = [vs ex7.Text, .int .i64 ex7.Day, .int .i64 ex7.From] := hr7
              subst hc7
              refine q_findex rfl rfl rfl rfl hrun4 ?_
              refine q_stp rfl rfl rfl rfl (fun _ _ _ _ => r_fieldAddr fa42_2 rfl rfl rfl (r_nil (qq rfl))) ?_
              refine q_stp rfl rfl rfl rfl (fun _ _ hleq hq => r_loadF1 (j := 2) ag3 rfl rfl hq (hf7.mono hleq) rfl rfl (r_nil (qq rfl))) ?_
              refine q_stp rfl rfl rfl rfl (fun _ _ _ _ => r_move rfl rfl rfl (r_nil (qq rfl))) ?_
              refine q_stp rfl rfl rfl rfl (fun _ _ _ _ => r_move rfl rfl rfl (r_nil (qq rfl))) ?_
              refine q_stp rfl rfl rfl rfl (fun _ _ _ _ => r_max rfl rfl rfl rfl (r_nil (qq rfl))) ?_
              obtain ⟨ex8, he8, hb27⟩ := bind_some hb27
              obtain ⟨b10, o8, cs8, hf8, hr8, hrun5⟩ := findex_ex (P := Tryd.prog) (r := rp_Motion) u22 sz42 ((((hs1.mono hG2).mono hF11).mono hF12).mono hF13) he8
              have hc8 : cs8 = [vs ex8.Text, .int .i64 ex8.Day, .int .i64 ex8.From] := hr8
              subst hc8
              refine q_findex rfl rfl rfl rfl hrun5 ?_
              refine q_stp rfl rfl rfl rfl (fun _ _ _ _ => r_fieldAddr fa42_2 rfl rfl rfl (r_nil (qq rfl))) ?_
              refine q_stp rfl rfl rfl rfl (fun _ _ hleq hq => r_loadF1 (j := 2) ag3 rfl rfl hq (hf8.mono hleq) rfl rfl (r_nil (qq rfl))) ?_
              refine q_stp rfl rfl rfl rfl (fun _ _ _ _ => r_bin rfl rfl rfl rfl rfl (r_nil (qq rfl))) ?_
              refine q_stp rfl rfl rfl rfl (fun _ _ _ _ => r_pick_false rfl rfl rfl rfl (r_nil (qq rfl))) ?_
              refine q_nil (fun a ha => ?_)
              cases hb27
              exact ha.cut (l := [0, 1, 2, 3, 4, 5, 13, 15, 17, 18, 19, 20, 116, 132]) rfl
           ·refine q_lit 116 rfl hb26 ?_
            refine q_off rfl rfl rfl (q_off rfl rfl rfl (q_off rfl rfl rfl (q_off rfl rfl rfl (q_off rfl rfl rfl (q_off rfl rfl rfl (q_off rfl rfl rfl (q_off rfl rfl rfl (q_off rfl rfl rfl (q_off rfl rfl rfl (q_off rfl rfl rfl (q_off rfl rfl rfl (q_off rfl rfl rfl (q_off rfl rfl rfl (q_off rfl rfl rfl (q_off rfl rfl rfl ?_)))))))))))))))
            refine q_stp rfl rfl rfl rfl (fun _ _ _ _ => r_pick_false rfl rfl rfl rfl (r_nil (qq rfl))) ?_
            refine q_nil (fun a ha => ?_)
            cases hb24
            exact ha.cut (l := [0, 1, 2, 3, 4, 5, 13, 15, 17, 18, 19, 20, 133]) rfl
      ·clear hm
       rcases cond_some hb20 with ⟨hb29, hb20⟩ | ⟨hb29, hb20⟩
       ·refine r_lit 81 rfl hb29 ?_
        refine r_move rfl rfl rfl (r_move rfl rfl rfl (r_move rfl rfl rfl ?_))
        obtain ⟨v19, hv9, hb20⟩ := bind_some hb20
        refine r_callG0 ent12 rfl rfl rfl rfl hx15 (council_Passes_ok _ _ _ _ _ hv9 hx15.sat ((hs3.mono hG2).mono hF11) ((hs2.mono hG2).mono hF11)) ?_
        rintro _ Fx15 _ wx26 hF15 hx19 ⟨rfl, rfl⟩
        refine r_pick_true rfl rfl rfl rfl (r_nil ?_)
        refine q_next (fun a ha => ?_)
        cases hb20
        exact ⟨_, hF15, hx19.pick [0] (by decide) rfl, ha.cut (l := [0, 1, 2, 3, 4, 5, 13, 15, 17, 18, 19, 20, 86]) rfl⟩
       ·refine r_lit 81 rfl hb29 ?_
        refine r_off rfl (by decide) rfl (r_off rfl (by decide) rfl (r_off rfl (by decide) rfl (r_off rfl (by decide) rfl (r_pick_false rfl rfl rfl rfl (r_nil ?_)))))
        refine q_next (fun a ha => ?_)
        cases hb20
        exact ⟨_, Frz.refl _, hx15.pick [0] (by decide) rfl, ha.cut (l := [0, 1, 2, 3, 4, 5, 13, 15, 17, 18, 19, 20, 86]) rfl⟩
     ·refine c_lit 70 rfl hb19 ?_
      refine c_false rfl (c_exit (q_then_exit (q_then_exit ?_)))
      refine fun a ha => hk1 best1 a _ hm ?_
      exact ⟨_, hF4, hx6.pick [0] (by decide) rfl, ha.cut (l := [0, 3, 13, 17, 18, 19]) rfl⟩


end Go.Proofs.YtibkigpmkkkaeaaDoor.M
