/-
  THE MIRRORS of the council's functions, of the tariff's and the lexer's, of the references and the laws, and that each call returns what its mirror says. Printed by gen.py.
-/
import Derived.Test.YtibkigpmkkkaeaaDoorRows
import Derived.Test.YtibkigpmkkkaeaaDoorRtH
import Derived.Test.YtibkigpmkkkaeaaDoorExpr
import Derived.Test.YtibkigpmkkkaeaaDoorMirS
namespace Go.Proofs.YtibkigpmkkkaeaaDoor.M
open Go Go.RowKit Rt

theorem ent7 : Ent Tryd.prog 7 := fun _ _ => by kernel_rfl

theorem ent17 : Ent Tryd.prog 17 := fun _ _ => by kernel_rfl

theorem u4 : Tryd.prog.underlying 4 = some .bool := by kernel_rfl

def law40_CouncilMajority_L1 (n : Nat) (weights1 : (List Int)) (kont1 : Int → Option Bool) : Nat → Int → Int → Option Bool
 | 0, _, _ => none
 | mx1 + 1, all1, i1 =>
  bif decide (i1 < (weights1.length : Int)) then
   (ix weights1 i1).bind fun ex3 =>
   law40_CouncilMajority_L1 n weights1 kont1 mx1 (iadd .i64 all1 ex3) (iadd .i64 i1 1)
  else
   kont1 all1

theorem law40_CouncilMajority_L1_s (n : Nat) (weights1 : (List Int)) (kont1 : Int → Option Bool) (mx1 : Nat) (all1 : Int) (i1 : Int) : law40_CouncilMajority_L1 n weights1 kont1 (mx1 + 1) all1 i1 =
  bif decide (i1 < (weights1.length : Int)) then
   (ix weights1 i1).bind fun ex3 =>
   law40_CouncilMajority_L1 n weights1 kont1 mx1 (iadd .i64 all1 ex3) (iadd .i64 i1 1)
  else
   kont1 all1 := rfl

def law40_CouncilMajority (n : Nat) (weights1 : (List Int)) (votes1 : (List Vote)) (which1 : Int) (commune1 : Int) : Option Bool :=
 (law40_sane n).bind fun v1 =>
 (bif decide (25 < (weights1.length : Int)) then
  some true
 else
  some (decide (60 < (votes1.length : Int)))).bind fun v2 =>
 bif v2 then
  some v1
 else
  (council_Count n weights1 votes1 which1).bind fun v3 =>
  (ref40_Weights n weights1).bind fun v4 =>
  bif !v4 then
   (bif v1 then
    some (v3.1 == 0)
   else
    some false).bind fun v5 =>
   (bif v5 then
    some (v3.2 == 0)
   else
    some false).bind fun v6 =>
   (bif v6 then
    (council_Passes n weights1 votes1 which1).bind fun v8 =>
    some (!v8)
   else
    some false).bind fun v7 =>
   some v7
  else
   law40_CouncilMajority_L1 n weights1 (fun (all2 : Int) =>
    (bif decide (v3.1 < 0) then
     some true
    else
     some (decide (v3.2 < 0))).bind fun v9 =>
    (bif v9 then
     some true
    else
     some (decide (all2 < (iadd .i64 v3.1 v3.2)))).bind fun v10 =>
    (bif v10 then
     some true
    else
     (council_Passes n weights1 votes1 which1).bind fun v17 =>
     some (!(v17 == (decide (all2 < (imul .i64 2 v3.1)))))).bind fun v11 =>
    bif v11 then
     some false
    else
     bif (weights1.length : Int) == 0 then
      (bif v1 then
       some (v3.1 == 0)
      else
       some false).bind fun v12 =>
      some v12
     else
      (rem (IntKind.i64.wrap commune1) (weights1.length : Int)).bind fun q1 =>
      (app 24 [] votes1).bind fun l1 =>
      (app 24 l1 [(⟨which1, q1, true⟩ : Vote)]).bind fun l2 =>
      (council_Count n weights1 l2 which1).bind fun v13 =>
      (bif v1 then
       some (decide (v3.1 ≤ v13.1))
      else
       some false).bind fun v14 =>
      (bif v14 then
       (ix weights1 q1).bind fun ex2 =>
       some (decide (v13.1 ≤ (iadd .i64 v3.1 ex2)))
      else
       some false).bind fun v15 =>
      (bif v15 then
       (ix weights1 q1).bind fun ex1 =>
       some (decide (ex1 ≤ v13.1))
      else
       some false).bind fun v16 =>
      some v16) n 0 0

set_option maxHeartbeats 1000000 in
set_option maxRecDepth 1000000 in
theorem law40_CouncilMajority_ok (n : Nat) (weights1 : (List Int)) (votes1 : (List Vote)) (which1 : Int) (commune1 : Int) (r : Bool) (hm : law40_CouncilMajority n weights1 votes1 which1 commune1 = some r) {w : World} {F : Frz} (hs : Sat F w) {as1 : Option Addr} {ns1 : Nat} {cs1 : Nat} {as2 : Option Addr} {ns2 : Nat} {cs2 : Nat} (hs1 : SlR (Rp.int .i64) F as1 ns1 cs1 weights1) (hs2 : SlR rp_Vote F as2 ns2 cs2 votes1) (hg0 : FX F 0 [.int .u8 40, .int .u8 41, .int .u8 44, .int .u8 59, .int .u8 58, .int .u8 61, .int .u8 60, .int .u8 43, .int .u8 45, .int .u8 42, .int .u8 47, .int .u8 123, .int .u8 125]) :
  Calls Tryd.prog 4 #[.slice as1 ns1 cs1, .slice as2 ns2 cs2, .int .i64 which1, .int .u8 commune1] w fun e w' => ∃ v F' O', e = .returned v ∧ HS F w [] F' O' w' ∧ (v = .bool r ∧ O' = []) := by
 unfold law40_CouncilMajority at hm
 have h := HS.init hs
 refine calls_of 142 Tryd.func4 rfl rfl rfl ?_
 refine c_seq (c_region (r_assign rfl rfl rfl (r_nil (q_then (c_seq (c_region ?_))))))
 obtain ⟨v1, hv1, hm⟩ := bind_some hm
 refine r_callG0 ent7 rfl rfl rfl rfl h (law40_sane_ok _ _ hv1 h.sat hg0) ?_
 rintro _ Fx1 _ wx1 hF1 hx1 ⟨rfl, rfl⟩
 refine r_assign rfl rfl rfl (r_nil (q_then (c_seq (c_seq (c_region (r_move rfl rfl rfl ?_))))))
 refine r_lenS hs1.len u24 rfl rfl rfl ?_
 refine r_bin rfl rfl rfl rfl rfl ?_
 refine r_move rfl rfl rfl ?_
 obtain ⟨v2, hb1, hm⟩ := bind_some hm
 refine r_mid 4 (fun a w' => wx1 = w' ∧ Has 142 a [(0, .slice as1 ns1 cs1), (1, .slice as2 ns2 cs2), (2, .int .i64 which1), (3, .int .u8 commune1), (9, .bool v1), (26, .bool v2)]) ?_ ?_
 ·rintro a wx2 ⟨rfl, hax1⟩
  refine rw_apply hax1 ?_
  refine r_nil (q_then ?_)
  rcases cond_some hm with ⟨hb2, hm⟩ | ⟨hb2, hm⟩
  ·refine c_lit 26 rfl hb2 ?_
   refine c_true rfl (c_seq (c_region (r_move rfl rfl rfl (r_assign rfl rfl rfl (r_nil (q_then (c_ret (q_then_ret ?_))))))))
   refine b_ret1 rfl rfl ?_
   obtain rfl := Option.some.inj hm
   exact ⟨_, _, _, rfl, hx1.pick [] (by decide) rfl, rfl, rfl⟩
  ·refine c_lit 26 rfl hb2 ?_
   refine c_false rfl (c_skip (q_then (c_seq (c_region (r_move rfl rfl rfl (r_move rfl rfl rfl (r_move rfl rfl rfl ?_)))))))
   obtain ⟨v3, hv2, hm⟩ := bind_some hm
   refine r_callG0 ent16 rfl rfl rfl rfl hx1 (council_Count_ok _ _ _ _ _ hv2 hx1.sat (hs1.mono hF1) (hs2.mono hF1)) ?_
   rintro _ Fx2 _ wx3 hF2 hx2 ⟨rfl, rfl⟩
   refine r_move rfl rfl rfl (r_extract rfl rfl rfl rfl (r_extract rfl rfl rfl rfl (r_assign rfl rfl rfl (r_assign rfl rfl rfl (r_nil (q_then (c_seq (c_seq (c_region (r_move rfl rfl rfl ?_))))))))))
   obtain ⟨v4, hv3, hm⟩ := bind_some hm
   refine r_callP0 ent17 rfl rfl rfl rfl (ref40_Weights_ok _ _ _ hv3 hx2.sat ((hs1.mono hF1).mono hF2)) ?_
   refine r_not rfl rfl rfl (r_nil (q_then ?_))
   rcases cond_some hm with ⟨hb3, hm⟩ | ⟨hb3, hm⟩
   ·refine c_lit 37 rfl hb3 ?_
    refine c_true rfl (c_seq (c_region (r_move rfl rfl rfl (r_move rfl rfl rfl ?_))))
    obtain ⟨v5, hb4, hm⟩ := bind_some hm
    refine r_mid 3 (fun a w' => wx3 = w' ∧ Has 142 a [(0, .slice as1 ns1 cs1), (1, .slice as2 ns2 cs2), (2, .int .i64 which1), (11, .int .i64 v3.2), (42, .bool v5)]) ?_ ?_
    ·rintro a wx4 ⟨rfl, hax2⟩
     refine rw_apply hax2 ?_
     refine r_move rfl rfl rfl ?_
     obtain ⟨v6, hb5, hm⟩ := bind_some hm
     refine r_mid 3 (fun a w' => wx3 = w' ∧ Has 142 a [(0, .slice as1 ns1 cs1), (1, .slice as2 ns2 cs2), (2, .int .i64 which1), (46, .bool v6)]) ?_ ?_
     ·rintro a wx5 ⟨rfl, hax3⟩
      refine rw_apply hax3 ?_
      refine r_move rfl rfl rfl ?_
      obtain ⟨v7, hb6, hm⟩ := bind_some hm
      refine r_mid 6 (fun a w' => ∃ (Fx3 : Frz), Frz.le Fx2 Fx3 ∧ HS F w [] Fx3 [] w' ∧ Has 142 a [(53, .bool v7)]) ?_ ?_
      ·rintro a wx6 ⟨Fx3, hF3, hx3, hax4⟩
       refine rw_apply hax4 ?_
       refine r_assign rfl rfl rfl (r_nil (q_then (c_ret (q_then_ret ?_))))
       refine b_ret1 rfl rfl ?_
       obtain rfl := Option.some.inj hm
       exact ⟨_, _, _, rfl, hx3.pick [] (by decide) rfl, rfl, rfl⟩
      ·clear hm
       rcases cond_some hb6 with ⟨hb7, hb6⟩ | ⟨hb7, hb6⟩
       ·refine r_lit 47 rfl hb7 ?_
        refine r_move rfl rfl rfl (r_move rfl rfl rfl (r_move rfl rfl rfl ?_))
        obtain ⟨v8, hv4, hb6⟩ := bind_some hb6
        refine r_callG0 ent12 rfl rfl rfl rfl hx2 (council_Passes_ok _ _ _ _ _ hv4 hx2.sat ((hs1.mono hF1).mono hF2) ((hs2.mono hF1).mono hF2)) ?_
        rintro _ Fx4 _ wx7 hF4 hx4 ⟨rfl, rfl⟩
        refine r_not rfl rfl rfl (r_pick_true rfl rfl rfl rfl (r_nil ?_))
        refine q_next (fun a ha => ?_)
        cases hb6
        exact ⟨_, hF4, hx4.pick [] (by decide) rfl, ha.cut (l := [53]) rfl⟩
       ·refine r_lit 47 rfl hb7 ?_
        refine r_off rfl (by decide) rfl (r_off rfl (by decide) rfl (r_off rfl (by decide) rfl (r_off rfl (by decide) rfl (r_off rfl (by decide) rfl (r_pick_false rfl rfl rfl rfl (r_nil ?_))))))
        refine q_next (fun a ha => ?_)
        cases hb6
        exact ⟨_, Frz.refl _, hx2.pick [] (by decide) rfl, ha.cut (l := [53]) rfl⟩
     ·clear hm
      rcases cond_some hb5 with ⟨hb8, hb5⟩ | ⟨hb8, hb5⟩
      ·refine r_lit 43 rfl hb8 ?_
       refine r_move rfl rfl rfl ?_
       refine r_bin rfl rfl rfl rfl rfl ?_
       refine r_pick_true rfl rfl rfl rfl (r_nil ?_)
       refine q_next (fun a ha => ?_)
       cases hb5
       exact ⟨rfl, ha.cut (l := [0, 1, 2, 46]) rfl⟩
      ·refine r_lit 43 rfl hb8 ?_
       refine r_off rfl (by decide) rfl (r_off rfl (by decide) rfl (r_pick_false rfl rfl rfl rfl (r_nil ?_)))
       refine q_next (fun a ha => ?_)
       cases hb5
       exact ⟨rfl, ha.cut (l := [0, 1, 2, 46]) rfl⟩
    ·clear hm
     rcases cond_some hb4 with ⟨hb9, hb4⟩ | ⟨hb9, hb4⟩
     ·refine r_lit 39 rfl hb9 ?_
      refine r_move rfl rfl rfl ?_
      refine r_bin rfl rfl rfl rfl rfl ?_
      refine r_pick_true rfl rfl rfl rfl (r_nil ?_)
      refine q_next (fun a ha => ?_)
      cases hb4
      exact ⟨rfl, ha.cut (l := [0, 1, 2, 11, 42]) rfl⟩
     ·refine r_lit 39 rfl hb9 ?_
      refine r_off rfl (by decide) rfl (r_off rfl (by decide) rfl (r_pick_false rfl rfl rfl rfl (r_nil ?_)))
      refine q_next (fun a ha => ?_)
      cases hb4
      exact ⟨rfl, ha.cut (l := [0, 1, 2, 11, 42]) rfl⟩
   ·refine c_lit 37 rfl hb3 ?_
    refine c_false rfl (c_skip (q_then (c_seq (c_region (r_assign rfl rfl rfl (r_nil (q_then (c_seq (c_seq (c_region (r_assign rfl rfl rfl (r_nil (q_then (c_block ?_))))))))))))))
    intro a hax14
    obtain ⟨kont1, hkont1⟩ : ∃ kont1 : Int → Option Bool, kont1 = (fun (all2 : Int) =>
       (bif decide (v3.1 < 0) then
        some true
       else
        some (decide (v3.2 < 0))).bind fun v9 =>
       (bif v9 then
        some true
       else
        some (decide (all2 < (iadd .i64 v3.1 v3.2)))).bind fun v10 =>
       (bif v10 then
        some true
       else
        (council_Passes n weights1 votes1 which1).bind fun v17 =>
        some (!(v17 == (decide (all2 < (imul .i64 2 v3.1)))))).bind fun v11 =>
       bif v11 then
        some false
       else
        bif (weights1.length : Int) == 0 then
         (bif v1 then
          some (v3.1 == 0)
         else
          some false).bind fun v12 =>
         some v12
        else
         (rem (IntKind.i64.wrap commune1) (weights1.length : Int)).bind fun q1 =>
         (app 24 [] votes1).bind fun l1 =>
         (app 24 l1 [(⟨which1, q1, true⟩ : Vote)]).bind fun l2 =>
         (council_Count n weights1 l2 which1).bind fun v13 =>
         (bif v1 then
          some (decide (v3.1 ≤ v13.1))
         else
          some false).bind fun v14 =>
         (bif v14 then
          (ix weights1 q1).bind fun ex2 =>
          some (decide (v13.1 ≤ (iadd .i64 v3.1 ex2)))
         else
          some false).bind fun v15 =>
         (bif v15 then
          (ix weights1 q1).bind fun ex1 =>
          some (decide (ex1 ≤ v13.1))
         else
          some false).bind fun v16 =>
         some v16) := ⟨_, rfl⟩
    replace hm : (fun m (s : Int × Int) => law40_CouncilMajority_L1 n weights1 kont1 m s.1 s.2) n (0, 0) = some r := by rw [hkont1]; exact hm
    refine loopX (id := 0) (fun m (s : Int × Int) => law40_CouncilMajority_L1 n weights1 kont1 m s.1 s.2) (fun (y : Int) => kont1 y) r (fun (s : Int × Int) a w' => wx3 = w' ∧ Has 142 a [(0, .slice as1 ns1 cs1), (1, .slice as2 ns2 cs2), (2, .int .i64 which1), (3, .int .u8 commune1), (9, .bool v1), (10, .int .i64 v3.1), (11, .int .i64 v3.2), (12, .int .i64 s.1), (13, .int .i64 s.2)]) (fun (y : Int) a w' => wx3 = w' ∧ Has 142 a [(0, .slice as1 ns1 cs1), (1, .slice as2 ns2 cs2), (2, .int .i64 which1), (3, .int .u8 commune1), (9, .bool v1), (10, .int .i64 v3.1), (11, .int .i64 v3.2), (12, .int .i64 y)]) (fun _ => rfl) ?_ ?_ hm ⟨rfl, hax14.cut (l := [0, 1, 2, 3, 9, 10, 11, 12, 13]) rfl⟩
    ·clear hm; rintro all2 a wx8 hm ⟨rfl, hax5⟩
     rw [hkont1] at hm
     replace hm := hm
     refine qw_apply (e := .exit 0) hax5 ?_
     refine q_block_hit (q_then (c_seq (c_seq (c_region (r_move rfl rfl rfl ?_)))))
     refine r_bin rfl rfl rfl rfl rfl ?_
     refine r_move rfl rfl rfl ?_
     obtain ⟨v9, hb10, hm⟩ := bind_some hm
     refine r_mid 3 (fun a w' => wx3 = w' ∧ Has 142 a [(0, .slice as1 ns1 cs1), (1, .slice as2 ns2 cs2), (2, .int .i64 which1), (3, .int .u8 commune1), (9, .bool v1), (10, .int .i64 v3.1), (11, .int .i64 v3.2), (12, .int .i64 all2), (71, .bool v9)]) ?_ ?_
     ·rintro a wx9 ⟨rfl, hax6⟩
      refine rw_apply hax6 ?_
      refine r_move rfl rfl rfl ?_
      obtain ⟨v10, hb11, hm⟩ := bind_some hm
      refine r_mid 6 (fun a w' => wx3 = w' ∧ Has 142 a [(0, .slice as1 ns1 cs1), (1, .slice as2 ns2 cs2), (2, .int .i64 which1), (3, .int .u8 commune1), (9, .bool v1), (10, .int .i64 v3.1), (12, .int .i64 all2), (78, .bool v10)]) ?_ ?_
      ·rintro a wx10 ⟨rfl, hax7⟩
       refine rw_apply hax7 ?_
       refine r_move rfl rfl rfl ?_
       obtain ⟨v11, hb12, hm⟩ := bind_some hm
       refine r_mid 10 (fun a w' => ∃ (Fx5 : Frz), Frz.le Fx2 Fx5 ∧ HS F w [] Fx5 [] w' ∧ Has 142 a [(0, .slice as1 ns1 cs1), (1, .slice as2 ns2 cs2), (2, .int .i64 which1), (3, .int .u8 commune1), (9, .bool v1), (10, .int .i64 v3.1), (89, .bool v11)]) ?_ ?_
       ·rintro a wx11 ⟨Fx5, hF5, hx5, hax8⟩
        refine rw_apply hax8 ?_
        refine r_nil (q_then ?_)
        rcases cond_some hm with ⟨hb13, hm⟩ | ⟨hb13, hm⟩
        ·refine c_lit 89 rfl hb13 ?_
         refine c_true rfl (c_seq (c_region (r_assign rfl rfl rfl (r_nil (q_then (c_ret (q_then_ret ?_)))))))
         refine b_ret1 rfl rfl ?_
         obtain rfl := Option.some.inj hm
         exact ⟨_, _, _, rfl, hx5.pick [] (by decide) rfl, rfl, rfl⟩
        ·refine c_lit 89 rfl hb13 ?_
         refine c_false rfl (c_skip (q_then (c_seq (c_seq (c_region (r_move rfl rfl rfl ?_))))))
         refine r_lenS hs1.len u24 rfl rfl rfl ?_
         refine r_bin rfl rfl rfl rfl rfl ?_
         refine r_nil (q_then ?_)
         rcases cond_some hm with ⟨hb14, hm⟩ | ⟨hb14, hm⟩
         ·refine c_lit 92 rfl hb14 ?_
          refine c_true rfl (c_seq (c_region (r_move rfl rfl rfl (r_move rfl rfl rfl ?_))))
          obtain ⟨v12, hb15, hm⟩ := bind_some hm
          refine r_mid 3 (fun a w' => wx11 = w' ∧ Has 142 a [(97, .bool v12)]) ?_ ?_
          ·rintro a wx12 ⟨rfl, hax9⟩
           refine rw_apply hax9 ?_
           refine r_assign rfl rfl rfl (r_nil (q_then (c_ret (q_then_ret ?_))))
           refine b_ret1 rfl rfl ?_
           obtain rfl := Option.some.inj hm
           exact ⟨_, _, _, rfl, hx5.pick [] (by decide) rfl, rfl, rfl⟩
          ·clear hm
           rcases cond_some hb15 with ⟨hb16, hb15⟩ | ⟨hb16, hb15⟩
           ·refine r_lit 94 rfl hb16 ?_
            refine r_move rfl rfl rfl ?_
            refine r_bin rfl rfl rfl rfl rfl ?_
            refine r_pick_true rfl rfl rfl rfl (r_nil ?_)
            refine q_next (fun a ha => ?_)
            cases hb15
            exact ⟨rfl, ha.cut (l := [97]) rfl⟩
           ·refine r_lit 94 rfl hb16 ?_
            refine r_off rfl (by decide) rfl (r_off rfl (by decide) rfl (r_pick_false rfl rfl rfl rfl (r_nil ?_)))
            refine q_next (fun a ha => ?_)
            cases hb15
            exact ⟨rfl, ha.cut (l := [97]) rfl⟩
         ·refine c_lit 92 rfl hb14 ?_
          refine c_false rfl (c_skip (q_then (c_seq (c_region (r_move rfl rfl rfl ?_)))))
          refine r_conv u5 u3 rfl rfl rfl ?_
          refine r_move rfl rfl rfl ?_
          refine r_lenS hs1.len u24 rfl rfl rfl ?_
          obtain ⟨q1, hq1, hm⟩ := bind_some hm
          refine r_rem rfl rfl rfl rfl hq1 ?_
          refine r_assign rfl rfl rfl (r_nil (q_then (c_seq (c_region ?_))))
          refine r_buildSlice (e := 53) (cs := []) (q := 3) rfl rfl hx5 rfl (fun _ => by kernel_rfl) rfl rfl ?_
          intro b1 wx13 hx6
          refine r_move rfl rfl rfl ?_
          obtain ⟨l1, hr1, hm⟩ := bind_some hm
          refine r_appendF (r := rp_Vote) ap23 rfl rfl rfl hx6 rfl rfl (i := 0) rfl ((show RowN rp_Vote Fx5 0 [] [] from ⟨rfl, (rfl : RowR rp_Vote _ [] [])⟩)) (((hs2.mono hF1).mono hF2).mono hF5) hr1 ?_
          intro as3 cs3 wx14 xss3 hx7 hs3
          refine r_move rfl rfl rfl (r_move rfl rfl rfl ?_)
          refine r_build (v := .agg #[.int .i64 which1, .int .i64 q1, .bool true]) rfl rfl rfl (fun _ => by kernel_rfl) ?_
          refine r_buildSlice (e := 53) (cs := [.int .i64 which1, .int .i64 q1, .bool true]) (q := 3) rfl rfl hx7 rfl (fun _ => by kernel_rfl) rfl rfl ?_
          intro b2 wx15 hx8
          obtain ⟨l2, hr2, hm⟩ := bind_some hm
          refine r_appendN (r := rp_Vote) ap23 rfl rfl hx8 rfl rfl (i := 1) (j := 0) rfl rfl hs3 ((show RowN rp_Vote Fx5 1 [.int .i64 which1, .int .i64 q1, .bool true] [(⟨which1, q1, true⟩ : Vote)] from ⟨rfl, ⟨_, _, rfl, rfl, (rfl : RowR rp_Vote _ [] [])⟩⟩)) hr2 ?_
          intro as4 cs4 wx16 hx9 hs4
          refine r_assign rfl rfl rfl (r_nil (q_then (c_seq (c_region (r_move rfl rfl rfl (r_move rfl rfl rfl (r_move rfl rfl rfl ?_)))))))
          obtain ⟨Fx6, hF6, hx10, hsx1⟩ := freezeRow hx9 (i := 1) rfl hs4
          have hG1 := ((hF1.trans hF2).trans hF5).trans hF6
          obtain ⟨v13, hv5, hm⟩ := bind_some hm
          refine r_callG0 ent16 rfl rfl rfl rfl hx10 (council_Count_ok _ _ _ _ _ hv5 hx10.sat (hs1.mono hG1) hsx1) ?_
          rintro _ Fx7 _ wx17 hF7 hx11 ⟨rfl, rfl⟩
          refine r_move rfl rfl rfl (r_extract rfl rfl rfl rfl (r_extract rfl rfl rfl rfl (r_assign rfl rfl rfl (r_assign rfl rfl rfl (r_nil (q_then (c_seq (c_region (r_move rfl rfl rfl (r_move rfl rfl rfl ?_))))))))))
          obtain ⟨v14, hb17, hm⟩ := bind_some hm
          refine r_mid 4 (fun a w' => wx17 = w' ∧ Has 142 a [(0, .slice as1 ns1 cs1), (10, .int .i64 v3.1), (14, .int .i64 q1), (16, .int .i64 v13.1), (123, .bool v14)]) ?_ ?_
          ·rintro a wx18 ⟨rfl, hax10⟩
           refine rw_apply hax10 ?_
           refine r_move rfl rfl rfl ?_
           obtain ⟨v15, hb18, hm⟩ := bind_some hm
           refine r_mid 9 (fun a w' => wx17 = w' ∧ Has 142 a [(0, .slice as1 ns1 cs1), (14, .int .i64 q1), (16, .int .i64 v13.1), (133, .bool v15)]) ?_ ?_
           ·rintro a wx19 ⟨rfl, hax11⟩
            refine rw_apply hax11 ?_
            refine r_move rfl rfl rfl ?_
            obtain ⟨v16, hb19, hm⟩ := bind_some hm
            refine r_mid 7 (fun a w' => wx17 = w' ∧ Has 142 a [(141, .bool v16)]) ?_ ?_
            ·rintro a wx20 ⟨rfl, hax12⟩
             refine rw_apply hax12 ?_
             refine r_assign rfl rfl rfl (r_nil (q_then (c_ret ?_)))
             refine b_ret1 rfl rfl ?_
             obtain rfl := Option.some.inj hm
             exact ⟨_, _, _, rfl, hx11.pick [] (by decide) rfl, rfl, rfl⟩
            ·clear hm
             rcases cond_some hb19 with ⟨hb20, hb19⟩ | ⟨hb20, hb19⟩
             ·refine r_lit 134 rfl hb20 ?_
              refine r_move rfl rfl rfl (r_move rfl rfl rfl (r_move rfl rfl rfl ?_))
              obtain ⟨ex1, he1, hb19⟩ := bind_some hb19
              refine r_findex (r := (Rp.int .i64)) u24 sz3 rfl rfl rfl rfl ((hs1.mono hG1).mono hF7) he1 ?_
              intro b3 o1 cs1 hf1 hr3
              have hc1 : cs1 = [.int .i64 ex1] := hr3
              subst hc1
              refine r_loadF1 (j := 0) ag3 rfl rfl hx11 hf1 rfl rfl ?_
              refine r_bin rfl rfl rfl rfl rfl ?_
              refine r_pick_true rfl rfl rfl rfl (r_nil ?_)
              refine q_next (fun a ha => ?_)
              cases hb19
              exact ⟨rfl, ha.cut (l := [141]) rfl⟩
             ·refine r_lit 134 rfl hb20 ?_
              refine r_off rfl (by decide) rfl (r_off rfl (by decide) rfl (r_off rfl (by decide) rfl (r_off rfl (by decide) rfl (r_off rfl (by decide) rfl (r_off rfl (by decide) rfl (r_pick_false rfl rfl rfl rfl (r_nil ?_)))))))
              refine q_next (fun a ha => ?_)
              cases hb19
              exact ⟨rfl, ha.cut (l := [141]) rfl⟩
           ·clear hm
            rcases cond_some hb18 with ⟨hb21, hb18⟩ | ⟨hb21, hb18⟩
            ·refine r_lit 124 rfl hb21 ?_
             refine r_move rfl rfl rfl (r_move rfl rfl rfl (r_move rfl rfl rfl (r_move rfl rfl rfl ?_)))
             obtain ⟨ex2, he2, hb18⟩ := bind_some hb18
             refine r_findex (r := (Rp.int .i64)) u24 sz3 rfl rfl rfl rfl ((hs1.mono hG1).mono hF7) he2 ?_
             intro b4 o2 cs2 hf2 hr4
             have hc2 : cs2 = [.int .i64 ex2] := hr4
             subst hc2
             refine r_loadF1 (j := 0) ag3 rfl rfl hx11 hf2 rfl rfl ?_
             refine r_bin rfl rfl rfl rfl rfl ?_
             refine r_bin rfl rfl rfl rfl rfl ?_
             refine r_pick_true rfl rfl rfl rfl (r_nil ?_)
             refine q_next (fun a ha => ?_)
             cases hb18
             exact ⟨rfl, ha.cut (l := [0, 14, 16, 133]) rfl⟩
            ·refine r_lit 124 rfl hb21 ?_
             refine r_off rfl (by decide) rfl (r_off rfl (by decide) rfl (r_off rfl (by decide) rfl (r_off rfl (by decide) rfl (r_off rfl (by decide) rfl (r_off rfl (by decide) rfl (r_off rfl (by decide) rfl (r_off rfl (by decide) rfl (r_pick_false rfl rfl rfl rfl (r_nil ?_)))))))))
             refine q_next (fun a ha => ?_)
             cases hb18
             exact ⟨rfl, ha.cut (l := [0, 14, 16, 133]) rfl⟩
          ·clear hm
           rcases cond_some hb17 with ⟨hb22, hb17⟩ | ⟨hb22, hb17⟩
           ·refine r_lit 119 rfl hb22 ?_
            refine r_move rfl rfl rfl (r_move rfl rfl rfl ?_)
            refine r_bin rfl rfl rfl rfl rfl ?_
            refine r_pick_true rfl rfl rfl rfl (r_nil ?_)
            refine q_next (fun a ha => ?_)
            cases hb17
            exact ⟨rfl, ha.cut (l := [0, 10, 14, 16, 123]) rfl⟩
           ·refine r_lit 119 rfl hb22 ?_
            refine r_off rfl (by decide) rfl (r_off rfl (by decide) rfl (r_off rfl (by decide) rfl (r_pick_false rfl rfl rfl rfl (r_nil ?_))))
            refine q_next (fun a ha => ?_)
            cases hb17
            exact ⟨rfl, ha.cut (l := [0, 10, 14, 16, 123]) rfl⟩
       ·clear hm
        rcases cond_some hb12 with ⟨hb23, hb12⟩ | ⟨hb23, hb12⟩
        ·refine r_lit 79 rfl hb23 ?_
         refine r_off rfl (by decide) rfl (r_off rfl (by decide) rfl (r_off rfl (by decide) rfl (r_off rfl (by decide) rfl (r_off rfl (by decide) rfl (r_off rfl (by decide) rfl (r_off rfl (by decide) rfl (r_off rfl (by decide) rfl (r_off rfl (by decide) rfl (r_pick_true rfl rfl rfl rfl (r_nil ?_))))))))))
         refine q_next (fun a ha => ?_)
         cases hb12
         exact ⟨_, Frz.refl _, hx2.pick [] (by decide) rfl, ha.cut (l := [0, 1, 2, 3, 9, 10, 89]) rfl⟩
        ·refine r_lit 79 rfl hb23 ?_
         refine r_move rfl rfl rfl (r_move rfl rfl rfl (r_move rfl rfl rfl ?_))
         obtain ⟨v17, hv6, hb12⟩ := bind_some hb12
         refine r_callG0 ent12 rfl rfl rfl rfl hx2 (council_Passes_ok _ _ _ _ _ hv6 hx2.sat ((hs1.mono hF1).mono hF2) ((hs2.mono hF1).mono hF2)) ?_
         rintro _ Fx8 _ wx21 hF8 hx12 ⟨rfl, rfl⟩
         refine r_move rfl rfl rfl ?_
         refine r_bin rfl rfl rfl rfl rfl ?_
         refine r_move rfl rfl rfl ?_
         refine r_bin rfl rfl rfl rfl rfl ?_
         refine r_bne u4 rfl rfl rfl rfl ?_
         refine r_pick_false rfl rfl rfl rfl (r_nil ?_)
         refine q_next (fun a ha => ?_)
         cases hb12
         exact ⟨_, hF8, hx12.pick [] (by decide) rfl, ha.cut (l := [0, 1, 2, 3, 9, 10, 89]) rfl⟩
      ·clear hm
       rcases cond_some hb11 with ⟨hb24, hb11⟩ | ⟨hb24, hb11⟩
       ·refine r_lit 72 rfl hb24 ?_
        refine r_off rfl (by decide) rfl (r_off rfl (by decide) rfl (r_off rfl (by decide) rfl (r_off rfl (by decide) rfl (r_off rfl (by decide) rfl (r_pick_true rfl rfl rfl rfl (r_nil ?_))))))
        refine q_next (fun a ha => ?_)
        cases hb11
        exact ⟨rfl, ha.cut (l := [0, 1, 2, 3, 9, 10, 12, 78]) rfl⟩
       ·refine r_lit 72 rfl hb24 ?_
        refine r_move rfl rfl rfl (r_move rfl rfl rfl ?_)
        refine r_bin rfl rfl rfl rfl rfl ?_
        refine r_move rfl rfl rfl ?_
        refine r_bin rfl rfl rfl rfl rfl ?_
        refine r_pick_false rfl rfl rfl rfl (r_nil ?_)
        refine q_next (fun a ha => ?_)
        cases hb11
        exact ⟨rfl, ha.cut (l := [0, 1, 2, 3, 9, 10, 12, 78]) rfl⟩
     ·clear hm
      rcases cond_some hb10 with ⟨hb25, hb10⟩ | ⟨hb25, hb10⟩
      ·refine r_lit 68 rfl hb25 ?_
       refine r_off rfl (by decide) rfl (r_off rfl (by decide) rfl (r_pick_true rfl rfl rfl rfl (r_nil ?_)))
       refine q_next (fun a ha => ?_)
       cases hb10
       exact ⟨rfl, ha.cut (l := [0, 1, 2, 3, 9, 10, 11, 12, 71]) rfl⟩
      ·refine r_lit 68 rfl hb25 ?_
       refine r_move rfl rfl rfl ?_
       refine r_bin rfl rfl rfl rfl rfl ?_
       refine r_pick_false rfl rfl rfl rfl (r_nil ?_)
       refine q_next (fun a ha => ?_)
       cases hb10
       exact ⟨rfl, ha.cut (l := [0, 1, 2, 3, 9, 10, 11, 12, 71]) rfl⟩
    ·clear hm hkont1; intro hk1 mx1 K ihx1
     rintro ⟨all1, i1⟩ a wx22 hm ⟨rfl, hax13⟩
     simp only [law40_CouncilMajority_L1_s] at hm
     refine cw_apply hax13 ?_
     refine c_seq (c_seq (c_region (r_move rfl rfl rfl (r_move rfl rfl rfl ?_))))
     refine r_lenS hs1.len u24 rfl rfl rfl ?_
     refine r_bin rfl rfl rfl rfl rfl ?_
     refine r_nil (q_then ?_)
     rcases cond_some hm with ⟨hb26, hm⟩ | ⟨hb26, hm⟩
     ·refine c_lit 57 rfl hb26 ?_
      refine c_true rfl (c_skip (q_then (c_seq (c_block (c_region (r_move rfl rfl rfl (r_move rfl rfl rfl (r_move rfl rfl rfl ?_))))))))
      obtain ⟨ex3, he3, hm⟩ := bind_some hm
      refine r_findex (r := (Rp.int .i64)) u24 sz3 rfl rfl rfl rfl ((hs1.mono hF1).mono hF2) he3 ?_
      intro b5 o3 cs3 hf3 hr5
      have hc3 : cs3 = [.int .i64 ex3] := hr5
      subst hc3
      refine r_loadF1 (j := 0) ag3 rfl rfl hx2 hf3 rfl rfl ?_
      refine r_bin rfl rfl rfl rfl rfl ?_
      refine r_assign rfl rfl rfl (r_nil (q_block (q_then (c_region (r_move rfl rfl rfl ?_)))))
      refine r_bin rfl rfl rfl rfl rfl ?_
      refine r_assign rfl rfl rfl (r_nil ?_)
      refine q_next (fun a ha => ihx1 ((iadd .i64 all1 ex3), (iadd .i64 i1 1)) a _ hm ?_)
      exact ⟨rfl, ha.cut (l := [0, 1, 2, 3, 9, 10, 11, 12, 13]) rfl⟩
     ·refine c_lit 57 rfl hb26 ?_
      refine c_false rfl (c_exit (q_then_exit (q_then_exit ?_)))
      refine fun a ha => hk1 all1 a _ hm ?_
      exact ⟨rfl, ha.cut (l := [0, 1, 2, 3, 9, 10, 11, 12]) rfl⟩
 ·clear hm
  rcases cond_some hb1 with ⟨hb27, hb1⟩ | ⟨hb27, hb1⟩
  ·refine r_lit 22 rfl hb27 ?_
   refine r_off rfl (by decide) rfl (r_off rfl (by decide) rfl (r_off rfl (by decide) rfl (r_pick_true rfl rfl rfl rfl (r_nil ?_))))
   refine q_next (fun a ha => ?_)
   cases hb1
   exact ⟨rfl, ha.cut (l := [0, 1, 2, 3, 9, 26]) rfl⟩
  ·refine r_lit 22 rfl hb27 ?_
   refine r_move rfl rfl rfl ?_
   refine r_lenS hs2.len u23 rfl rfl rfl ?_
   refine r_bin rfl rfl rfl rfl rfl ?_
   refine r_pick_false rfl rfl rfl rfl (r_nil ?_)
   refine q_next (fun a ha => ?_)
   cases hb1
   exact ⟨rfl, ha.cut (l := [0, 1, 2, 3, 9, 26]) rfl⟩


end Go.Proofs.YtibkigpmkkkaeaaDoor.M
