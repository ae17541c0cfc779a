/-
  THE MIRRORS of the council's functions, of the tariff's and the lexer's, of the references and the laws, and that each call returns what its mirror says. Printed by gen.py.
-/
import Derived.Test.YtibkigpmkkkaeaaDoorRows
import Derived.Test.YtibkigpmkkkaeaaDoorRtH
import Derived.Test.YtibkigpmkkkaeaaDoorExpr
import Derived.Test.YtibkigpmkkkaeaaDoorMirS
namespace Go.Proofs.YtibkigpmkkkaeaaDoor.M
open Go Go.RowKit Rt

theorem ent7 : Ent Tryd.prog 7 := fun _ _ => by kernel_rfl

theorem u4 : Tryd.prog.underlying 4 = some .bool := by kernel_rfl

def law40_CouncilVotes_L2 (n : Nat) (votes1 : (List Vote)) (which1 : Int) (c1 : Int) (kont2 : Bool → Int → Int → Bool → Option Bool) : Nat → Bool → Int → Int → Int → Bool → Option Bool
 | 0, _, _, _, _, _ => none
 | mx2 + 1, found1, i1, f1, f2, f3 =>
  bif decide (i1 < (votes1.length : Int)) then
   (ix votes1 i1).bind fun ex1 =>
   (bif ex1.Motion == which1 then
    (ix votes1 i1).bind fun ex3 =>
    some (ex3.Commune == c1)
   else
    some false).bind fun v10 =>
   bif v10 then
    (ix votes1 i1).bind fun ex2 =>
    law40_CouncilVotes_L2 n votes1 which1 c1 kont2 mx2 true (iadd .i64 i1 1) ex2.Motion ex2.Commune ex2.Yes
   else
    law40_CouncilVotes_L2 n votes1 which1 c1 kont2 mx2 found1 (iadd .i64 i1 1) f1 f2 f3
  else
   kont2 found1 f1 f2 f3

theorem law40_CouncilVotes_L2_s (n : Nat) (votes1 : (List Vote)) (which1 : Int) (c1 : Int) (kont2 : Bool → Int → Int → Bool → Option Bool) (mx2 : Nat) (found1 : Bool) (i1 : Int) (f1 : Int) (f2 : Int) (f3 : Bool) : law40_CouncilVotes_L2 n votes1 which1 c1 kont2 (mx2 + 1) found1 i1 f1 f2 f3 =
  bif decide (i1 < (votes1.length : Int)) then
   (ix votes1 i1).bind fun ex1 =>
   (bif ex1.Motion == which1 then
    (ix votes1 i1).bind fun ex3 =>
    some (ex3.Commune == c1)
   else
    some false).bind fun v10 =>
   bif v10 then
    (ix votes1 i1).bind fun ex2 =>
    law40_CouncilVotes_L2 n votes1 which1 c1 kont2 mx2 true (iadd .i64 i1 1) ex2.Motion ex2.Commune ex2.Yes
   else
    law40_CouncilVotes_L2 n votes1 which1 c1 kont2 mx2 found1 (iadd .i64 i1 1) f1 f2 f3
  else
   kont2 found1 f1 f2 f3 := rfl

def law40_CouncilVotes_L1 (n : Nat) (votes1 : (List Vote)) (which1 : Int) (kont1 : (List Vote) → Option Bool) : Nat → Int → (List Vote) → Option Bool
 | 0, _, _ => none
 | mx1 + 1, c1, l1 =>
  bif decide (0 ≤ c1) then
   law40_CouncilVotes_L2 n votes1 which1 c1 (fun (found2 : Bool) (f4 : Int) (f5 : Int) (f6 : Bool) =>
    bif found2 then
     (app 24 l1 [(⟨f4, f5, f6⟩ : Vote)]).bind fun l3 =>
     law40_CouncilVotes_L1 n votes1 which1 kont1 mx1 (isub .i64 c1 1) l3
    else
     law40_CouncilVotes_L1 n votes1 which1 kont1 mx1 (isub .i64 c1 1) l1) n false 0 0 0 false
  else
   kont1 l1

theorem law40_CouncilVotes_L1_s (n : Nat) (votes1 : (List Vote)) (which1 : Int) (kont1 : (List Vote) → Option Bool) (mx1 : Nat) (c1 : Int) (l1 : List Vote) : law40_CouncilVotes_L1 n votes1 which1 kont1 (mx1 + 1) c1 l1 =
  bif decide (0 ≤ c1) then
   law40_CouncilVotes_L2 n votes1 which1 c1 (fun (found2 : Bool) (f4 : Int) (f5 : Int) (f6 : Bool) =>
    bif found2 then
     (app 24 l1 [(⟨f4, f5, f6⟩ : Vote)]).bind fun l3 =>
     law40_CouncilVotes_L1 n votes1 which1 kont1 mx1 (isub .i64 c1 1) l3
    else
     law40_CouncilVotes_L1 n votes1 which1 kont1 mx1 (isub .i64 c1 1) l1) n false 0 0 0 false
  else
   kont1 l1 := rfl

def law40_CouncilVotes (n : Nat) (weights1 : (List Int)) (votes1 : (List Vote)) (which1 : Int) : Option Bool :=
 (law40_sane n).bind fun v1 =>
 (bif decide (25 < (weights1.length : Int)) then
  some true
 else
  some (decide (60 < (votes1.length : Int)))).bind fun v2 =>
 bif v2 then
  some v1
 else
  law40_CouncilVotes_L1 n votes1 which1 (fun (l2 : List Vote) =>
   (council_Count n weights1 votes1 which1).bind fun v3 =>
   (council_Count n weights1 l2 which1).bind fun v4 =>
   (bif v1 then
    some (v3.1 == v4.1)
   else
    some false).bind fun v5 =>
   (bif v5 then
    some (v3.2 == v4.2)
   else
    some false).bind fun v6 =>
   (bif v6 then
    (council_Passes n weights1 votes1 which1).bind fun v8 =>
    (council_Passes n weights1 l2 which1).bind fun v9 =>
    some (v8 == v9)
   else
    some false).bind fun v7 =>
   some v7) n (isub .i64 (weights1.length : Int) 1) ([] : List Vote)

set_option maxHeartbeats 1000000 in
set_option maxRecDepth 1000000 in
theorem law40_CouncilVotes_ok (n : Nat) (weights1 : (List Int)) (votes1 : (List Vote)) (which1 : Int) (r : Bool) (hm : law40_CouncilVotes n weights1 votes1 which1 = some r) {w : World} {F : Frz} (hs : Sat F w) {as1 : Option Addr} {ns1 : Nat} {cs1 : Nat} {as2 : Option Addr} {ns2 : Nat} {cs2 : Nat} (hs1 : SlR (Rp.int .i64) F as1 ns1 cs1 weights1) (hs2 : SlR rp_Vote F as2 ns2 cs2 votes1) (hg0 : FX F 0 [.int .u8 40, .int .u8 41, .int .u8 44, .int .u8 59, .int .u8 58, .int .u8 61, .int .u8 60, .int .u8 43, .int .u8 45, .int .u8 42, .int .u8 47, .int .u8 123, .int .u8 125]) :
  Calls Tryd.prog 5 #[.slice as1 ns1 cs1, .slice as2 ns2 cs2, .int .i64 which1] w fun e w' => ∃ v F' O', e = .returned v ∧ HS F w [] F' O' w' ∧ (v = .bool r ∧ O' = []) := by
 unfold law40_CouncilVotes at hm
 have h := HS.init hs
 refine calls_of 102 Tryd.func5 rfl rfl rfl ?_
 refine c_seq (c_region (r_assign rfl rfl rfl (r_nil (q_then (c_seq (c_region ?_))))))
 obtain ⟨v1, hv1, hm⟩ := bind_some hm
 refine r_callG0 ent7 rfl rfl rfl rfl h (law40_sane_ok _ _ hv1 h.sat hg0) ?_
 rintro _ Fx1 _ wx1 hF1 hx1 ⟨rfl, rfl⟩
 refine r_assign rfl rfl rfl (r_nil (q_then (c_seq (c_seq (c_region (r_move rfl rfl rfl ?_))))))
 refine r_lenS hs1.len u24 rfl rfl rfl ?_
 refine r_bin rfl rfl rfl rfl rfl ?_
 refine r_move rfl rfl rfl ?_
 obtain ⟨v2, hb1, hm⟩ := bind_some hm
 refine r_mid 4 (fun a w' => wx1 = w' ∧ Has 102 a [(0, .slice as1 ns1 cs1), (1, .slice as2 ns2 cs2), (2, .int .i64 which1), (7, .bool v1), (25, .bool v2)]) ?_ ?_
 ·rintro a wx2 ⟨rfl, hax1⟩
  refine rw_apply hax1 ?_
  refine r_nil (q_then ?_)
  rcases cond_some hm with ⟨hb2, hm⟩ | ⟨hb2, hm⟩
  ·refine c_lit 25 rfl hb2 ?_
   refine c_true rfl (c_seq (c_region (r_move rfl rfl rfl (r_assign rfl rfl rfl (r_nil (q_then (c_ret (q_then_ret ?_))))))))
   refine b_ret1 rfl rfl ?_
   obtain rfl := Option.some.inj hm
   exact ⟨_, _, _, rfl, hx1.pick [] (by decide) rfl, rfl, rfl⟩
  ·refine c_lit 25 rfl hb2 ?_
   refine c_false rfl (c_skip (q_then (c_seq (c_region (r_assign rfl rfl rfl (r_nil (q_then (c_seq (c_seq (c_region (r_move rfl rfl rfl ?_)))))))))))
   refine r_lenS hs1.len u24 rfl rfl rfl ?_
   refine r_bin rfl rfl rfl rfl rfl ?_
   refine r_assign rfl rfl rfl (r_nil (q_then (c_block ?_)))
   have hx2 := hx1.nilRow 53 3
   intro a hax11
   obtain ⟨kont1, hkont1⟩ : ∃ kont1 : (List Vote) → Option Bool, kont1 = (fun (l2 : List Vote) =>
       (council_Count n weights1 votes1 which1).bind fun v3 =>
       (council_Count n weights1 l2 which1).bind fun v4 =>
       (bif v1 then
        some (v3.1 == v4.1)
       else
        some false).bind fun v5 =>
       (bif v5 then
        some (v3.2 == v4.2)
       else
        some false).bind fun v6 =>
       (bif v6 then
        (council_Passes n weights1 votes1 which1).bind fun v8 =>
        (council_Passes n weights1 l2 which1).bind fun v9 =>
        some (v8 == v9)
       else
        some false).bind fun v7 =>
       some v7) := ⟨_, rfl⟩
   replace hm : (fun m (s : Int × List Vote) => law40_CouncilVotes_L1 n votes1 which1 kont1 m s.1 s.2) n ((isub .i64 (weights1.length : Int) 1), ([] : List Vote)) = some r := by rw [hkont1]; exact hm
   refine loopX (id := 0) (fun m (s : Int × List Vote) => law40_CouncilVotes_L1 n votes1 which1 kont1 m s.1 s.2) (fun (y : List Vote) => kont1 y) r (fun (s : Int × List Vote) a w' => ∃ (Fx2 : Frz) (as3 : Option Addr) (ns3 : Nat) (cs3 : Nat) (xss3 : List Value), Frz.le Fx1 Fx2 ∧ HS F w [] Fx2 [.row 53 3 as3 ns3 cs3 xss3] w' ∧ (RowN rp_Vote Fx2 ns3 xss3 s.2) ∧ Has 102 a [(0, .slice as1 ns1 cs1), (1, .slice as2 ns2 cs2), (2, .int .i64 which1), (7, .bool v1), (8, .slice as3 ns3 cs3), (9, .int .i64 s.1)]) (fun (y : List Vote) a w' => ∃ (Fx3 : Frz) (as4 : Option Addr) (ns4 : Nat) (cs4 : Nat) (xss4 : List Value), Frz.le Fx1 Fx3 ∧ HS F w [] Fx3 [.row 53 3 as4 ns4 cs4 xss4] w' ∧ (RowN rp_Vote Fx3 ns4 xss4 y) ∧ Has 102 a [(0, .slice as1 ns1 cs1), (1, .slice as2 ns2 cs2), (2, .int .i64 which1), (7, .bool v1), (8, .slice as4 ns4 cs4)]) (fun _ => rfl) ?_ ?_ hm ⟨_, none, 0, 0, [], Frz.refl _, hx2.pick [0] (by decide) rfl, ((show RowN rp_Vote _ 0 [] [] from ⟨rfl, rfl⟩)), hax11.cut (l := [0, 1, 2, 7, 8, 9]) rfl⟩
   ·clear hm; rintro l2 a wx3 hm ⟨Fx3, as4, ns4, cs4, xss4, hF3, hx4, hs4, hax2⟩
    rw [hkont1] at hm
    replace hm := hm
    refine qw_apply (e := .exit 0) hax2 ?_
    refine q_block_hit (q_then (c_seq (c_region (r_move rfl rfl rfl (r_move rfl rfl rfl (r_move rfl rfl rfl ?_))))))
    obtain ⟨v3, hv2, hm⟩ := bind_some hm
    refine r_callG0 ent16 rfl rfl rfl rfl hx4 (council_Count_ok _ _ _ _ _ hv2 hx4.sat ((hs1.mono hF1).mono hF3) ((hs2.mono hF1).mono hF3)) ?_
    rintro _ Fx4 _ wx4 hF4 hx5 ⟨rfl, rfl⟩
    refine r_move rfl rfl rfl (r_extract rfl rfl rfl rfl (r_extract rfl rfl rfl rfl (r_assign rfl rfl rfl (r_assign rfl rfl rfl (r_nil (q_then (c_seq (c_region (r_move rfl rfl rfl (r_move rfl rfl rfl (r_move rfl rfl rfl ?_)))))))))))
    obtain ⟨Fx5, hF5, hx6, hsx1⟩ := freezeRow hx5 (i := 0) rfl (hs4.mono hF4)
    have hG1 := ((hF1.trans hF3).trans hF4).trans hF5
    obtain ⟨v4, hv3, hm⟩ := bind_some hm
    refine r_callG0 ent16 rfl rfl rfl rfl hx6 (council_Count_ok _ _ _ _ _ hv3 hx6.sat (hs1.mono hG1) hsx1) ?_
    rintro _ Fx6 _ wx5 hF6 hx7 ⟨rfl, rfl⟩
    refine r_move rfl rfl rfl (r_extract rfl rfl rfl rfl (r_extract rfl rfl rfl rfl (r_assign rfl rfl rfl (r_assign rfl rfl rfl (r_nil (q_then (c_seq (c_region (r_move rfl rfl rfl (r_move rfl rfl rfl ?_))))))))))
    obtain ⟨v5, hb3, hm⟩ := bind_some hm
    refine r_mid 4 (fun a w' => wx5 = w' ∧ Has 102 a [(0, .slice as1 ns1 cs1), (1, .slice as2 ns2 cs2), (2, .int .i64 which1), (8, .slice as4 ns4 cs4), (14, .int .i64 v3.2), (16, .int .i64 v4.2), (85, .bool v5)]) ?_ ?_
    ·rintro a wx6 ⟨rfl, hax3⟩
     refine rw_apply hax3 ?_
     refine r_move rfl rfl rfl ?_
     obtain ⟨v6, hb4, hm⟩ := bind_some hm
     refine r_mid 4 (fun a w' => wx5 = w' ∧ Has 102 a [(0, .slice as1 ns1 cs1), (1, .slice as2 ns2 cs2), (2, .int .i64 which1), (8, .slice as4 ns4 cs4), (90, .bool v6)]) ?_ ?_
     ·rintro a wx7 ⟨rfl, hax4⟩
      refine rw_apply hax4 ?_
      refine r_move rfl rfl rfl ?_
      obtain ⟨v7, hb5, hm⟩ := bind_some hm
      refine r_mid 10 (fun a w' => ∃ (Fx7 : Frz), Frz.le Fx6 Fx7 ∧ HS F w [] Fx7 [] w' ∧ Has 102 a [(101, .bool v7)]) ?_ ?_
      ·rintro a wx8 ⟨Fx7, hF7, hx8, hax5⟩
       refine rw_apply hax5 ?_
       refine r_assign rfl rfl rfl (r_nil (q_then (c_ret ?_)))
       refine b_ret1 rfl rfl ?_
       obtain rfl := Option.some.inj hm
       exact ⟨_, _, _, rfl, hx8.pick [] (by decide) rfl, rfl, rfl⟩
      ·clear hm
       rcases cond_some hb5 with ⟨hb6, hb5⟩ | ⟨hb6, hb5⟩
       ·refine r_lit 91 rfl hb6 ?_
        refine r_move rfl rfl rfl (r_move rfl rfl rfl (r_move rfl rfl rfl ?_))
        obtain ⟨v8, hv4, hb5⟩ := bind_some hb5
        refine r_callG0 ent12 rfl rfl rfl rfl hx7 (council_Passes_ok _ _ _ _ _ hv4 hx7.sat ((hs1.mono hG1).mono hF6) ((hs2.mono hG1).mono hF6)) ?_
        rintro _ Fx8 _ wx9 hF8 hx9 ⟨rfl, rfl⟩
        refine r_move rfl rfl rfl (r_move rfl rfl rfl (r_move rfl rfl rfl ?_))
        obtain ⟨v9, hv5, hb5⟩ := bind_some hb5
        refine r_callG0 ent12 rfl rfl rfl rfl hx9 (council_Passes_ok _ _ _ _ _ hv5 hx9.sat (((hs1.mono hG1).mono hF6).mono hF8) ((hsx1.mono hF6).mono hF8)) ?_
        rintro _ Fx9 _ wx10 hF9 hx10 ⟨rfl, rfl⟩
        refine r_beq u4 rfl rfl rfl rfl ?_
        refine r_pick_true rfl rfl rfl rfl (r_nil ?_)
        refine q_next (fun a ha => ?_)
        cases hb5
        exact ⟨_, (hF8.trans hF9), hx10.pick [] (by decide) rfl, ha.cut (l := [101]) rfl⟩
       ·refine r_lit 91 rfl hb6 ?_
        refine r_off rfl (by decide) rfl (r_off rfl (by decide) rfl (r_off rfl (by decide) rfl (r_off rfl (by decide) rfl (r_off rfl (by decide) rfl (r_off rfl (by decide) rfl (r_off rfl (by decide) rfl (r_off rfl (by decide) rfl (r_off rfl (by decide) rfl (r_pick_false rfl rfl rfl rfl (r_nil ?_))))))))))
        refine q_next (fun a ha => ?_)
        cases hb5
        exact ⟨_, Frz.refl _, hx7.pick [] (by decide) rfl, ha.cut (l := [101]) rfl⟩
     ·clear hm
      rcases cond_some hb4 with ⟨hb7, hb4⟩ | ⟨hb7, hb4⟩
      ·refine r_lit 86 rfl hb7 ?_
       refine r_move rfl rfl rfl (r_move rfl rfl rfl ?_)
       refine r_bin rfl rfl rfl rfl rfl ?_
       refine r_pick_true rfl rfl rfl rfl (r_nil ?_)
       refine q_next (fun a ha => ?_)
       cases hb4
       exact ⟨rfl, ha.cut (l := [0, 1, 2, 8, 90]) rfl⟩
      ·refine r_lit 86 rfl hb7 ?_
       refine r_off rfl (by decide) rfl (r_off rfl (by decide) rfl (r_off rfl (by decide) rfl (r_pick_false rfl rfl rfl rfl (r_nil ?_))))
       refine q_next (fun a ha => ?_)
       cases hb4
       exact ⟨rfl, ha.cut (l := [0, 1, 2, 8, 90]) rfl⟩
    ·clear hm
     rcases cond_some hb3 with ⟨hb8, hb3⟩ | ⟨hb8, hb3⟩
     ·refine r_lit 81 rfl hb8 ?_
      refine r_move rfl rfl rfl (r_move rfl rfl rfl ?_)
      refine r_bin rfl rfl rfl rfl rfl ?_
      refine r_pick_true rfl rfl rfl rfl (r_nil ?_)
      refine q_next (fun a ha => ?_)
      cases hb3
      exact ⟨rfl, ha.cut (l := [0, 1, 2, 8, 14, 16, 85]) rfl⟩
     ·refine r_lit 81 rfl hb8 ?_
      refine r_off rfl (by decide) rfl (r_off rfl (by decide) rfl (r_off rfl (by decide) rfl (r_pick_false rfl rfl rfl rfl (r_nil ?_))))
      refine q_next (fun a ha => ?_)
      cases hb3
      exact ⟨rfl, ha.cut (l := [0, 1, 2, 8, 14, 16, 85]) rfl⟩
   ·clear hm hkont1; intro hk1 mx1 K ihx1
    rintro ⟨c1, l1⟩ a wx11 hm ⟨Fx2, as3, ns3, cs3, xss3, hF2, hx3, hs3, hax6⟩
    simp only [law40_CouncilVotes_L1_s] at hm
    refine cw_apply hax6 ?_
    refine c_seq (c_seq (c_region (r_move rfl rfl rfl ?_)))
    refine r_bin rfl rfl rfl rfl rfl ?_
    refine r_nil (q_then ?_)
    rcases cond_some hm with ⟨hb9, hm⟩ | ⟨hb9, hm⟩
    ·refine c_lit 31 rfl hb9 ?_
     refine c_true rfl (c_skip (q_then (c_seq (c_block (c_seq (c_region ?_))))))
     refine r_build (v := .agg #[.int .i64 0, .int .i64 0, .bool false]) rfl rfl rfl (fun _ => by kernel_rfl) ?_
     refine r_alloc ze53 rfl rfl rfl hx3 ?_
     intro b1 wx12 hx11
     refine r_store sz53 rfl hx11 rfl rfl rfl rfl (i := 0) rfl rfl rfl rfl ?_
     intro wx13 hx12
     refine r_nil (q_then (c_seq (c_region (r_assign rfl rfl rfl (r_nil (q_then (c_seq (c_seq (c_region (r_assign rfl rfl rfl (r_nil (q_then (c_block ?_)))))))))))))
     intro a hax10
     obtain ⟨kont2, hkont2⟩ : ∃ kont2 : Bool → Int → Int → Bool → Option Bool, kont2 = (fun (found2 : Bool) (f4 : Int) (f5 : Int) (f6 : Bool) =>
       bif found2 then
        (app 24 l1 [(⟨f4, f5, f6⟩ : Vote)]).bind fun l3 =>
        law40_CouncilVotes_L1 n votes1 which1 kont1 mx1 (isub .i64 c1 1) l3
       else
        law40_CouncilVotes_L1 n votes1 which1 kont1 mx1 (isub .i64 c1 1) l1) := ⟨_, rfl⟩
     replace hm : (fun m (s : Bool × Int × Int × Int × Bool) => law40_CouncilVotes_L2 n votes1 which1 c1 kont2 m s.1 s.2.1 s.2.2.1 s.2.2.2.1 s.2.2.2.2) n (false, 0, 0, 0, false) = some r := by rw [hkont2]; exact hm
     refine loopX (id := 2) (fun m (s : Bool × Int × Int × Int × Bool) => law40_CouncilVotes_L2 n votes1 which1 c1 kont2 m s.1 s.2.1 s.2.2.1 s.2.2.2.1 s.2.2.2.2) (fun (y : Bool × Int × Int × Bool) => kont2 y.1 y.2.1 y.2.2.1 y.2.2.2) r (fun (s : Bool × Int × Int × Int × Bool) a w' => ∃ (Fx10 : Frz), Frz.le Fx2 Fx10 ∧ HS F w [] Fx10 [.box b1 53 [.int .i64 s.2.2.1, .int .i64 s.2.2.2.1, .bool s.2.2.2.2], .row 53 3 as3 ns3 cs3 xss3] w' ∧ Has 102 a [(0, .slice as1 ns1 cs1), (1, .slice as2 ns2 cs2), (2, .int .i64 which1), (7, .bool v1), (8, .slice as3 ns3 cs3), (9, .int .i64 c1), (10, .pointer (some ⟨b1, 0, none⟩)), (11, .bool s.1), (12, .int .i64 s.2.1)]) (fun (y : Bool × Int × Int × Bool) a w' => ∃ (Fx11 : Frz), Frz.le Fx2 Fx11 ∧ HS F w [] Fx11 [.box b1 53 [.int .i64 y.2.1, .int .i64 y.2.2.1, .bool y.2.2.2], .row 53 3 as3 ns3 cs3 xss3] w' ∧ Has 102 a [(0, .slice as1 ns1 cs1), (1, .slice as2 ns2 cs2), (2, .int .i64 which1), (7, .bool v1), (8, .slice as3 ns3 cs3), (9, .int .i64 c1), (10, .pointer (some ⟨b1, 0, none⟩)), (11, .bool y.1)]) (fun _ => rfl) ?_ ?_ hm ⟨_, Frz.refl _, hx12.pick [0, 1] (by decide) rfl, hax10.cut (l := [0, 1, 2, 7, 8, 9, 10, 11, 12]) rfl⟩
     ·clear hm; rintro ⟨found2, f4, f5, f6⟩ a wx14 hm ⟨Fx11, hF11, hx14, hax7⟩
      rw [hkont2] at hm
      replace hm := hm
      refine qw_apply (e := .exit 2) hax7 ?_
      refine q_block_hit (q_then (c_seq (c_region (r_move rfl rfl rfl (r_nil (q_then ?_))))))
      rcases cond_some hm with ⟨hb10, hm⟩ | ⟨hb10, hm⟩
      ·refine c_lit 61 rfl hb10 ?_
       refine c_true rfl (c_region (r_move rfl rfl rfl ?_))
       refine r_loadBW ag53 sz53 rfl rfl hx14 rfl (i := 0) rfl rfl ?_
       refine r_buildSlice (e := 53) (cs := [.int .i64 f4, .int .i64 f5, .bool f6]) (q := 3) rfl rfl hx14 rfl (fun _ => by kernel_rfl) rfl rfl ?_
       intro b2 wx15 hx15
       obtain ⟨l3, hr1, hm⟩ := bind_some hm
       refine r_appendN (r := rp_Vote) ap23 rfl rfl hx15 rfl rfl (i := 2) (j := 0) rfl rfl (hs3.mono hF11) ((show RowN rp_Vote Fx11 1 [.int .i64 f4, .int .i64 f5, .bool f6] [(⟨f4, f5, f6⟩ : Vote)] from ⟨rfl, ⟨_, _, rfl, rfl, (rfl : RowR rp_Vote _ [] [])⟩⟩)) hr1 ?_
       intro as5 cs5 wx16 hx16 hs5
       refine r_assign rfl rfl rfl (r_nil (q_block (q_then (c_region (r_move rfl rfl rfl ?_)))))
       refine r_bin rfl rfl rfl rfl rfl ?_
       refine r_assign rfl rfl rfl (r_nil ?_)
       refine q_next (fun a ha => ihx1 ((isub .i64 c1 1), l3) a _ hm ?_)
       exact ⟨_, as5, (ns3 + 1), cs5, (xss3 ++ [.int .i64 f4, .int .i64 f5, .bool f6]), (hF2.trans hF11), hx16.pick [2] (by decide) rfl, hs5, ha.cut (l := [0, 1, 2, 7, 8, 9]) rfl⟩
      ·refine c_lit 61 rfl hb10 ?_
       refine c_false rfl (c_skip (q_block (q_then (c_region (r_move rfl rfl rfl ?_)))))
       refine r_bin rfl rfl rfl rfl rfl ?_
       refine r_assign rfl rfl rfl (r_nil ?_)
       refine q_next (fun a ha => ihx1 ((isub .i64 c1 1), l1) a _ hm ?_)
       exact ⟨_, as3, ns3, cs3, xss3, (hF2.trans hF11), hx14.pick [1] (by decide) rfl, (hs3.mono hF11), ha.cut (l := [0, 1, 2, 7, 8, 9]) rfl⟩
     ·clear hm hkont2; intro hk2 mx2 K ihx2
      rintro ⟨found1, i1, f1, f2, f3⟩ a wx17 hm ⟨Fx10, hF10, hx13, hax8⟩
      simp only [law40_CouncilVotes_L2_s] at hm
      refine cw_apply hax8 ?_
      refine c_seq (c_seq (c_region (r_move rfl rfl rfl (r_move rfl rfl rfl ?_))))
      refine r_lenS hs2.len u23 rfl rfl rfl ?_
      refine r_bin rfl rfl rfl rfl rfl ?_
      refine r_nil (q_then ?_)
      rcases cond_some hm with ⟨hb11, hm⟩ | ⟨hb11, hm⟩
      ·refine c_lit 38 rfl hb11 ?_
       refine c_true rfl (c_skip (q_then (c_seq (c_block (c_seq (c_region (r_move rfl rfl rfl (r_move rfl rfl rfl ?_))))))))
       obtain ⟨ex1, he1, hm⟩ := bind_some hm
       refine r_findex (r := rp_Vote) u23 sz53 rfl rfl rfl rfl (((hs2.mono hF1).mono hF2).mono hF10) he1 ?_
       intro b3 o1 cs1 hf1 hr2
       have hc1 : cs1 = [.int .i64 ex1.Motion, .int .i64 ex1.Commune, .bool ex1.Yes] := hr2
       subst hc1
       refine r_fieldAddr fa53_0 rfl rfl rfl ?_
       refine r_loadF1 (j := 0) ag3 rfl rfl hx13 hf1 rfl rfl ?_
       refine r_move rfl rfl rfl ?_
       refine r_bin rfl rfl rfl rfl rfl ?_
       refine r_move rfl rfl rfl ?_
       obtain ⟨v10, hb12, hm⟩ := bind_some hm
       refine r_mid 8 (fun a w' => wx17 = w' ∧ Has 102 a [(0, .slice as1 ns1 cs1), (1, .slice as2 ns2 cs2), (2, .int .i64 which1), (7, .bool v1), (8, .slice as3 ns3 cs3), (9, .int .i64 c1), (10, .pointer (some ⟨b1, 0, none⟩)), (11, .bool found1), (12, .int .i64 i1), (56, .bool v10)]) ?_ ?_
       ·rintro a wx18 ⟨rfl, hax9⟩
        refine rw_apply hax9 ?_
        refine r_nil (q_then ?_)
        rcases cond_some hm with ⟨hb13, hm⟩ | ⟨hb13, hm⟩
        ·refine c_lit 56 rfl hb13 ?_
         refine c_true rfl (c_seq (c_region (r_move rfl rfl rfl (r_move rfl rfl rfl ?_))))
         obtain ⟨ex2, he2, hm⟩ := bind_some hm
         refine r_findex (r := rp_Vote) u23 sz53 rfl rfl rfl rfl (((hs2.mono hF1).mono hF2).mono hF10) he2 ?_
         intro b4 o2 cs2 hf2 hr3
         have hc2 : cs2 = [.int .i64 ex2.Motion, .int .i64 ex2.Commune, .bool ex2.Yes] := hr3
         subst hc2
         refine r_loadFW ag53 sz53 rfl rfl hx13 hf2 rfl rfl ?_
         refine r_store sz53 rfl hx13 rfl rfl rfl rfl (i := 0) rfl rfl rfl rfl ?_
         intro wx19 hx17
         refine r_nil (q_then (c_region (r_assign rfl rfl rfl (r_nil (q_block (q_then (c_region (r_move rfl rfl rfl ?_))))))))
         refine r_bin rfl rfl rfl rfl rfl ?_
         refine r_assign rfl rfl rfl (r_nil ?_)
         refine q_next (fun a ha => ihx2 (true, (iadd .i64 i1 1), ex2.Motion, ex2.Commune, ex2.Yes) a _ hm ?_)
         exact ⟨_, hF10, hx17.pick [0, 1] (by decide) rfl, ha.cut (l := [0, 1, 2, 7, 8, 9, 10, 11, 12]) rfl⟩
        ·refine c_lit 56 rfl hb13 ?_
         refine c_false rfl (c_skip (q_block (q_then (c_region (r_move rfl rfl rfl ?_)))))
         refine r_bin rfl rfl rfl rfl rfl ?_
         refine r_assign rfl rfl rfl (r_nil ?_)
         refine q_next (fun a ha => ihx2 (found1, (iadd .i64 i1 1), f1, f2, f3) a _ hm ?_)
         exact ⟨_, hF10, hx13.pick [0, 1] (by decide) rfl, ha.cut (l := [0, 1, 2, 7, 8, 9, 10, 11, 12]) rfl⟩
       ·clear hm
        rcases cond_some hb12 with ⟨hb14, hb12⟩ | ⟨hb14, hb12⟩
        ·refine r_lit 48 rfl hb14 ?_
         refine r_move rfl rfl rfl (r_move rfl rfl rfl ?_)
         obtain ⟨ex3, he3, hb12⟩ := bind_some hb12
         refine r_findex (r := rp_Vote) u23 sz53 rfl rfl rfl rfl (((hs2.mono hF1).mono hF2).mono hF10) he3 ?_
         intro b5 o3 cs3 hf3 hr4
         have hc3 : cs3 = [.int .i64 ex3.Motion, .int .i64 ex3.Commune, .bool ex3.Yes] := hr4
         subst hc3
         refine r_fieldAddr fa53_1 rfl rfl rfl ?_
         refine r_loadF1 (j := 1) ag3 rfl rfl hx13 hf3 rfl rfl ?_
         refine r_move rfl rfl rfl ?_
         refine r_bin rfl rfl rfl rfl rfl ?_
         refine r_pick_true rfl rfl rfl rfl (r_nil ?_)
         refine q_next (fun a ha => ?_)
         cases hb12
         exact ⟨rfl, ha.cut (l := [0, 1, 2, 7, 8, 9, 10, 11, 12, 56]) rfl⟩
        ·refine r_lit 48 rfl hb14 ?_
         refine r_off rfl (by decide) rfl (r_off rfl (by decide) rfl (r_off rfl (by decide) rfl (r_off rfl (by decide) rfl (r_off rfl (by decide) rfl (r_off rfl (by decide) rfl (r_off rfl (by decide) rfl (r_pick_false rfl rfl rfl rfl (r_nil ?_))))))))
         refine q_next (fun a ha => ?_)
         cases hb12
         exact ⟨rfl, ha.cut (l := [0, 1, 2, 7, 8, 9, 10, 11, 12, 56]) rfl⟩
      ·refine c_lit 38 rfl hb11 ?_
       refine c_false rfl (c_exit (q_then_exit (q_then_exit ?_)))
       refine fun a ha => hk2 (found1, f1, f2, f3) a _ hm ?_
       exact ⟨_, hF10, hx13.pick [0, 1] (by decide) rfl, ha.cut (l := [0, 1, 2, 7, 8, 9, 10, 11]) rfl⟩
    ·refine c_lit 31 rfl hb9 ?_
     refine c_false rfl (c_exit (q_then_exit (q_then_exit ?_)))
     refine fun a ha => hk1 l1 a _ hm ?_
     exact ⟨_, as3, ns3, cs3, xss3, hF2, hx3.pick [0] (by decide) rfl, hs3, ha.cut (l := [0, 1, 2, 7, 8]) rfl⟩
 ·clear hm
  rcases cond_some hb1 with ⟨hb15, hb1⟩ | ⟨hb15, hb1⟩
  ·refine r_lit 21 rfl hb15 ?_
   refine r_off rfl (by decide) rfl (r_off rfl (by decide) rfl (r_off rfl (by decide) rfl (r_pick_true rfl rfl rfl rfl (r_nil ?_))))
   refine q_next (fun a ha => ?_)
   cases hb1
   exact ⟨rfl, ha.cut (l := [0, 1, 2, 7, 25]) rfl⟩
  ·refine r_lit 21 rfl hb15 ?_
   refine r_move rfl rfl rfl ?_
   refine r_lenS hs2.len u23 rfl rfl rfl ?_
   refine r_bin rfl rfl rfl rfl rfl ?_
   refine r_pick_false rfl rfl rfl rfl (r_nil ?_)
   refine q_next (fun a ha => ?_)
   cases hb1
   exact ⟨rfl, ha.cut (l := [0, 1, 2, 7, 25]) rfl⟩


end Go.Proofs.YtibkigpmkkkaeaaDoor.M
