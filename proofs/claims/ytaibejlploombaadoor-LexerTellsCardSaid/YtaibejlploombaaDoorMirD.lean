/-
  THE MIRRORS of the lexer's functions, of its reference and of the laws, and that each call returns what its mirror says. Printed by gen.py.
-/
import Derived.Test.YtaibejlploombaaDoorRows
import Derived.Test.YtaibejlploombaaDoorRt6
import Derived.Test.YtaibejlploombaaDoorExt1
import Derived.Test.YtaibejlploombaaDoorMirC
namespace Go.Proofs.YtaibejlploombaaDoor.M
open Go Go.RowKit Rt

def law06_LexerJoins_L1 (n : Nat) (v2 : Bs) (v4 : ((List Token) × Int × Int)) (v5 : ((List Token) × Int × Int)) (v6 : ((List Token) × Int × Int)) (kont1 : Option Bool) : Nat → Int → Option Bool
  | 0, _ => none
  | mx1 + 1, j1 =>
    bif decide (j1 < (v6.1.length : Int)) then
      bif decide (j1 < (v4.1.length : Int)) then
        (ix v4.1 j1).bind fun ex1 =>
        (ix v6.1 j1).bind fun ex2 =>
        bif !(eqb_Token ex2 (⟨ex1.Kind, ex1.Text, ex1.N, ex1.Pos⟩ : Token)) then
          some false
        else
          law06_LexerJoins_L1 n v2 v4 v5 v6 kont1 mx1 (iadd .i64 j1 1)
      else
        (ix v5.1 (isub .i64 j1 (v4.1.length : Int))).bind fun ex3 =>
        (ix v6.1 j1).bind fun ex4 =>
        bif !(eqb_Token ex4 (⟨ex3.Kind, ex3.Text, ex3.N, iadd .i64 (iadd .i64 ex3.Pos (v2.length : Int)) 1⟩ : Token)) then
          some false
        else
          law06_LexerJoins_L1 n v2 v4 v5 v6 kont1 mx1 (iadd .i64 j1 1)
    else
      kont1

theorem law06_LexerJoins_L1_s (n : Nat) (v2 : Bs) (v4 : ((List Token) × Int × Int)) (v5 : ((List Token) × Int × Int)) (v6 : ((List Token) × Int × Int)) (kont1 : Option Bool) (mx1 : Nat) (j1 : Int) : law06_LexerJoins_L1 n v2 v4 v5 v6 kont1 (mx1 + 1) j1 =
    bif decide (j1 < (v6.1.length : Int)) then
      bif decide (j1 < (v4.1.length : Int)) then
        (ix v4.1 j1).bind fun ex1 =>
        (ix v6.1 j1).bind fun ex2 =>
        bif !(eqb_Token ex2 (⟨ex1.Kind, ex1.Text, ex1.N, ex1.Pos⟩ : Token)) then
          some false
        else
          law06_LexerJoins_L1 n v2 v4 v5 v6 kont1 mx1 (iadd .i64 j1 1)
      else
        (ix v5.1 (isub .i64 j1 (v4.1.length : Int))).bind fun ex3 =>
        (ix v6.1 j1).bind fun ex4 =>
        bif !(eqb_Token ex4 (⟨ex3.Kind, ex3.Text, ex3.N, iadd .i64 (iadd .i64 ex3.Pos (v2.length : Int)) 1⟩ : Token)) then
          some false
        else
          law06_LexerJoins_L1 n v2 v4 v5 v6 kont1 mx1 (iadd .i64 j1 1)
    else
      kont1 := rfl

def law06_LexerJoins (n : Nat) (s1 : Bs) (t1 : Bs) : Option Bool :=
  (law06_sane n).bind fun v1 =>
  (law06_cut n s1).bind fun v2 =>
  (law06_cut n t1).bind fun v3 =>
  (lexer_Scan n v2).bind fun v4 =>
  (lexer_Scan n v3).bind fun v5 =>
  (scat v2 [10]).bind fun t2 =>
  (scat t2 v3).bind fun t3 =>
  (lexer_Scan n t3).bind fun v6 =>
  bif v4.2.2 != 0 then
    (bif v1 then
      some (v6.2.2 == v4.2.2)
    else
      some false).bind fun v7 =>
    (bif v7 then
      some (v6.2.1 == v4.2.1)
    else
      some false).bind fun v8 =>
    (bif v8 then
      some ((v6.1.length : Int) == 0)
    else
      some false).bind fun v9 =>
    some v9
  else
    bif v5.2.2 != 0 then
      (bif v1 then
        some (v6.2.2 == v5.2.2)
      else
        some false).bind fun v10 =>
      (bif v10 then
        some (v6.2.1 == (iadd .i64 (iadd .i64 (v2.length : Int) 1) v5.2.1))
      else
        some false).bind fun v11 =>
      (bif v11 then
        some ((v6.1.length : Int) == 0)
      else
        some false).bind fun v12 =>
      some v12
    else
      (bif v6.2.2 != 0 then
        some true
      else
        some ((v6.1.length : Int) != (iadd .i64 (v4.1.length : Int) (v5.1.length : Int)))).bind fun v13 =>
      bif v13 then
        some false
      else
        law06_LexerJoins_L1 n v2 v4 v5 v6 (
          some v1) n 0

set_option maxHeartbeats 1000000 in
set_option maxRecDepth 1000000 in
theorem law06_LexerJoins_ok (n : Nat) (s1 : Bs) (t1 : Bs) (r : Bool) (hm : law06_LexerJoins n s1 t1 = some r) {w : World} {F : Frz} (hs : Sat F w) (hg0 : FC F 0 0 [.int .u8 40, .int .u8 41, .int .u8 44, .int .u8 59, .int .u8 58, .int .u8 61, .int .u8 60, .int .u8 43, .int .u8 45, .int .u8 42, .int .u8 47, .int .u8 123, .int .u8 125]) :
    Calls Tryd.prog 5 #[vs s1, vs t1] w fun e w' => ∃ v F' O', e = .returned v ∧ HS F w [] F' O' w' ∧ (v = .bool r ∧ O' = []) := by
  unfold law06_LexerJoins at hm
  have h := HS.init hs
  refine calls_of (args := [vs s1, vs t1]) 133 Tryd.func5 rfl rfl rfl ?_
  refine c_seq ?_
  refine c_region ?_
  refine r_assign rfl rfl rfl ?_
  refine r_nil ?_
  refine q_then ?_
  refine c_seq ?_
  refine c_region ?_
  obtain ⟨v1, hv1, hm⟩ := bind_some hm
  refine r_callG0 ent9 rfl rfl rfl rfl h (law06_sane_ok _ _ hv1 h.sat hg0) ?_
  rintro _ Fx1 _ wx1 hF1 hx1 ⟨rfl, rfl⟩
  refine r_assign rfl rfl rfl ?_
  refine r_nil ?_
  refine q_then ?_
  refine c_seq ?_
  refine c_region ?_
  refine r_move rfl rfl rfl ?_
  obtain ⟨v2, hv2, hm⟩ := bind_some hm
  refine r_callP0 ent11 rfl rfl rfl rfl (law06_cut_ok _ _ _ hv2) ?_
  refine r_assign rfl rfl rfl ?_
  refine r_nil ?_
  refine q_then ?_
  refine c_seq ?_
  refine c_region ?_
  refine r_move rfl rfl rfl ?_
  obtain ⟨v3, hv3, hm⟩ := bind_some hm
  refine r_callP0 ent11 rfl rfl rfl rfl (law06_cut_ok _ _ _ hv3) ?_
  refine r_assign rfl rfl rfl ?_
  refine r_nil ?_
  refine q_then ?_
  refine c_seq ?_
  refine c_region ?_
  refine r_move rfl rfl rfl ?_
  obtain ⟨v4, hv4, hm⟩ := bind_some hm
  refine r_callG0 ent10 rfl rfl rfl rfl hx1 (lexer_Scan_ok _ _ _ hv4 hx1.sat (hg0.mono hF1)) ?_
  rintro _ Fx2 _ wx2 hF2 hx2 ⟨as2, cs2, rfl, rfl, hs2⟩
  refine r_move rfl rfl rfl ?_
  refine r_extract rfl rfl rfl rfl ?_
  refine r_extract rfl rfl rfl rfl ?_
  refine r_extract rfl rfl rfl rfl ?_
  refine r_assign rfl rfl rfl ?_
  refine r_assign rfl rfl rfl ?_
  refine r_assign rfl rfl rfl ?_
  refine r_nil ?_
  refine q_then ?_
  refine c_seq ?_
  refine c_region ?_
  refine r_move rfl rfl rfl ?_
  obtain ⟨v5, hv5, hm⟩ := bind_some hm
  refine r_callG0 ent10 rfl rfl rfl rfl hx2 (lexer_Scan_ok _ _ _ hv5 hx2.sat ((hg0.mono hF1).mono hF2)) ?_
  rintro _ Fx3 _ wx3 hF3 hx3 ⟨as3, cs3, rfl, rfl, hs3⟩
  refine r_move rfl rfl rfl ?_
  refine r_extract rfl rfl rfl rfl ?_
  refine r_extract rfl rfl rfl rfl ?_
  refine r_extract rfl rfl rfl rfl ?_
  refine r_assign rfl rfl rfl ?_
  refine r_assign rfl rfl rfl ?_
  refine r_assign rfl rfl rfl ?_
  refine r_nil ?_
  refine q_then ?_
  refine c_seq ?_
  refine c_region ?_
  refine r_move rfl rfl rfl ?_
  obtain ⟨t2, hq1, hm⟩ := bind_some hm
  refine r_cat rfl rfl rfl rfl hq1 ?_
  refine r_move rfl rfl rfl ?_
  obtain ⟨t3, hq2, hm⟩ := bind_some hm
  refine r_cat rfl rfl rfl rfl hq2 ?_
  obtain ⟨v6, hv6, hm⟩ := bind_some hm
  refine r_callG0 ent10 rfl rfl rfl rfl hx3 (lexer_Scan_ok _ _ _ hv6 hx3.sat (((hg0.mono hF1).mono hF2).mono hF3)) ?_
  rintro _ Fx4 _ wx4 hF4 hx4 ⟨as4, cs4, rfl, rfl, hs4⟩
  refine r_move rfl rfl rfl ?_
  refine r_extract rfl rfl rfl rfl ?_
  refine r_extract rfl rfl rfl rfl ?_
  refine r_extract rfl rfl rfl rfl ?_
  refine r_assign rfl rfl rfl ?_
  refine r_assign rfl rfl rfl ?_
  refine r_assign rfl rfl rfl ?_
  refine r_nil ?_
  refine q_then ?_
  refine c_seq ?_
  refine c_seq ?_
  refine c_region ?_
  refine r_move rfl rfl rfl ?_
  refine r_bin rfl rfl rfl rfl rfl ?_
  refine r_nil ?_
  refine q_then ?_
  rcases cond_some hm with ⟨hb1, hm⟩ | ⟨hb1, hm⟩
  · refine c_lit 46 rfl hb1 ?_
    refine c_true rfl ?_
    refine c_seq ?_
    refine c_region ?_
    refine r_move rfl rfl rfl ?_
    refine r_move rfl rfl rfl ?_
    obtain ⟨v7, hb2, hm⟩ := bind_some hm
    refine r_mid 4 (fun a w' => wx4 = w' ∧ Has 133 a [(9, .int .i64 v4.2.1), (14, .slice as4 v6.1.length cs4), (15, .int .i64 v6.2.1), (52, .bool v7)]) ?_ ?_
    · rintro a wx5 ⟨rfl, hax1⟩
      refine rw_apply hax1 ?_
      refine r_move rfl rfl rfl ?_
      obtain ⟨v8, hb3, hm⟩ := bind_some hm
      refine r_mid 4 (fun a w' => wx4 = w' ∧ Has 133 a [(14, .slice as4 v6.1.length cs4), (57, .bool v8)]) ?_ ?_
      · rintro a wx6 ⟨rfl, hax2⟩
        refine rw_apply hax2 ?_
        refine r_move rfl rfl rfl ?_
        obtain ⟨v9, hb4, hm⟩ := bind_some hm
        refine r_mid 4 (fun a w' => wx4 = w' ∧ Has 133 a [(62, .bool v9)]) ?_ ?_
        · rintro a wx7 ⟨rfl, hax3⟩
          refine rw_apply hax3 ?_
          refine r_assign rfl rfl rfl ?_
          refine r_nil ?_
          refine q_then ?_
          refine c_ret ?_
          refine q_then_ret ?_
          refine b_ret1 rfl rfl ?_
          obtain rfl := Option.some.inj hm
          exact ⟨_, _, _, rfl, hx4.pick [] (by decide) rfl, rfl, rfl⟩
        · clear hm
          rcases cond_some hb4 with ⟨hb5, hb4⟩ | ⟨hb5, hb4⟩
          · refine r_lit 58 rfl hb5 ?_
            refine r_move rfl rfl rfl ?_
            refine r_lenS u23 rfl rfl rfl ?_
            refine r_bin rfl rfl rfl rfl rfl ?_
            refine r_pick_true rfl rfl rfl rfl ?_
            refine r_nil ?_
            refine q_next (fun a ha => ?_)
            cases hb4
            exact ⟨rfl, ha.cut (l := [62]) rfl⟩
          · refine r_lit 58 rfl hb5 ?_
            refine r_off rfl (by decide) rfl ?_
            refine r_off rfl (by decide) rfl ?_
            refine r_off rfl (by decide) rfl ?_
            refine r_pick_false rfl rfl rfl rfl ?_
            refine r_nil ?_
            refine q_next (fun a ha => ?_)
            cases hb4
            exact ⟨rfl, ha.cut (l := [62]) rfl⟩
      · clear hm
        rcases cond_some hb3 with ⟨hb6, hb3⟩ | ⟨hb6, hb3⟩
        · refine r_lit 53 rfl hb6 ?_
          refine r_move rfl rfl rfl ?_
          refine r_move rfl rfl rfl ?_
          refine r_bin rfl rfl rfl rfl rfl ?_
          refine r_pick_true rfl rfl rfl rfl ?_
          refine r_nil ?_
          refine q_next (fun a ha => ?_)
          cases hb3
          exact ⟨rfl, ha.cut (l := [14, 57]) rfl⟩
        · refine r_lit 53 rfl hb6 ?_
          refine r_off rfl (by decide) rfl ?_
          refine r_off rfl (by decide) rfl ?_
          refine r_off rfl (by decide) rfl ?_
          refine r_pick_false rfl rfl rfl rfl ?_
          refine r_nil ?_
          refine q_next (fun a ha => ?_)
          cases hb3
          exact ⟨rfl, ha.cut (l := [14, 57]) rfl⟩
    · clear hm
      rcases cond_some hb2 with ⟨hb7, hb2⟩ | ⟨hb7, hb2⟩
      · refine r_lit 48 rfl hb7 ?_
        refine r_move rfl rfl rfl ?_
        refine r_move rfl rfl rfl ?_
        refine r_bin rfl rfl rfl rfl rfl ?_
        refine r_pick_true rfl rfl rfl rfl ?_
        refine r_nil ?_
        refine q_next (fun a ha => ?_)
        cases hb2
        exact ⟨rfl, ha.cut (l := [9, 14, 15, 52]) rfl⟩
      · refine r_lit 48 rfl hb7 ?_
        refine r_off rfl (by decide) rfl ?_
        refine r_off rfl (by decide) rfl ?_
        refine r_off rfl (by decide) rfl ?_
        refine r_pick_false rfl rfl rfl rfl ?_
        refine r_nil ?_
        refine q_next (fun a ha => ?_)
        cases hb2
        exact ⟨rfl, ha.cut (l := [9, 14, 15, 52]) rfl⟩
  · refine c_lit 46 rfl hb1 ?_
    refine c_false rfl ?_
    refine c_skip ?_
    refine q_then ?_
    refine c_seq ?_
    refine c_seq ?_
    refine c_region ?_
    refine r_move rfl rfl rfl ?_
    refine r_bin rfl rfl rfl rfl rfl ?_
    refine r_nil ?_
    refine q_then ?_
    rcases cond_some hm with ⟨hb8, hm⟩ | ⟨hb8, hm⟩
    · refine c_lit 64 rfl hb8 ?_
      refine c_true rfl ?_
      refine c_seq ?_
      refine c_region ?_
      refine r_move rfl rfl rfl ?_
      refine r_move rfl rfl rfl ?_
      obtain ⟨v10, hb9, hm⟩ := bind_some hm
      refine r_mid 4 (fun a w' => wx4 = w' ∧ Has 133 a [(6, vs v2), (12, .int .i64 v5.2.1), (14, .slice as4 v6.1.length cs4), (15, .int .i64 v6.2.1), (70, .bool v10)]) ?_ ?_
      · rintro a wx8 ⟨rfl, hax4⟩
        refine rw_apply hax4 ?_
        refine r_move rfl rfl rfl ?_
        obtain ⟨v11, hb10, hm⟩ := bind_some hm
        refine r_mid 8 (fun a w' => wx4 = w' ∧ Has 133 a [(14, .slice as4 v6.1.length cs4), (79, .bool v11)]) ?_ ?_
        · rintro a wx9 ⟨rfl, hax5⟩
          refine rw_apply hax5 ?_
          refine r_move rfl rfl rfl ?_
          obtain ⟨v12, hb11, hm⟩ := bind_some hm
          refine r_mid 4 (fun a w' => wx4 = w' ∧ Has 133 a [(84, .bool v12)]) ?_ ?_
          · rintro a wx10 ⟨rfl, hax6⟩
            refine rw_apply hax6 ?_
            refine r_assign rfl rfl rfl ?_
            refine r_nil ?_
            refine q_then ?_
            refine c_ret ?_
            refine q_then_ret ?_
            refine b_ret1 rfl rfl ?_
            obtain rfl := Option.some.inj hm
            exact ⟨_, _, _, rfl, hx4.pick [] (by decide) rfl, rfl, rfl⟩
          · clear hm
            rcases cond_some hb11 with ⟨hb12, hb11⟩ | ⟨hb12, hb11⟩
            · refine r_lit 80 rfl hb12 ?_
              refine r_move rfl rfl rfl ?_
              refine r_lenS u23 rfl rfl rfl ?_
              refine r_bin rfl rfl rfl rfl rfl ?_
              refine r_pick_true rfl rfl rfl rfl ?_
              refine r_nil ?_
              refine q_next (fun a ha => ?_)
              cases hb11
              exact ⟨rfl, ha.cut (l := [84]) rfl⟩
            · refine r_lit 80 rfl hb12 ?_
              refine r_off rfl (by decide) rfl ?_
              refine r_off rfl (by decide) rfl ?_
              refine r_off rfl (by decide) rfl ?_
              refine r_pick_false rfl rfl rfl rfl ?_
              refine r_nil ?_
              refine q_next (fun a ha => ?_)
              cases hb11
              exact ⟨rfl, ha.cut (l := [84]) rfl⟩
        · clear hm
          rcases cond_some hb10 with ⟨hb13, hb10⟩ | ⟨hb13, hb10⟩
          · refine r_lit 71 rfl hb13 ?_
            refine r_move rfl rfl rfl ?_
            refine r_move rfl rfl rfl ?_
            refine r_slen u9 rfl rfl rfl ?_
            refine r_bin rfl rfl rfl rfl rfl ?_
            refine r_move rfl rfl rfl ?_
            refine r_bin rfl rfl rfl rfl rfl ?_
            refine r_bin rfl rfl rfl rfl rfl ?_
            refine r_pick_true rfl rfl rfl rfl ?_
            refine r_nil ?_
            refine q_next (fun a ha => ?_)
            cases hb10
            exact ⟨rfl, ha.cut (l := [14, 79]) rfl⟩
          · refine r_lit 71 rfl hb13 ?_
            refine r_off rfl (by decide) rfl ?_
            refine r_off rfl (by decide) rfl ?_
            refine r_off rfl (by decide) rfl ?_
            refine r_off rfl (by decide) rfl ?_
            refine r_off rfl (by decide) rfl ?_
            refine r_off rfl (by decide) rfl ?_
            refine r_off rfl (by decide) rfl ?_
            refine r_pick_false rfl rfl rfl rfl ?_
            refine r_nil ?_
            refine q_next (fun a ha => ?_)
            cases hb10
            exact ⟨rfl, ha.cut (l := [14, 79]) rfl⟩
      · clear hm
        rcases cond_some hb9 with ⟨hb14, hb9⟩ | ⟨hb14, hb9⟩
        · refine r_lit 66 rfl hb14 ?_
          refine r_move rfl rfl rfl ?_
          refine r_move rfl rfl rfl ?_
          refine r_bin rfl rfl rfl rfl rfl ?_
          refine r_pick_true rfl rfl rfl rfl ?_
          refine r_nil ?_
          refine q_next (fun a ha => ?_)
          cases hb9
          exact ⟨rfl, ha.cut (l := [6, 12, 14, 15, 70]) rfl⟩
        · refine r_lit 66 rfl hb14 ?_
          refine r_off rfl (by decide) rfl ?_
          refine r_off rfl (by decide) rfl ?_
          refine r_off rfl (by decide) rfl ?_
          refine r_pick_false rfl rfl rfl rfl ?_
          refine r_nil ?_
          refine q_next (fun a ha => ?_)
          cases hb9
          exact ⟨rfl, ha.cut (l := [6, 12, 14, 15, 70]) rfl⟩
    · refine c_lit 64 rfl hb8 ?_
      refine c_false rfl ?_
      refine c_skip ?_
      refine q_then ?_
      refine c_seq ?_
      refine c_seq ?_
      refine c_region ?_
      refine r_move rfl rfl rfl ?_
      refine r_bin rfl rfl rfl rfl rfl ?_
      refine r_move rfl rfl rfl ?_
      obtain ⟨v13, hb15, hm⟩ := bind_some hm
      refine r_mid 9 (fun a w' => wx4 = w' ∧ Has 133 a [(5, .bool v1), (6, vs v2), (8, .slice as2 v4.1.length cs2), (11, .slice as3 v5.1.length cs3), (14, .slice as4 v6.1.length cs4), (96, .bool v13)]) ?_ ?_
      · rintro a wx11 ⟨rfl, hax7⟩
        refine rw_apply hax7 ?_
        refine r_nil ?_
        refine q_then ?_
        rcases cond_some hm with ⟨hb16, hm⟩ | ⟨hb16, hm⟩
        · refine c_lit 96 rfl hb16 ?_
          refine c_true rfl ?_
          refine c_seq ?_
          refine c_region ?_
          refine r_assign rfl rfl rfl ?_
          refine r_nil ?_
          refine q_then ?_
          refine c_ret ?_
          refine q_then_ret ?_
          refine b_ret1 rfl rfl ?_
          obtain rfl := Option.some.inj hm
          exact ⟨_, _, _, rfl, hx4.pick [] (by decide) rfl, rfl, rfl⟩
        · refine c_lit 96 rfl hb16 ?_
          refine c_false rfl ?_
          refine c_skip ?_
          refine q_then ?_
          refine c_seq ?_
          refine c_seq ?_
          refine c_region ?_
          refine r_assign rfl rfl rfl ?_
          refine r_nil ?_
          refine q_then ?_
          refine c_block ?_
          intro a hax10
          obtain ⟨kont1, hkont1⟩ : ∃ kont1 : Option Bool, kont1 = (
              some v1) := ⟨_, rfl⟩
          replace hm : (fun m (s : Int) => law06_LexerJoins_L1 n v2 v4 v5 v6 kont1 m s) n 0 = some r := by rw [hkont1]; exact hm
          refine loopX (id := 0) (fun m (s : Int) => law06_LexerJoins_L1 n v2 v4 v5 v6 kont1 m s) (fun (y : Unit) => kont1) r (fun (s : Int) a w' => ∃ (Fx5 : Frz), Frz.le Fx4 Fx5 ∧ HS F w [] Fx5 [] w' ∧ Has 133 a [(5, .bool v1), (6, vs v2), (8, .slice as2 v4.1.length cs2), (11, .slice as3 v5.1.length cs3), (14, .slice as4 v6.1.length cs4), (17, .int .i64 s)]) (fun (y : Unit) a w' => ∃ (Fx6 : Frz), Frz.le Fx4 Fx6 ∧ HS F w [] Fx6 [] w' ∧ Has 133 a [(5, .bool v1)]) (fun _ => rfl) ?_ ?_ hm ⟨_, Frz.refl _, hx4.pick [] (by decide) rfl, hax10.cut (l := [5, 6, 8, 11, 14, 17]) rfl⟩
          · clear hm; rintro _u a wx12 hm ⟨Fx6, hF6, hx6, hax8⟩
            rw [hkont1] at hm
            refine qw_apply (e := .exit 0) hax8 ?_
            refine q_block_hit ?_
            refine q_then ?_
            refine c_seq ?_
            refine c_region ?_
            refine r_move rfl rfl rfl ?_
            refine r_assign rfl rfl rfl ?_
            refine r_nil ?_
            refine q_then ?_
            refine c_ret ?_
            refine b_ret1 rfl rfl ?_
            obtain rfl := Option.some.inj hm
            exact ⟨_, _, _, rfl, hx6.pick [] (by decide) rfl, rfl, rfl⟩
          · clear hm hkont1; intro hk1 mx1 K ihx1
            rintro j1 a wx13 hm ⟨Fx5, hF5, hx5, hax9⟩
            simp only [law06_LexerJoins_L1_s] at hm
            refine cw_apply hax9 ?_
            refine c_seq ?_
            refine c_seq ?_
            refine c_region ?_
            refine r_move rfl rfl rfl ?_
            refine r_move rfl rfl rfl ?_
            refine r_lenS u23 rfl rfl rfl ?_
            refine r_bin rfl rfl rfl rfl rfl ?_
            refine r_nil ?_
            refine q_then ?_
            rcases cond_some hm with ⟨hb17, hm⟩ | ⟨hb17, hm⟩
            · refine c_lit 100 rfl hb17 ?_
              refine c_true rfl ?_
              refine c_skip ?_
              refine q_then ?_
              refine c_seq ?_
              refine c_block ?_
              refine c_seq ?_
              refine c_region ?_
              refine r_build (v := .agg #[.int .i64 0, vs [], .int .i64 0, .int .i64 0]) rfl rfl rfl (fun _ => by kernel_rfl) ?_
              refine r_alloc ze32 rfl rfl rfl hx5 ?_
              intro b1 wx14 hx7
              refine r_store sz32 rfl hx7 rfl rfl rfl rfl (i := 0) rfl rfl rfl rfl ?_
              intro wx15 hx8
              refine r_nil ?_
              refine q_then ?_
              refine c_seq ?_
              refine c_seq ?_
              refine c_region ?_
              refine r_move rfl rfl rfl ?_
              refine r_move rfl rfl rfl ?_
              refine r_lenS u23 rfl rfl rfl ?_
              refine r_bin rfl rfl rfl rfl rfl ?_
              refine r_nil ?_
              refine q_then ?_
              rcases cond_some hm with ⟨hb18, hm⟩ | ⟨hb18, hm⟩
              · refine c_lit 107 rfl hb18 ?_
                refine c_true rfl ?_
                refine c_region ?_
                refine r_move rfl rfl rfl ?_
                refine r_move rfl rfl rfl ?_
                obtain ⟨ex1, he1, hm⟩ := bind_some hm
                refine r_findex (r := rp_Token) u23 sz32 rfl rfl rfl rfl (((hs2.mono hF3).mono hF4).mono hF5) he1 ?_
                intro b2 o1 cs1 hf1 hr1
                have hc1 : cs1 = [.int .i64 ex1.Kind, vs ex1.Text, .int .i64 ex1.N, .int .i64 ex1.Pos] := hr1
                subst hc1
                refine r_loadFA (j := 0) (cs' := [.int .i64 ex1.Kind, vs ex1.Text, .int .i64 ex1.N, .int .i64 ex1.Pos]) ag32 sz32 rfl rfl hx8 hf1 rfl rfl rfl ?_
                refine r_store sz32 rfl hx8 rfl rfl rfl rfl (i := 0) rfl rfl rfl rfl ?_
                intro wx16 hx9
                refine r_nil ?_
                refine q_then ?_
                refine c_seq ?_
                refine c_regionD (by kernel_rfl) (by kernel_rfl) hx9 ?_
                refine q_step (v := .slice as4 v6.1.length cs4) rfl rfl rfl rfl (fun _ hC => ?_) ?_
                · obtain ⟨_, hleq, hq⟩ := hC
                  refine r_move rfl rfl rfl (r_nil (qq rfl))
                refine q_step (v := .int .i64 j1) rfl rfl rfl rfl (fun _ hC => ?_) ?_
                · obtain ⟨_, hleq, hq⟩ := hC
                  refine r_move rfl rfl rfl (r_nil (qq rfl))
                obtain ⟨ex2, he2, hm⟩ := bind_some hm
                obtain ⟨b3, o2, cs2, hf2, hr2, hrun1⟩ := findex_ex (P := Tryd.prog) (r := rp_Token) u23 sz32 (hs4.mono hF5) he2
                have hc2 : cs2 = [.int .i64 ex2.Kind, vs ex2.Text, .int .i64 ex2.N, .int .i64 ex2.Pos] := hr2
                subst hc2
                refine q_findex rfl rfl rfl rfl hrun1 ?_
                refine q_step (v := .agg #[.int .i64 ex2.Kind, vs ex2.Text, .int .i64 ex2.N, .int .i64 ex2.Pos]) rfl rfl rfl rfl (fun _ hC => ?_) ?_
                · obtain ⟨_, hleq, hq⟩ := hC
                  refine r_loadFA (j := 0) (cs' := [.int .i64 ex2.Kind, vs ex2.Text, .int .i64 ex2.N, .int .i64 ex2.Pos]) ag32 sz32 rfl rfl hq (hf2.mono hleq) rfl rfl rfl (r_nil (qq rfl))
                refine q_step (v := .agg #[.int .i64 ex1.Kind, vs ex1.Text, .int .i64 ex1.N, .int .i64 ex1.Pos]) rfl rfl rfl rfl (fun _ hC => ?_) ?_
                · obtain ⟨_, hleq, hq⟩ := hC
                  refine r_loadBA (cs' := [.int .i64 ex1.Kind, vs ex1.Text, .int .i64 ex1.N, .int .i64 ex1.Pos]) ag32 sz32 rfl rfl hq rfl (i := 0) rfl rfl rfl (r_nil (qq rfl))
                refine q_step (v := .bool (!(eqb_Token ex2 (⟨ex1.Kind, ex1.Text, ex1.N, ex1.Pos⟩ : Token)))) rfl rfl rfl rfl (fun _ hC => ?_) ?_
                · obtain ⟨_, hleq, hq⟩ := hC
                  refine r_aggneq (b := eqb_Token ex2 (⟨ex1.Kind, ex1.Text, ex1.N, ex1.Pos⟩ : Token)) (by kernel_rfl) rfl rfl rfl rfl (fun w => eq_Token ex2 (⟨ex1.Kind, ex1.Text, ex1.N, ex1.Pos⟩ : Token) w) (r_nil (qq rfl))
                refine q_end ?_
                rintro wx17 ⟨Fx7, hF7, hx10⟩
                refine q_then ?_
                rcases cond_some hm with ⟨hb19, hm⟩ | ⟨hb19, hm⟩
                · refine c_lit 131 rfl hb19 ?_
                  refine c_true rfl ?_
                  refine c_seq ?_
                  refine c_region ?_
                  refine r_assign rfl rfl rfl ?_
                  refine r_nil ?_
                  refine q_then ?_
                  refine c_ret ?_
                  refine q_block_ret ?_
                  refine q_then_ret ?_
                  refine q_then_ret ?_
                  refine q_block_ret ?_
                  refine q_then_ret ?_
                  refine b_ret1 rfl rfl ?_
                  obtain rfl := Option.some.inj hm
                  exact ⟨_, _, _, rfl, hx10.pick [] (by decide) rfl, rfl, rfl⟩
                · refine c_lit 131 rfl hb19 ?_
                  refine c_false rfl ?_
                  refine c_skip ?_
                  refine q_block ?_
                  refine q_then ?_
                  refine c_region ?_
                  refine r_move rfl rfl rfl ?_
                  refine r_bin rfl rfl rfl rfl rfl ?_
                  refine r_assign rfl rfl rfl ?_
                  refine r_nil ?_
                  refine q_next (fun a ha => ihx1 (iadd .i64 j1 1) a _ hm ?_)
                  exact ⟨_, (hF5.trans hF7), hx10.pick [] (by decide) rfl, ha.cut (l := [5, 6, 8, 11, 14, 17]) rfl⟩
              · refine c_lit 107 rfl hb18 ?_
                refine c_false rfl ?_
                refine c_seq ?_
                refine c_region ?_
                refine r_move rfl rfl rfl ?_
                refine r_move rfl rfl rfl ?_
                refine r_move rfl rfl rfl ?_
                refine r_lenS u23 rfl rfl rfl ?_
                refine r_bin rfl rfl rfl rfl rfl ?_
                obtain ⟨ex3, he3, hm⟩ := bind_some hm
                refine r_findex (r := rp_Token) u23 sz32 rfl rfl rfl rfl ((hs3.mono hF4).mono hF5) he3 ?_
                intro b4 o3 cs3 hf3 hr3
                have hc3 : cs3 = [.int .i64 ex3.Kind, vs ex3.Text, .int .i64 ex3.N, .int .i64 ex3.Pos] := hr3
                subst hc3
                refine r_loadFA (j := 0) (cs' := [.int .i64 ex3.Kind, vs ex3.Text, .int .i64 ex3.N, .int .i64 ex3.Pos]) ag32 sz32 rfl rfl hx8 hf3 rfl rfl rfl ?_
                refine r_store sz32 rfl hx8 rfl rfl rfl rfl (i := 0) rfl rfl rfl rfl ?_
                intro wx18 hx11
                refine r_nil ?_
                refine q_then ?_
                refine c_region ?_
                refine r_fieldAddr fa32_3 rfl rfl rfl ?_
                refine r_loadB1 ag3 rfl rfl hx11 rfl (i := 0) rfl rfl ?_
                refine r_move rfl rfl rfl ?_
                refine r_slen u9 rfl rfl rfl ?_
                refine r_bin rfl rfl rfl rfl rfl ?_
                refine r_bin rfl rfl rfl rfl rfl ?_
                refine r_fieldAddr fa32_3 rfl rfl rfl ?_
                refine r_store sz3 rfl hx11 rfl rfl rfl rfl (i := 0) rfl rfl rfl rfl ?_
                intro wx19 hx12
                refine r_nil ?_
                refine q_then ?_
                refine c_seq ?_
                refine c_regionD (by kernel_rfl) (by kernel_rfl) hx12 ?_
                refine q_step (v := .slice as4 v6.1.length cs4) rfl rfl rfl rfl (fun _ hC => ?_) ?_
                · obtain ⟨_, hleq, hq⟩ := hC
                  refine r_move rfl rfl rfl (r_nil (qq rfl))
                refine q_step (v := .int .i64 j1) rfl rfl rfl rfl (fun _ hC => ?_) ?_
                · obtain ⟨_, hleq, hq⟩ := hC
                  refine r_move rfl rfl rfl (r_nil (qq rfl))
                obtain ⟨ex4, he4, hm⟩ := bind_some hm
                obtain ⟨b5, o4, cs4, hf4, hr4, hrun2⟩ := findex_ex (P := Tryd.prog) (r := rp_Token) u23 sz32 (hs4.mono hF5) he4
                have hc4 : cs4 = [.int .i64 ex4.Kind, vs ex4.Text, .int .i64 ex4.N, .int .i64 ex4.Pos] := hr4
                subst hc4
                refine q_findex rfl rfl rfl rfl hrun2 ?_
                refine q_step (v := .agg #[.int .i64 ex4.Kind, vs ex4.Text, .int .i64 ex4.N, .int .i64 ex4.Pos]) rfl rfl rfl rfl (fun _ hC => ?_) ?_
                · obtain ⟨_, hleq, hq⟩ := hC
                  refine r_loadFA (j := 0) (cs' := [.int .i64 ex4.Kind, vs ex4.Text, .int .i64 ex4.N, .int .i64 ex4.Pos]) ag32 sz32 rfl rfl hq (hf4.mono hleq) rfl rfl rfl (r_nil (qq rfl))
                refine q_step (v := .agg #[.int .i64 ex3.Kind, vs ex3.Text, .int .i64 ex3.N, .int .i64 (iadd .i64 (iadd .i64 ex3.Pos (v2.length : Int)) 1)]) rfl rfl rfl rfl (fun _ hC => ?_) ?_
                · obtain ⟨_, hleq, hq⟩ := hC
                  refine r_loadBA (cs' := [.int .i64 ex3.Kind, vs ex3.Text, .int .i64 ex3.N, .int .i64 (iadd .i64 (iadd .i64 ex3.Pos (v2.length : Int)) 1)]) ag32 sz32 rfl rfl hq rfl (i := 0) rfl rfl rfl (r_nil (qq rfl))
                refine q_step (v := .bool (!(eqb_Token ex4 (⟨ex3.Kind, ex3.Text, ex3.N, iadd .i64 (iadd .i64 ex3.Pos (v2.length : Int)) 1⟩ : Token)))) rfl rfl rfl rfl (fun _ hC => ?_) ?_
                · obtain ⟨_, hleq, hq⟩ := hC
                  refine r_aggneq (b := eqb_Token ex4 (⟨ex3.Kind, ex3.Text, ex3.N, iadd .i64 (iadd .i64 ex3.Pos (v2.length : Int)) 1⟩ : Token)) (by kernel_rfl) rfl rfl rfl rfl (fun w => eq_Token ex4 (⟨ex3.Kind, ex3.Text, ex3.N, iadd .i64 (iadd .i64 ex3.Pos (v2.length : Int)) 1⟩ : Token) w) (r_nil (qq rfl))
                refine q_end ?_
                rintro wx20 ⟨Fx8, hF8, hx13⟩
                refine q_then ?_
                rcases cond_some hm with ⟨hb20, hm⟩ | ⟨hb20, hm⟩
                · refine c_lit 131 rfl hb20 ?_
                  refine c_true rfl ?_
                  refine c_seq ?_
                  refine c_region ?_
                  refine r_assign rfl rfl rfl ?_
                  refine r_nil ?_
                  refine q_then ?_
                  refine c_ret ?_
                  refine q_block_ret ?_
                  refine q_then_ret ?_
                  refine q_then_ret ?_
                  refine q_block_ret ?_
                  refine q_then_ret ?_
                  refine b_ret1 rfl rfl ?_
                  obtain rfl := Option.some.inj hm
                  exact ⟨_, _, _, rfl, hx13.pick [] (by decide) rfl, rfl, rfl⟩
                · refine c_lit 131 rfl hb20 ?_
                  refine c_false rfl ?_
                  refine c_skip ?_
                  refine q_block ?_
                  refine q_then ?_
                  refine c_region ?_
                  refine r_move rfl rfl rfl ?_
                  refine r_bin rfl rfl rfl rfl rfl ?_
                  refine r_assign rfl rfl rfl ?_
                  refine r_nil ?_
                  refine q_next (fun a ha => ihx1 (iadd .i64 j1 1) a _ hm ?_)
                  exact ⟨_, (hF5.trans hF8), hx13.pick [] (by decide) rfl, ha.cut (l := [5, 6, 8, 11, 14, 17]) rfl⟩
            · refine c_lit 100 rfl hb17 ?_
              refine c_false rfl ?_
              refine c_exit ?_
              refine q_then_exit ?_
              refine q_then_exit ?_
              refine fun a ha => hk1 () a _ hm ?_
              exact ⟨_, hF5, hx5.pick [] (by decide) rfl, ha.cut (l := [5]) rfl⟩
      · clear hm
        rcases cond_some hb15 with ⟨hb21, hb15⟩ | ⟨hb21, hb15⟩
        · refine r_lit 87 rfl hb21 ?_
          refine r_off rfl (by decide) rfl ?_
          refine r_off rfl (by decide) rfl ?_
          refine r_off rfl (by decide) rfl ?_
          refine r_off rfl (by decide) rfl ?_
          refine r_off rfl (by decide) rfl ?_
          refine r_off rfl (by decide) rfl ?_
          refine r_off rfl (by decide) rfl ?_
          refine r_off rfl (by decide) rfl ?_
          refine r_pick_true rfl rfl rfl rfl ?_
          refine r_nil ?_
          refine q_next (fun a ha => ?_)
          cases hb15
          exact ⟨rfl, ha.cut (l := [5, 6, 8, 11, 14, 96]) rfl⟩
        · refine r_lit 87 rfl hb21 ?_
          refine r_move rfl rfl rfl ?_
          refine r_lenS u23 rfl rfl rfl ?_
          refine r_move rfl rfl rfl ?_
          refine r_lenS u23 rfl rfl rfl ?_
          refine r_move rfl rfl rfl ?_
          refine r_lenS u23 rfl rfl rfl ?_
          refine r_bin rfl rfl rfl rfl rfl ?_
          refine r_bin rfl rfl rfl rfl rfl ?_
          refine r_pick_false rfl rfl rfl rfl ?_
          refine r_nil ?_
          refine q_next (fun a ha => ?_)
          cases hb15
          exact ⟨rfl, ha.cut (l := [5, 6, 8, 11, 14, 96]) rfl⟩


theorem ent16 : Ent Tryd.prog 16 := fun _ _ => by kernel_rfl

theorem ent19 : Ent Tryd.prog 19 := fun _ _ => by kernel_rfl

theorem ent20 : Ent Tryd.prog 20 := fun _ _ => by kernel_rfl

theorem ent24 : Ent Tryd.prog 24 := fun _ _ => by kernel_rfl

theorem u4 : Tryd.prog.underlying 4 = some .bool := by kernel_rfl

def law06_LexerTells_L1 (n : Nat) (l1 : (List Token)) (v1 : Bool) (kont1 : Option Bool) : Nat → Int → Option Bool
  | 0, _ => none
  | mx1 + 1, i1 =>
    bif decide (i1 < (l1.length : Int)) then
      (ix l1 i1).bind fun ex1 =>
      bif decide (100 < (ex1.Text.length : Int)) then
        some v1
      else
        law06_LexerTells_L1 n l1 v1 kont1 mx1 (iadd .i64 i1 1)
    else
      kont1

theorem law06_LexerTells_L1_s (n : Nat) (l1 : (List Token)) (v1 : Bool) (kont1 : Option Bool) (mx1 : Nat) (i1 : Int) : law06_LexerTells_L1 n l1 v1 kont1 (mx1 + 1) i1 =
    bif decide (i1 < (l1.length : Int)) then
      (ix l1 i1).bind fun ex1 =>
      bif decide (100 < (ex1.Text.length : Int)) then
        some v1
      else
        law06_LexerTells_L1 n l1 v1 kont1 mx1 (iadd .i64 i1 1)
    else
      kont1 := rfl

def law06_LexerTells (n : Nat) (s1 : Bs) (l1 : (List Token)) : Option Bool :=
  (law06_sane n).bind fun v1 =>
  bif decide (100 < (l1.length : Int)) then
    some v1
  else
    law06_LexerTells_L1 n l1 v1 (
      (law06_cut n s1).bind fun v2 =>
      (lexer_Scan n v2).bind fun v3 =>
      (ref06_Scan n v2).bind fun v4 =>
      (lexer_Number n v2).bind fun v5 =>
      (ref06_Number n v2).bind fun v6 =>
      (lexer_Quote n v2).bind fun v7 =>
      (ref06_Quote n v2).bind fun v8 =>
      (bif v1 then
        (ref06_Same n v3.1 v4.1).bind fun v22 =>
        some v22
      else
        some false).bind fun v9 =>
      (bif v9 then
        some (v3.2.1 == v4.2.1)
      else
        some false).bind fun v10 =>
      (bif v10 then
        some (v3.2.2 == v4.2.2)
      else
        some false).bind fun v11 =>
      (bif v11 then
        some (v5.1 == v6.1)
      else
        some false).bind fun v12 =>
      (bif v12 then
        some (v5.2 == v6.2)
      else
        some false).bind fun v13 =>
      (bif v13 then
        some (v7.1 == v8.1)
      else
        some false).bind fun v14 =>
      (bif v14 then
        some (v7.2 == v8.2)
      else
        some false).bind fun v15 =>
      (bif v15 then
        (lexer_Name n v2).bind fun v20 =>
        (ref06_Name n v2).bind fun v21 =>
        some (v20 == v21)
      else
        some false).bind fun v16 =>
      (bif v16 then
        (lexer_Print n l1).bind fun v18 =>
        (ref06_Print n l1).bind fun v19 =>
        some (v18 == v19)
      else
        some false).bind fun v17 =>
      some v17) n 0

set_option maxHeartbeats 1000000 in
set_option maxRecDepth 1000000 in
theorem law06_LexerTells_ok (n : Nat) (s1 : Bs) (l1 : (List Token)) (r : Bool) (hm : law06_LexerTells n s1 l1 = some r) {w : World} {F : Frz} (hs : Sat F w) {as2 : Option Addr} {cs2 : Nat} (hs2 : SlR rp_Token F as2 cs2 l1) (hg0 : FC F 0 0 [.int .u8 40, .int .u8 41, .int .u8 44, .int .u8 59, .int .u8 58, .int .u8 61, .int .u8 60, .int .u8 43, .int .u8 45, .int .u8 42, .int .u8 47, .int .u8 123, .int .u8 125]) :
    Calls Tryd.prog 7 #[vs s1, .slice as2 l1.length cs2] w fun e w' => ∃ v F' O', e = .returned v ∧ HS F w [] F' O' w' ∧ (v = .bool r ∧ O' = []) := by
  unfold law06_LexerTells at hm
  have h := HS.init hs
  refine calls_of (args := [vs s1, .slice as2 l1.length cs2]) 125 Tryd.func7 rfl rfl rfl ?_
  refine c_seq ?_
  refine c_region ?_
  refine r_assign rfl rfl rfl ?_
  refine r_nil ?_
  refine q_then ?_
  refine c_seq ?_
  refine c_region ?_
  obtain ⟨v1, hv1, hm⟩ := bind_some hm
  refine r_callG0 ent9 rfl rfl rfl rfl h (law06_sane_ok _ _ hv1 h.sat hg0) ?_
  rintro _ Fx1 _ wx1 hF1 hx1 ⟨rfl, rfl⟩
  refine r_assign rfl rfl rfl ?_
  refine r_nil ?_
  refine q_then ?_
  refine c_seq ?_
  refine c_seq ?_
  refine c_region ?_
  refine r_move rfl rfl rfl ?_
  refine r_lenS u23 rfl rfl rfl ?_
  refine r_bin rfl rfl rfl rfl rfl ?_
  refine r_nil ?_
  refine q_then ?_
  rcases cond_some hm with ⟨hb1, hm⟩ | ⟨hb1, hm⟩
  · refine c_lit 25 rfl hb1 ?_
    refine c_true rfl ?_
    refine c_seq ?_
    refine c_region ?_
    refine r_move rfl rfl rfl ?_
    refine r_assign rfl rfl rfl ?_
    refine r_nil ?_
    refine q_then ?_
    refine c_ret ?_
    refine q_then_ret ?_
    refine b_ret1 rfl rfl ?_
    obtain rfl := Option.some.inj hm
    exact ⟨_, _, _, rfl, hx1.pick [] (by decide) rfl, rfl, rfl⟩
  · refine c_lit 25 rfl hb1 ?_
    refine c_false rfl ?_
    refine c_skip ?_
    refine q_then ?_
    refine c_seq ?_
    refine c_seq ?_
    refine c_region ?_
    refine r_assign rfl rfl rfl ?_
    refine r_nil ?_
    refine q_then ?_
    refine c_block ?_
    intro a hax12
    obtain ⟨kont1, hkont1⟩ : ∃ kont1 : Option Bool, kont1 = (
              (law06_cut n s1).bind fun v2 =>
              (lexer_Scan n v2).bind fun v3 =>
              (ref06_Scan n v2).bind fun v4 =>
              (lexer_Number n v2).bind fun v5 =>
              (ref06_Number n v2).bind fun v6 =>
              (lexer_Quote n v2).bind fun v7 =>
              (ref06_Quote n v2).bind fun v8 =>
              (bif v1 then
                (ref06_Same n v3.1 v4.1).bind fun v22 =>
                some v22
              else
                some false).bind fun v9 =>
              (bif v9 then
                some (v3.2.1 == v4.2.1)
              else
                some false).bind fun v10 =>
              (bif v10 then
                some (v3.2.2 == v4.2.2)
              else
                some false).bind fun v11 =>
              (bif v11 then
                some (v5.1 == v6.1)
              else
                some false).bind fun v12 =>
              (bif v12 then
                some (v5.2 == v6.2)
              else
                some false).bind fun v13 =>
              (bif v13 then
                some (v7.1 == v8.1)
              else
                some false).bind fun v14 =>
              (bif v14 then
                some (v7.2 == v8.2)
              else
                some false).bind fun v15 =>
              (bif v15 then
                (lexer_Name n v2).bind fun v20 =>
                (ref06_Name n v2).bind fun v21 =>
                some (v20 == v21)
              else
                some false).bind fun v16 =>
              (bif v16 then
                (lexer_Print n l1).bind fun v18 =>
                (ref06_Print n l1).bind fun v19 =>
                some (v18 == v19)
              else
                some false).bind fun v17 =>
              some v17) := ⟨_, rfl⟩
    replace hm : (fun m (s : Int) => law06_LexerTells_L1 n l1 v1 kont1 m s) n 0 = some r := by rw [hkont1]; exact hm
    refine loopX (id := 0) (fun m (s : Int) => law06_LexerTells_L1 n l1 v1 kont1 m s) (fun (y : Unit) => kont1) r (fun (s : Int) a w' => wx1 = w' ∧ Has 125 a [(0, vs s1), (1, .slice as2 l1.length cs2), (5, .bool v1), (6, .int .i64 s)]) (fun (y : Unit) a w' => wx1 = w' ∧ Has 125 a [(0, vs s1), (1, .slice as2 l1.length cs2), (5, .bool v1)]) (fun _ => rfl) ?_ ?_ hm ⟨rfl, hax12.cut (l := [0, 1, 5, 6]) rfl⟩
    · clear hm; rintro _u a wx2 hm ⟨rfl, hax1⟩
      rw [hkont1] at hm
      refine qw_apply (e := .exit 0) hax1 ?_
      refine q_block_hit ?_
      refine q_then ?_
      refine c_seq ?_
      refine c_region ?_
      refine r_move rfl rfl rfl ?_
      obtain ⟨v2, hv2, hm⟩ := bind_some hm
      refine r_callP0 ent11 rfl rfl rfl rfl (law06_cut_ok _ _ _ hv2) ?_
      refine r_assign rfl rfl rfl ?_
      refine r_nil ?_
      refine q_then ?_
      refine c_seq ?_
      refine c_region ?_
      refine r_move rfl rfl rfl ?_
      obtain ⟨v3, hv3, hm⟩ := bind_some hm
      refine r_callG0 ent10 rfl rfl rfl rfl hx1 (lexer_Scan_ok _ _ _ hv3 hx1.sat (hg0.mono hF1)) ?_
      rintro _ Fx2 _ wx3 hF2 hx2 ⟨as3, cs3, rfl, rfl, hs3⟩
      refine r_move rfl rfl rfl ?_
      refine r_extract rfl rfl rfl rfl ?_
      refine r_extract rfl rfl rfl rfl ?_
      refine r_extract rfl rfl rfl rfl ?_
      refine r_assign rfl rfl rfl ?_
      refine r_assign rfl rfl rfl ?_
      refine r_assign rfl rfl rfl ?_
      refine r_nil ?_
      refine q_then ?_
      refine c_seq ?_
      refine c_region ?_
      refine r_move rfl rfl rfl ?_
      obtain ⟨v4, hv4, hm⟩ := bind_some hm
      refine r_callG0 ent16 rfl rfl rfl rfl hx2 (ref06_Scan_ok _ _ _ hv4 hx2.sat) ?_
      rintro _ Fx3 _ wx4 hF3 hx3 ⟨as4, cs4, rfl, rfl, hs4⟩
      refine r_move rfl rfl rfl ?_
      refine r_extract rfl rfl rfl rfl ?_
      refine r_extract rfl rfl rfl rfl ?_
      refine r_extract rfl rfl rfl rfl ?_
      refine r_assign rfl rfl rfl ?_
      refine r_assign rfl rfl rfl ?_
      refine r_assign rfl rfl rfl ?_
      refine r_nil ?_
      refine q_then ?_
      refine c_seq ?_
      refine c_region ?_
      refine r_move rfl rfl rfl ?_
      obtain ⟨v5, hv5, hm⟩ := bind_some hm
      refine r_callP0 ent17 rfl rfl rfl rfl (lexer_Number_ok _ _ _ hv5) ?_
      refine r_move rfl rfl rfl ?_
      refine r_extract rfl rfl rfl rfl ?_
      refine r_extract rfl rfl rfl rfl ?_
      refine r_assign rfl rfl rfl ?_
      refine r_assign rfl rfl rfl ?_
      refine r_nil ?_
      refine q_then ?_
      refine c_seq ?_
      refine c_region ?_
      refine r_move rfl rfl rfl ?_
      obtain ⟨v6, hv6, hm⟩ := bind_some hm
      refine r_callP0 ent18 rfl rfl rfl rfl (ref06_Number_ok _ _ _ hv6) ?_
      refine r_move rfl rfl rfl ?_
      refine r_extract rfl rfl rfl rfl ?_
      refine r_extract rfl rfl rfl rfl ?_
      refine r_assign rfl rfl rfl ?_
      refine r_assign rfl rfl rfl ?_
      refine r_nil ?_
      refine q_then ?_
      refine c_seq ?_
      refine c_region ?_
      refine r_move rfl rfl rfl ?_
      obtain ⟨v7, hv7, hm⟩ := bind_some hm
      refine r_callG0 ent19 rfl rfl rfl rfl hx3 (lexer_Quote_ok _ _ _ hv7 hx3.sat) ?_
      rintro _ Fx4 _ wx5 hF4 hx4 ⟨rfl, rfl⟩
      refine r_move rfl rfl rfl ?_
      refine r_extract rfl rfl rfl rfl ?_
      refine r_extract rfl rfl rfl rfl ?_
      refine r_assign rfl rfl rfl ?_
      refine r_assign rfl rfl rfl ?_
      refine r_nil ?_
      refine q_then ?_
      refine c_seq ?_
      refine c_region ?_
      refine r_move rfl rfl rfl ?_
      obtain ⟨v8, hv8, hm⟩ := bind_some hm
      refine r_callP0 ent20 rfl rfl rfl rfl (ref06_Quote_ok _ _ _ hv8) ?_
      refine r_move rfl rfl rfl ?_
      refine r_extract rfl rfl rfl rfl ?_
      refine r_extract rfl rfl rfl rfl ?_
      refine r_assign rfl rfl rfl ?_
      refine r_assign rfl rfl rfl ?_
      refine r_nil ?_
      refine q_then ?_
      refine c_seq ?_
      refine c_region ?_
      refine r_move rfl rfl rfl ?_
      refine r_move rfl rfl rfl ?_
      obtain ⟨v9, hb2, hm⟩ := bind_some hm
      refine r_mid 4 (fun a w' => ∃ Fx5 : Frz, Frz.le Fx4 Fx5 ∧ HS F w [] Fx5 [] w' ∧ Has 125 a [(1, .slice as2 l1.length cs2), (7, vs v2), (9, .int .i64 v3.2.1), (10, .int .i64 v3.2.2), (12, .int .i64 v4.2.1), (13, .int .i64 v4.2.2), (14, .int .i64 v5.1), (15, .bool v5.2), (16, .int .i64 v6.1), (17, .bool v6.2), (18, vs v7.1), (19, .bool v7.2), (20, vs v8.1), (21, .bool v8.2), (80, .bool v9)]) ?_ ?_
      · rintro a wx6 ⟨Fx5, hF5, hx5, hax2⟩
        refine rw_apply hax2 ?_
        refine r_move rfl rfl rfl ?_
        obtain ⟨v10, hb3, hm⟩ := bind_some hm
        refine r_mid 4 (fun a w' => wx6 = w' ∧ Has 125 a [(1, .slice as2 l1.length cs2), (7, vs v2), (10, .int .i64 v3.2.2), (13, .int .i64 v4.2.2), (14, .int .i64 v5.1), (15, .bool v5.2), (16, .int .i64 v6.1), (17, .bool v6.2), (18, vs v7.1), (19, .bool v7.2), (20, vs v8.1), (21, .bool v8.2), (85, .bool v10)]) ?_ ?_
        · rintro a wx7 ⟨rfl, hax3⟩
          refine rw_apply hax3 ?_
          refine r_move rfl rfl rfl ?_
          obtain ⟨v11, hb4, hm⟩ := bind_some hm
          refine r_mid 4 (fun a w' => wx6 = w' ∧ Has 125 a [(1, .slice as2 l1.length cs2), (7, vs v2), (14, .int .i64 v5.1), (15, .bool v5.2), (16, .int .i64 v6.1), (17, .bool v6.2), (18, vs v7.1), (19, .bool v7.2), (20, vs v8.1), (21, .bool v8.2), (90, .bool v11)]) ?_ ?_
          · rintro a wx8 ⟨rfl, hax4⟩
            refine rw_apply hax4 ?_
            refine r_move rfl rfl rfl ?_
            obtain ⟨v12, hb5, hm⟩ := bind_some hm
            refine r_mid 4 (fun a w' => wx6 = w' ∧ Has 125 a [(1, .slice as2 l1.length cs2), (7, vs v2), (15, .bool v5.2), (17, .bool v6.2), (18, vs v7.1), (19, .bool v7.2), (20, vs v8.1), (21, .bool v8.2), (95, .bool v12)]) ?_ ?_
            · rintro a wx9 ⟨rfl, hax5⟩
              refine rw_apply hax5 ?_
              refine r_move rfl rfl rfl ?_
              obtain ⟨v13, hb6, hm⟩ := bind_some hm
              refine r_mid 4 (fun a w' => wx6 = w' ∧ Has 125 a [(1, .slice as2 l1.length cs2), (7, vs v2), (18, vs v7.1), (19, .bool v7.2), (20, vs v8.1), (21, .bool v8.2), (100, .bool v13)]) ?_ ?_
              · rintro a wx10 ⟨rfl, hax6⟩
                refine rw_apply hax6 ?_
                refine r_move rfl rfl rfl ?_
                obtain ⟨v14, hb7, hm⟩ := bind_some hm
                refine r_mid 4 (fun a w' => wx6 = w' ∧ Has 125 a [(1, .slice as2 l1.length cs2), (7, vs v2), (19, .bool v7.2), (21, .bool v8.2), (105, .bool v14)]) ?_ ?_
                · rintro a wx11 ⟨rfl, hax7⟩
                  refine rw_apply hax7 ?_
                  refine r_move rfl rfl rfl ?_
                  obtain ⟨v15, hb8, hm⟩ := bind_some hm
                  refine r_mid 4 (fun a w' => wx6 = w' ∧ Has 125 a [(1, .slice as2 l1.length cs2), (7, vs v2), (110, .bool v15)]) ?_ ?_
                  · rintro a wx12 ⟨rfl, hax8⟩
                    refine rw_apply hax8 ?_
                    refine r_move rfl rfl rfl ?_
                    obtain ⟨v16, hb9, hm⟩ := bind_some hm
                    refine r_mid 6 (fun a w' => wx6 = w' ∧ Has 125 a [(1, .slice as2 l1.length cs2), (117, .bool v16)]) ?_ ?_
                    · rintro a wx13 ⟨rfl, hax9⟩
                      refine rw_apply hax9 ?_
                      refine r_move rfl rfl rfl ?_
                      obtain ⟨v17, hb10, hm⟩ := bind_some hm
                      refine r_mid 6 (fun a w' => ∃ Fx6 : Frz, Frz.le Fx5 Fx6 ∧ HS F w [] Fx6 [] w' ∧ Has 125 a [(124, .bool v17)]) ?_ ?_
                      · rintro a wx14 ⟨Fx6, hF6, hx6, hax10⟩
                        refine rw_apply hax10 ?_
                        refine r_assign rfl rfl rfl ?_
                        refine r_nil ?_
                        refine q_then ?_
                        refine c_ret ?_
                        refine b_ret1 rfl rfl ?_
                        obtain rfl := Option.some.inj hm
                        exact ⟨_, _, _, rfl, hx6.pick [] (by decide) rfl, rfl, rfl⟩
                      · clear hm
                        rcases cond_some hb10 with ⟨hb11, hb10⟩ | ⟨hb11, hb10⟩
                        · refine r_lit 118 rfl hb11 ?_
                          refine r_move rfl rfl rfl ?_
                          obtain ⟨v18, hv9, hb10⟩ := bind_some hb10
                          refine r_callG0 ent12 rfl rfl rfl rfl hx5 (lexer_Print_ok _ _ _ hv9 hx5.sat (((((hs2.mono hF1).mono hF2).mono hF3).mono hF4).mono hF5)) ?_
                          rintro _ Fx7 _ wx15 hF7 hx7 ⟨rfl, rfl⟩
                          refine r_move rfl rfl rfl ?_
                          obtain ⟨v19, hv10, hb10⟩ := bind_some hb10
                          refine r_callP0 ent24 rfl rfl rfl rfl (ref06_Print_ok _ _ _ hv10 hx7.sat ((((((hs2.mono hF1).mono hF2).mono hF3).mono hF4).mono hF5).mono hF7)) ?_
                          refine r_str rfl rfl rfl rfl rfl ?_
                          refine r_pick_true rfl rfl rfl rfl ?_
                          refine r_nil ?_
                          refine q_next (fun a ha => ?_)
                          cases hb10
                          exact ⟨_, hF7, hx7.pick [] (by decide) rfl, ha.cut (l := [124]) rfl⟩
                        · refine r_lit 118 rfl hb11 ?_
                          refine r_off rfl (by decide) rfl ?_
                          refine r_off rfl (by decide) rfl ?_
                          refine r_off rfl (by decide) rfl ?_
                          refine r_off rfl (by decide) rfl ?_
                          refine r_off rfl (by decide) rfl ?_
                          refine r_pick_false rfl rfl rfl rfl ?_
                          refine r_nil ?_
                          refine q_next (fun a ha => ?_)
                          cases hb10
                          exact ⟨_, Frz.refl _, hx5.pick [] (by decide) rfl, ha.cut (l := [124]) rfl⟩
                    · clear hm
                      rcases cond_some hb9 with ⟨hb12, hb9⟩ | ⟨hb12, hb9⟩
                      · refine r_lit 111 rfl hb12 ?_
                        refine r_move rfl rfl rfl ?_
                        obtain ⟨v20, hv11, hb9⟩ := bind_some hb9
                        refine r_callP0 ent22 rfl rfl rfl rfl (lexer_Name_ok _ _ _ hv11) ?_
                        refine r_move rfl rfl rfl ?_
                        obtain ⟨v21, hv12, hb9⟩ := bind_some hb9
                        refine r_callP0 ent23 rfl rfl rfl rfl (ref06_Name_ok _ _ _ hv12) ?_
                        refine r_beq u4 rfl rfl rfl rfl ?_
                        refine r_pick_true rfl rfl rfl rfl ?_
                        refine r_nil ?_
                        refine q_next (fun a ha => ?_)
                        cases hb9
                        exact ⟨rfl, ha.cut (l := [1, 117]) rfl⟩
                      · refine r_lit 111 rfl hb12 ?_
                        refine r_off rfl (by decide) rfl ?_
                        refine r_off rfl (by decide) rfl ?_
                        refine r_off rfl (by decide) rfl ?_
                        refine r_off rfl (by decide) rfl ?_
                        refine r_off rfl (by decide) rfl ?_
                        refine r_pick_false rfl rfl rfl rfl ?_
                        refine r_nil ?_
                        refine q_next (fun a ha => ?_)
                        cases hb9
                        exact ⟨rfl, ha.cut (l := [1, 117]) rfl⟩
                  · clear hm
                    rcases cond_some hb8 with ⟨hb13, hb8⟩ | ⟨hb13, hb8⟩
                    · refine r_lit 106 rfl hb13 ?_
                      refine r_move rfl rfl rfl ?_
                      refine r_move rfl rfl rfl ?_
                      refine r_beq u4 rfl rfl rfl rfl ?_
                      refine r_pick_true rfl rfl rfl rfl ?_
                      refine r_nil ?_
                      refine q_next (fun a ha => ?_)
                      cases hb8
                      exact ⟨rfl, ha.cut (l := [1, 7, 110]) rfl⟩
                    · refine r_lit 106 rfl hb13 ?_
                      refine r_off rfl (by decide) rfl ?_
                      refine r_off rfl (by decide) rfl ?_
                      refine r_off rfl (by decide) rfl ?_
                      refine r_pick_false rfl rfl rfl rfl ?_
                      refine r_nil ?_
                      refine q_next (fun a ha => ?_)
                      cases hb8
                      exact ⟨rfl, ha.cut (l := [1, 7, 110]) rfl⟩
                · clear hm
                  rcases cond_some hb7 with ⟨hb14, hb7⟩ | ⟨hb14, hb7⟩
                  · refine r_lit 101 rfl hb14 ?_
                    refine r_move rfl rfl rfl ?_
                    refine r_move rfl rfl rfl ?_
                    refine r_str rfl rfl rfl rfl rfl ?_
                    refine r_pick_true rfl rfl rfl rfl ?_
                    refine r_nil ?_
                    refine q_next (fun a ha => ?_)
                    cases hb7
                    exact ⟨rfl, ha.cut (l := [1, 7, 19, 21, 105]) rfl⟩
                  · refine r_lit 101 rfl hb14 ?_
                    refine r_off rfl (by decide) rfl ?_
                    refine r_off rfl (by decide) rfl ?_
                    refine r_off rfl (by decide) rfl ?_
                    refine r_pick_false rfl rfl rfl rfl ?_
                    refine r_nil ?_
                    refine q_next (fun a ha => ?_)
                    cases hb7
                    exact ⟨rfl, ha.cut (l := [1, 7, 19, 21, 105]) rfl⟩
              · clear hm
                rcases cond_some hb6 with ⟨hb15, hb6⟩ | ⟨hb15, hb6⟩
                · refine r_lit 96 rfl hb15 ?_
                  refine r_move rfl rfl rfl ?_
                  refine r_move rfl rfl rfl ?_
                  refine r_beq u4 rfl rfl rfl rfl ?_
                  refine r_pick_true rfl rfl rfl rfl ?_
                  refine r_nil ?_
                  refine q_next (fun a ha => ?_)
                  cases hb6
                  exact ⟨rfl, ha.cut (l := [1, 7, 18, 19, 20, 21, 100]) rfl⟩
                · refine r_lit 96 rfl hb15 ?_
                  refine r_off rfl (by decide) rfl ?_
                  refine r_off rfl (by decide) rfl ?_
                  refine r_off rfl (by decide) rfl ?_
                  refine r_pick_false rfl rfl rfl rfl ?_
                  refine r_nil ?_
                  refine q_next (fun a ha => ?_)
                  cases hb6
                  exact ⟨rfl, ha.cut (l := [1, 7, 18, 19, 20, 21, 100]) rfl⟩
            · clear hm
              rcases cond_some hb5 with ⟨hb16, hb5⟩ | ⟨hb16, hb5⟩
              · refine r_lit 91 rfl hb16 ?_
                refine r_move rfl rfl rfl ?_
                refine r_move rfl rfl rfl ?_
                refine r_bin rfl rfl rfl rfl rfl ?_
                refine r_pick_true rfl rfl rfl rfl ?_
                refine r_nil ?_
                refine q_next (fun a ha => ?_)
                cases hb5
                exact ⟨rfl, ha.cut (l := [1, 7, 15, 17, 18, 19, 20, 21, 95]) rfl⟩
              · refine r_lit 91 rfl hb16 ?_
                refine r_off rfl (by decide) rfl ?_
                refine r_off rfl (by decide) rfl ?_
                refine r_off rfl (by decide) rfl ?_
                refine r_pick_false rfl rfl rfl rfl ?_
                refine r_nil ?_
                refine q_next (fun a ha => ?_)
                cases hb5
                exact ⟨rfl, ha.cut (l := [1, 7, 15, 17, 18, 19, 20, 21, 95]) rfl⟩
          · clear hm
            rcases cond_some hb4 with ⟨hb17, hb4⟩ | ⟨hb17, hb4⟩
            · refine r_lit 86 rfl hb17 ?_
              refine r_move rfl rfl rfl ?_
              refine r_move rfl rfl rfl ?_
              refine r_bin rfl rfl rfl rfl rfl ?_
              refine r_pick_true rfl rfl rfl rfl ?_
              refine r_nil ?_
              refine q_next (fun a ha => ?_)
              cases hb4
              exact ⟨rfl, ha.cut (l := [1, 7, 14, 15, 16, 17, 18, 19, 20, 21, 90]) rfl⟩
            · refine r_lit 86 rfl hb17 ?_
              refine r_off rfl (by decide) rfl ?_
              refine r_off rfl (by decide) rfl ?_
              refine r_off rfl (by decide) rfl ?_
              refine r_pick_false rfl rfl rfl rfl ?_
              refine r_nil ?_
              refine q_next (fun a ha => ?_)
              cases hb4
              exact ⟨rfl, ha.cut (l := [1, 7, 14, 15, 16, 17, 18, 19, 20, 21, 90]) rfl⟩
        · clear hm
          rcases cond_some hb3 with ⟨hb18, hb3⟩ | ⟨hb18, hb3⟩
          · refine r_lit 81 rfl hb18 ?_
            refine r_move rfl rfl rfl ?_
            refine r_move rfl rfl rfl ?_
            refine r_bin rfl rfl rfl rfl rfl ?_
            refine r_pick_true rfl rfl rfl rfl ?_
            refine r_nil ?_
            refine q_next (fun a ha => ?_)
            cases hb3
            exact ⟨rfl, ha.cut (l := [1, 7, 10, 13, 14, 15, 16, 17, 18, 19, 20, 21, 85]) rfl⟩
          · refine r_lit 81 rfl hb18 ?_
            refine r_off rfl (by decide) rfl ?_
            refine r_off rfl (by decide) rfl ?_
            refine r_off rfl (by decide) rfl ?_
            refine r_pick_false rfl rfl rfl rfl ?_
            refine r_nil ?_
            refine q_next (fun a ha => ?_)
            cases hb3
            exact ⟨rfl, ha.cut (l := [1, 7, 10, 13, 14, 15, 16, 17, 18, 19, 20, 21, 85]) rfl⟩
      · clear hm
        rcases cond_some hb2 with ⟨hb19, hb2⟩ | ⟨hb19, hb2⟩
        · refine r_lit 76 rfl hb19 ?_
          refine r_move rfl rfl rfl ?_
          refine r_move rfl rfl rfl ?_
          obtain ⟨v22, hv13, hb2⟩ := bind_some hb2
          refine r_callG0 ent21 rfl rfl rfl rfl hx4 (ref06_Same_ok _ _ _ _ hv13 hx4.sat ((hs3.mono hF3).mono hF4) (hs4.mono hF4)) ?_
          rintro _ Fx8 _ wx16 hF8 hx8 ⟨rfl, rfl⟩
          refine r_pick_true rfl rfl rfl rfl ?_
          refine r_nil ?_
          refine q_next (fun a ha => ?_)
          cases hb2
          exact ⟨_, hF8, hx8.pick [] (by decide) rfl, ha.cut (l := [1, 7, 9, 10, 12, 13, 14, 15, 16, 17, 18, 19, 20, 21, 80]) rfl⟩
        · refine r_lit 76 rfl hb19 ?_
          refine r_off rfl (by decide) rfl ?_
          refine r_off rfl (by decide) rfl ?_
          refine r_off rfl (by decide) rfl ?_
          refine r_pick_false rfl rfl rfl rfl ?_
          refine r_nil ?_
          refine q_next (fun a ha => ?_)
          cases hb2
          exact ⟨_, Frz.refl _, hx4.pick [] (by decide) rfl, ha.cut (l := [1, 7, 9, 10, 12, 13, 14, 15, 16, 17, 18, 19, 20, 21, 80]) rfl⟩
    · clear hm hkont1; intro hk1 mx1 K ihx1
      rintro i1 a wx17 hm ⟨rfl, hax11⟩
      simp only [law06_LexerTells_L1_s] at hm
      refine cw_apply hax11 ?_
      refine c_seq ?_
      refine c_seq ?_
      refine c_region ?_
      refine r_move rfl rfl rfl ?_
      refine r_move rfl rfl rfl ?_
      refine r_lenS u23 rfl rfl rfl ?_
      refine r_bin rfl rfl rfl rfl rfl ?_
      refine r_nil ?_
      refine q_then ?_
      rcases cond_some hm with ⟨hb20, hm⟩ | ⟨hb20, hm⟩
      · refine c_lit 30 rfl hb20 ?_
        refine c_true rfl ?_
        refine c_skip ?_
        refine q_then ?_
        refine c_seq ?_
        refine c_block ?_
        refine c_seq ?_
        refine c_region ?_
        refine r_move rfl rfl rfl ?_
        refine r_move rfl rfl rfl ?_
        obtain ⟨ex1, he1, hm⟩ := bind_some hm
        refine r_findex (r := rp_Token) u23 sz32 rfl rfl rfl rfl (hs2.mono hF1) he1 ?_
        intro b1 o1 cs1 hf1 hr1
        have hc1 : cs1 = [.int .i64 ex1.Kind, vs ex1.Text, .int .i64 ex1.N, .int .i64 ex1.Pos] := hr1
        subst hc1
        refine r_fieldAddr fa32_1 rfl rfl rfl ?_
        refine r_loadF1 (j := 1) ag9 rfl rfl hx1 hf1 rfl rfl ?_
        refine r_slen u9 rfl rfl rfl ?_
        refine r_bin rfl rfl rfl rfl rfl ?_
        refine r_nil ?_
        refine q_then ?_
        rcases cond_some hm with ⟨hb21, hm⟩ | ⟨hb21, hm⟩
        · refine c_lit 39 rfl hb21 ?_
          refine c_true rfl ?_
          refine c_seq ?_
          refine c_region ?_
          refine r_move rfl rfl rfl ?_
          refine r_assign rfl rfl rfl ?_
          refine r_nil ?_
          refine q_then ?_
          refine c_ret ?_
          refine q_block_ret ?_
          refine q_then_ret ?_
          refine q_then_ret ?_
          refine q_block_ret ?_
          refine q_then_ret ?_
          refine b_ret1 rfl rfl ?_
          obtain rfl := Option.some.inj hm
          exact ⟨_, _, _, rfl, hx1.pick [] (by decide) rfl, rfl, rfl⟩
        · refine c_lit 39 rfl hb21 ?_
          refine c_false rfl ?_
          refine c_skip ?_
          refine q_block ?_
          refine q_then ?_
          refine c_region ?_
          refine r_move rfl rfl rfl ?_
          refine r_bin rfl rfl rfl rfl rfl ?_
          refine r_assign rfl rfl rfl ?_
          refine r_nil ?_
          refine q_next (fun a ha => ihx1 (iadd .i64 i1 1) a _ hm ?_)
          exact ⟨rfl, ha.cut (l := [0, 1, 5, 6]) rfl⟩
      · refine c_lit 30 rfl hb20 ?_
        refine c_false rfl ?_
        refine c_exit ?_
        refine q_then_exit ?_
        refine q_then_exit ?_
        refine fun a ha => hk1 () a _ hm ?_
        exact ⟨rfl, ha.cut (l := [0, 1, 5]) rfl⟩


def law06_LexerQuotes_L1 (n : Nat) (v2 : Bs) (kont1 : Bool → Option Bool) : Nat → Bool → Int → Option Bool
  | 0, _, _ => none
  | mx1 + 1, plain1, i1 =>
    bif decide (i1 < (v2.length : Int)) then
      (bif plain1 then
        (sidx v2 i1).bind fun c2 =>
        some (decide (32 ≤ c2))
      else
        some false).bind fun v43 =>
      (bif v43 then
        (sidx v2 i1).bind fun c1 =>
        some (decide (c1 ≤ 126))
      else
        some false).bind fun v44 =>
      law06_LexerQuotes_L1 n v2 kont1 mx1 v44 (iadd .i64 i1 1)
    else
      kont1 plain1

theorem law06_LexerQuotes_L1_s (n : Nat) (v2 : Bs) (kont1 : Bool → Option Bool) (mx1 : Nat) (plain1 : Bool) (i1 : Int) : law06_LexerQuotes_L1 n v2 kont1 (mx1 + 1) plain1 i1 =
    bif decide (i1 < (v2.length : Int)) then
      (bif plain1 then
        (sidx v2 i1).bind fun c2 =>
        some (decide (32 ≤ c2))
      else
        some false).bind fun v43 =>
      (bif v43 then
        (sidx v2 i1).bind fun c1 =>
        some (decide (c1 ≤ 126))
      else
        some false).bind fun v44 =>
      law06_LexerQuotes_L1 n v2 kont1 mx1 v44 (iadd .i64 i1 1)
    else
      kont1 plain1 := rfl

def law06_LexerQuotes (n : Nat) (s1 : Bs) : Option Bool :=
  (law06_sane n).bind fun v1 =>
  (law06_cut n s1).bind fun v2 =>
  (lexer_Quote n v2).bind fun v3 =>
  law06_LexerQuotes_L1 n v2 (fun (plain2 : Bool) =>
    (bif !(v3.2 == plain2) then
      some true
    else
      (bif !v3.2 then
        some (!(v3.1 == []))
      else
        some false).bind fun v42 =>
      some v42).bind fun v4 =>
    bif v4 then
      some false
    else
      bif v3.2 then
        (lexer_Scan n v3.1).bind fun v5 =>
        (bif v5.2.2 != 0 then
          some true
        else
          some ((v5.1.length : Int) != 1)).bind fun v6 =>
        (bif v6 then
          some true
        else
          (ix v5.1 0).bind fun ex6 =>
          some (!(eqb_Token ex6 (⟨2, v2, 0, 0⟩ : Token)))).bind fun v7 =>
        bif v7 then
          some false
        else
          (lexer_Scan n v2).bind fun v8 =>
          (lexer_Number n v2).bind fun v9 =>
          (lexer_Name n v2).bind fun v10 =>
          (bif v8.2.2 != 0 then
            some true
          else
            some ((v8.1.length : Int) != 1)).bind fun v11 =>
          bif v11 then
            (bif v1 then
              some (!v10)
            else
              some false).bind fun v12 =>
            (bif v12 then
              some (!v9.2)
            else
              some false).bind fun v13 =>
            (bif v13 then
              some (v9.1 == 0)
            else
              some false).bind fun v14 =>
            some v14
          else
            (ix v8.1 0).bind fun ex1 =>
            (bif ex1.Text == v2 then
              (ix v8.1 0).bind fun ex5 =>
              some (ex5.Pos == 0)
            else
              some false).bind fun v15 =>
            (bif v15 then
              (ix v8.1 0).bind fun ex4 =>
              some (ex4.Kind == 0)
            else
              some false).bind fun v16 =>
            (bif !(v10 == v16) then
              some true
            else
              (bif v15 then
                (ix v8.1 0).bind fun ex3 =>
                some (ex3.Kind == 1)
              else
                some false).bind fun v24 =>
              some (!(v9.2 == v24))).bind fun v17 =>
            bif v17 then
              some false
            else
              (bif v1 then
                (bif !v10 then
                  some true
                else
                  some (decide ((v2.length : Int) ≤ 20))).bind fun v23 =>
                some v23
              else
                some false).bind fun v18 =>
              (bif v18 then
                (bif !v9.2 then
                  some true
                else
                  (ix v8.1 0).bind fun ex2 =>
                  (bif v9.1 == ex2.N then
                    some (decide (0 ≤ v9.1))
                  else
                    some false).bind fun v21 =>
                  (bif v21 then
                    some (decide (v9.1 ≤ 1099511627776))
                  else
                    some false).bind fun v22 =>
                  some v22).bind fun v20 =>
                some v20
              else
                some false).bind fun v19 =>
              some v19
      else
        (lexer_Scan n v2).bind fun v25 =>
        (lexer_Number n v2).bind fun v26 =>
        (lexer_Name n v2).bind fun v27 =>
        (bif v25.2.2 != 0 then
          some true
        else
          some ((v25.1.length : Int) != 1)).bind fun v28 =>
        bif v28 then
          (bif v1 then
            some (!v27)
          else
            some false).bind fun v29 =>
          (bif v29 then
            some (!v26.2)
          else
            some false).bind fun v30 =>
          (bif v30 then
            some (v26.1 == 0)
          else
            some false).bind fun v31 =>
          some v31
        else
          (ix v25.1 0).bind fun ex7 =>
          (bif ex7.Text == v2 then
            (ix v25.1 0).bind fun ex11 =>
            some (ex11.Pos == 0)
          else
            some false).bind fun v32 =>
          (bif v32 then
            (ix v25.1 0).bind fun ex10 =>
            some (ex10.Kind == 0)
          else
            some false).bind fun v33 =>
          (bif !(v27 == v33) then
            some true
          else
            (bif v32 then
              (ix v25.1 0).bind fun ex9 =>
              some (ex9.Kind == 1)
            else
              some false).bind fun v41 =>
            some (!(v26.2 == v41))).bind fun v34 =>
          bif v34 then
            some false
          else
            (bif v1 then
              (bif !v27 then
                some true
              else
                some (decide ((v2.length : Int) ≤ 20))).bind fun v40 =>
              some v40
            else
              some false).bind fun v35 =>
            (bif v35 then
              (bif !v26.2 then
                some true
              else
                (ix v25.1 0).bind fun ex8 =>
                (bif v26.1 == ex8.N then
                  some (decide (0 ≤ v26.1))
                else
                  some false).bind fun v38 =>
                (bif v38 then
                  some (decide (v26.1 ≤ 1099511627776))
                else
                  some false).bind fun v39 =>
                some v39).bind fun v37 =>
              some v37
            else
              some false).bind fun v36 =>
            some v36) n (decide ((v2.length : Int) ≤ 400)) 0

set_option maxHeartbeats 1000000 in
set_option maxRecDepth 1000000 in
theorem law06_LexerQuotes_ok (n : Nat) (s1 : Bs) (r : Bool) (hm : law06_LexerQuotes n s1 = some r) {w : World} {F : Frz} (hs : Sat F w) (hg0 : FC F 0 0 [.int .u8 40, .int .u8 41, .int .u8 44, .int .u8 59, .int .u8 58, .int .u8 61, .int .u8 60, .int .u8 43, .int .u8 45, .int .u8 42, .int .u8 47, .int .u8 123, .int .u8 125]) :
    Calls Tryd.prog 8 #[vs s1] w fun e w' => ∃ v F' O', e = .returned v ∧ HS F w [] F' O' w' ∧ (v = .bool r ∧ O' = []) := by
  unfold law06_LexerQuotes at hm
  have h := HS.init hs
  refine calls_of (args := [vs s1]) 180 Tryd.func8 rfl rfl rfl ?_
  refine c_seq ?_
  refine c_region ?_
  refine r_assign rfl rfl rfl ?_
  refine r_nil ?_
  refine q_then ?_
  refine c_seq ?_
  refine c_region ?_
  obtain ⟨v1, hv1, hm⟩ := bind_some hm
  refine r_callG0 ent9 rfl rfl rfl rfl h (law06_sane_ok _ _ hv1 h.sat hg0) ?_
  rintro _ Fx1 _ wx1 hF1 hx1 ⟨rfl, rfl⟩
  refine r_assign rfl rfl rfl ?_
  refine r_nil ?_
  refine q_then ?_
  refine c_seq ?_
  refine c_region ?_
  refine r_move rfl rfl rfl ?_
  obtain ⟨v2, hv2, hm⟩ := bind_some hm
  refine r_callP0 ent11 rfl rfl rfl rfl (law06_cut_ok _ _ _ hv2) ?_
  refine r_assign rfl rfl rfl ?_
  refine r_nil ?_
  refine q_then ?_
  refine c_seq ?_
  refine c_region ?_
  refine r_move rfl rfl rfl ?_
  obtain ⟨v3, hv3, hm⟩ := bind_some hm
  refine r_callG0 ent19 rfl rfl rfl rfl hx1 (lexer_Quote_ok _ _ _ hv3 hx1.sat) ?_
  rintro _ Fx2 _ wx2 hF2 hx2 ⟨rfl, rfl⟩
  refine r_move rfl rfl rfl ?_
  refine r_extract rfl rfl rfl rfl ?_
  refine r_extract rfl rfl rfl rfl ?_
  refine r_assign rfl rfl rfl ?_
  refine r_assign rfl rfl rfl ?_
  refine r_nil ?_
  refine q_then ?_
  refine c_seq ?_
  refine c_region ?_
  refine r_move rfl rfl rfl ?_
  refine r_slen u9 rfl rfl rfl ?_
  refine r_bin rfl rfl rfl rfl rfl ?_
  refine r_assign rfl rfl rfl ?_
  refine r_nil ?_
  refine q_then ?_
  refine c_seq ?_
  refine c_seq ?_
  refine c_region ?_
  refine r_assign rfl rfl rfl ?_
  refine r_nil ?_
  refine q_then ?_
  refine c_block ?_
  intro a hax37
  obtain ⟨kont1, hkont1⟩ : ∃ kont1 : Bool → Option Bool, kont1 = (fun (plain2 : Bool) =>
              (bif !(v3.2 == plain2) then
                some true
              else
                (bif !v3.2 then
                  some (!(v3.1 == []))
                else
                  some false).bind fun v42 =>
                some v42).bind fun v4 =>
              bif v4 then
                some false
              else
                bif v3.2 then
                  (lexer_Scan n v3.1).bind fun v5 =>
                  (bif v5.2.2 != 0 then
                    some true
                  else
                    some ((v5.1.length : Int) != 1)).bind fun v6 =>
                  (bif v6 then
                    some true
                  else
                    (ix v5.1 0).bind fun ex6 =>
                    some (!(eqb_Token ex6 (⟨2, v2, 0, 0⟩ : Token)))).bind fun v7 =>
                  bif v7 then
                    some false
                  else
                    (lexer_Scan n v2).bind fun v8 =>
                    (lexer_Number n v2).bind fun v9 =>
                    (lexer_Name n v2).bind fun v10 =>
                    (bif v8.2.2 != 0 then
                      some true
                    else
                      some ((v8.1.length : Int) != 1)).bind fun v11 =>
                    bif v11 then
                      (bif v1 then
                        some (!v10)
                      else
                        some false).bind fun v12 =>
                      (bif v12 then
                        some (!v9.2)
                      else
                        some false).bind fun v13 =>
                      (bif v13 then
                        some (v9.1 == 0)
                      else
                        some false).bind fun v14 =>
                      some v14
                    else
                      (ix v8.1 0).bind fun ex1 =>
                      (bif ex1.Text == v2 then
                        (ix v8.1 0).bind fun ex5 =>
                        some (ex5.Pos == 0)
                      else
                        some false).bind fun v15 =>
                      (bif v15 then
                        (ix v8.1 0).bind fun ex4 =>
                        some (ex4.Kind == 0)
                      else
                        some false).bind fun v16 =>
                      (bif !(v10 == v16) then
                        some true
                      else
                        (bif v15 then
                          (ix v8.1 0).bind fun ex3 =>
                          some (ex3.Kind == 1)
                        else
                          some false).bind fun v24 =>
                        some (!(v9.2 == v24))).bind fun v17 =>
                      bif v17 then
                        some false
                      else
                        (bif v1 then
                          (bif !v10 then
                            some true
                          else
                            some (decide ((v2.length : Int) ≤ 20))).bind fun v23 =>
                          some v23
                        else
                          some false).bind fun v18 =>
                        (bif v18 then
                          (bif !v9.2 then
                            some true
                          else
                            (ix v8.1 0).bind fun ex2 =>
                            (bif v9.1 == ex2.N then
                              some (decide (0 ≤ v9.1))
                            else
                              some false).bind fun v21 =>
                            (bif v21 then
                              some (decide (v9.1 ≤ 1099511627776))
                            else
                              some false).bind fun v22 =>
                            some v22).bind fun v20 =>
                          some v20
                        else
                          some false).bind fun v19 =>
                        some v19
                else
                  (lexer_Scan n v2).bind fun v25 =>
                  (lexer_Number n v2).bind fun v26 =>
                  (lexer_Name n v2).bind fun v27 =>
                  (bif v25.2.2 != 0 then
                    some true
                  else
                    some ((v25.1.length : Int) != 1)).bind fun v28 =>
                  bif v28 then
                    (bif v1 then
                      some (!v27)
                    else
                      some false).bind fun v29 =>
                    (bif v29 then
                      some (!v26.2)
                    else
                      some false).bind fun v30 =>
                    (bif v30 then
                      some (v26.1 == 0)
                    else
                      some false).bind fun v31 =>
                    some v31
                  else
                    (ix v25.1 0).bind fun ex7 =>
                    (bif ex7.Text == v2 then
                      (ix v25.1 0).bind fun ex11 =>
                      some (ex11.Pos == 0)
                    else
                      some false).bind fun v32 =>
                    (bif v32 then
                      (ix v25.1 0).bind fun ex10 =>
                      some (ex10.Kind == 0)
                    else
                      some false).bind fun v33 =>
                    (bif !(v27 == v33) then
                      some true
                    else
                      (bif v32 then
                        (ix v25.1 0).bind fun ex9 =>
                        some (ex9.Kind == 1)
                      else
                        some false).bind fun v41 =>
                      some (!(v26.2 == v41))).bind fun v34 =>
                    bif v34 then
                      some false
                    else
                      (bif v1 then
                        (bif !v27 then
                          some true
                        else
                          some (decide ((v2.length : Int) ≤ 20))).bind fun v40 =>
                        some v40
                      else
                        some false).bind fun v35 =>
                      (bif v35 then
                        (bif !v26.2 then
                          some true
                        else
                          (ix v25.1 0).bind fun ex8 =>
                          (bif v26.1 == ex8.N then
                            some (decide (0 ≤ v26.1))
                          else
                            some false).bind fun v38 =>
                          (bif v38 then
                            some (decide (v26.1 ≤ 1099511627776))
                          else
                            some false).bind fun v39 =>
                          some v39).bind fun v37 =>
                        some v37
                      else
                        some false).bind fun v36 =>
                      some v36) := ⟨_, rfl⟩
  replace hm : (fun m (s : Bool × Int) => law06_LexerQuotes_L1 n v2 kont1 m s.1 s.2) n ((decide ((v2.length : Int) ≤ 400)), 0) = some r := by rw [hkont1]; exact hm
  refine loopX (id := 0) (fun m (s : Bool × Int) => law06_LexerQuotes_L1 n v2 kont1 m s.1 s.2) (fun (y : Bool) => kont1 y) r (fun (s : Bool × Int) a w' => wx2 = w' ∧ Has 180 a [(3, .bool v1), (4, vs v2), (5, vs v3.1), (6, .bool v3.2), (7, .bool s.1), (8, .int .i64 s.2)]) (fun (y : Bool) a w' => wx2 = w' ∧ Has 180 a [(3, .bool v1), (4, vs v2), (5, vs v3.1), (6, .bool v3.2), (7, .bool y)]) (fun _ => rfl) ?_ ?_ hm ⟨rfl, hax37.cut (l := [3, 4, 5, 6, 7, 8]) rfl⟩
  · clear hm; rintro plain2 a wx3 hm ⟨rfl, hax1⟩
    rw [hkont1] at hm
    replace hm := hm
    refine qw_apply (e := .exit 0) hax1 ?_
    refine q_block_hit ?_
    refine q_then ?_
    refine c_seq ?_
    refine c_seq ?_
    refine c_region ?_
    refine r_move rfl rfl rfl ?_
    refine r_move rfl rfl rfl ?_
    refine r_bne u4 rfl rfl rfl rfl ?_
    refine r_move rfl rfl rfl ?_
    obtain ⟨v4, hb1, hm⟩ := bind_some hm
    refine r_mid 7 (fun a w' => wx2 = w' ∧ Has 180 a [(3, .bool v1), (4, vs v2), (5, vs v3.1), (6, .bool v3.2), (59, .bool v4)]) ?_ ?_
    · rintro a wx4 ⟨rfl, hax2⟩
      refine rw_apply hax2 ?_
      refine r_nil ?_
      refine q_then ?_
      rcases cond_some hm with ⟨hb2, hm⟩ | ⟨hb2, hm⟩
      · refine c_lit 59 rfl hb2 ?_
        refine c_true rfl ?_
        refine c_seq ?_
        refine c_region ?_
        refine r_assign rfl rfl rfl ?_
        refine r_nil ?_
        refine q_then ?_
        refine c_ret ?_
        refine q_then_ret ?_
        refine b_ret1 rfl rfl ?_
        obtain rfl := Option.some.inj hm
        exact ⟨_, _, _, rfl, hx2.pick [] (by decide) rfl, rfl, rfl⟩
      · refine c_lit 59 rfl hb2 ?_
        refine c_false rfl ?_
        refine c_skip ?_
        refine q_then ?_
        refine c_seq ?_
        refine c_seq ?_
        refine c_region ?_
        refine r_move rfl rfl rfl ?_
        refine r_nil ?_
        refine q_then ?_
        rcases cond_some hm with ⟨hb3, hm⟩ | ⟨hb3, hm⟩
        · refine c_lit 60 rfl hb3 ?_
          refine c_true rfl ?_
          refine c_seq ?_
          refine c_region ?_
          refine r_move rfl rfl rfl ?_
          obtain ⟨v5, hv4, hm⟩ := bind_some hm
          refine r_callG0 ent10 rfl rfl rfl rfl hx2 (lexer_Scan_ok _ _ _ hv4 hx2.sat ((hg0.mono hF1).mono hF2)) ?_
          rintro _ Fx3 _ wx5 hF3 hx3 ⟨as2, cs2, rfl, rfl, hs2⟩
          refine r_move rfl rfl rfl ?_
          refine r_extract rfl rfl rfl rfl ?_
          refine r_extract rfl rfl rfl rfl ?_
          refine r_extract rfl rfl rfl rfl ?_
          refine r_assign rfl rfl rfl ?_
          refine r_assign rfl rfl rfl ?_
          refine r_assign rfl rfl rfl ?_
          refine r_nil ?_
          refine q_then ?_
          refine c_seq ?_
          refine c_region ?_
          refine r_move rfl rfl rfl ?_
          refine r_bin rfl rfl rfl rfl rfl ?_
          refine r_move rfl rfl rfl ?_
          obtain ⟨v6, hb4, hm⟩ := bind_some hm
          refine r_mid 4 (fun a w' => wx5 = w' ∧ Has 180 a [(3, .bool v1), (4, vs v2), (9, .slice as2 v5.1.length cs2), (73, .bool v6)]) ?_ ?_
          · rintro a wx6 ⟨rfl, hax3⟩
            refine rw_apply hax3 ?_
            refine r_move rfl rfl rfl ?_
            obtain ⟨v7, hb5, hm⟩ := bind_some hm
            refine r_mid 7 (fun a w' => wx5 = w' ∧ Has 180 a [(3, .bool v1), (4, vs v2), (81, .bool v7)]) ?_ ?_
            · rintro a wx7 ⟨rfl, hax4⟩
              refine rw_apply hax4 ?_
              refine r_nil ?_
              refine q_then ?_
              rcases cond_some hm with ⟨hb6, hm⟩ | ⟨hb6, hm⟩
              · refine c_lit 81 rfl hb6 ?_
                refine c_true rfl ?_
                refine c_seq ?_
                refine c_region ?_
                refine r_assign rfl rfl rfl ?_
                refine r_nil ?_
                refine q_then ?_
                refine c_ret ?_
                refine q_then_ret ?_
                refine b_ret1 rfl rfl ?_
                obtain rfl := Option.some.inj hm
                exact ⟨_, _, _, rfl, hx3.pick [] (by decide) rfl, rfl, rfl⟩
              · refine c_lit 81 rfl hb6 ?_
                refine c_false rfl ?_
                refine c_skip ?_
                refine q_then ?_
                refine c_seq ?_
                refine c_region ?_
                refine r_move rfl rfl rfl ?_
                obtain ⟨v8, hv5, hm⟩ := bind_some hm
                refine r_callG0 ent10 rfl rfl rfl rfl hx3 (lexer_Scan_ok _ _ _ hv5 hx3.sat (((hg0.mono hF1).mono hF2).mono hF3)) ?_
                rintro _ Fx4 _ wx8 hF4 hx4 ⟨as3, cs3, rfl, rfl, hs3⟩
                refine r_move rfl rfl rfl ?_
                refine r_extract rfl rfl rfl rfl ?_
                refine r_extract rfl rfl rfl rfl ?_
                refine r_extract rfl rfl rfl rfl ?_
                refine r_assign rfl rfl rfl ?_
                refine r_assign rfl rfl rfl ?_
                refine r_assign rfl rfl rfl ?_
                refine r_nil ?_
                refine q_then ?_
                refine c_seq ?_
                refine c_region ?_
                refine r_move rfl rfl rfl ?_
                obtain ⟨v9, hv6, hm⟩ := bind_some hm
                refine r_callP0 ent17 rfl rfl rfl rfl (lexer_Number_ok _ _ _ hv6) ?_
                refine r_move rfl rfl rfl ?_
                refine r_extract rfl rfl rfl rfl ?_
                refine r_extract rfl rfl rfl rfl ?_
                refine r_assign rfl rfl rfl ?_
                refine r_assign rfl rfl rfl ?_
                refine r_nil ?_
                refine q_then ?_
                refine c_seq ?_
                refine c_region ?_
                refine r_move rfl rfl rfl ?_
                obtain ⟨v10, hv7, hm⟩ := bind_some hm
                refine r_callP0 ent22 rfl rfl rfl rfl (lexer_Name_ok _ _ _ hv7) ?_
                refine r_assign rfl rfl rfl ?_
                refine r_nil ?_
                refine q_then ?_
                refine c_seq ?_
                refine c_seq ?_
                refine c_region ?_
                refine r_move rfl rfl rfl ?_
                refine r_bin rfl rfl rfl rfl rfl ?_
                refine r_move rfl rfl rfl ?_
                obtain ⟨v11, hb7, hm⟩ := bind_some hm
                refine r_mid 4 (fun a w' => wx8 = w' ∧ Has 180 a [(3, .bool v1), (4, vs v2), (12, .slice as3 v8.1.length cs3), (15, .int .i64 v9.1), (16, .bool v9.2), (17, .bool v10), (101, .bool v11)]) ?_ ?_
                · rintro a wx9 ⟨rfl, hax5⟩
                  refine rw_apply hax5 ?_
                  refine r_nil ?_
                  refine q_then ?_
                  rcases cond_some hm with ⟨hb8, hm⟩ | ⟨hb8, hm⟩
                  · refine c_lit 101 rfl hb8 ?_
                    refine c_true rfl ?_
                    refine c_seq ?_
                    refine c_region ?_
                    refine r_move rfl rfl rfl ?_
                    refine r_move rfl rfl rfl ?_
                    obtain ⟨v12, hb9, hm⟩ := bind_some hm
                    refine r_mid 3 (fun a w' => wx8 = w' ∧ Has 180 a [(15, .int .i64 v9.1), (16, .bool v9.2), (106, .bool v12)]) ?_ ?_
                    · rintro a wx10 ⟨rfl, hax6⟩
                      refine rw_apply hax6 ?_
                      refine r_move rfl rfl rfl ?_
                      obtain ⟨v13, hb10, hm⟩ := bind_some hm
                      refine r_mid 3 (fun a w' => wx8 = w' ∧ Has 180 a [(15, .int .i64 v9.1), (110, .bool v13)]) ?_ ?_
                      · rintro a wx11 ⟨rfl, hax7⟩
                        refine rw_apply hax7 ?_
                        refine r_move rfl rfl rfl ?_
                        obtain ⟨v14, hb11, hm⟩ := bind_some hm
                        refine r_mid 3 (fun a w' => wx8 = w' ∧ Has 180 a [(114, .bool v14)]) ?_ ?_
                        · rintro a wx12 ⟨rfl, hax8⟩
                          refine rw_apply hax8 ?_
                          refine r_assign rfl rfl rfl ?_
                          refine r_nil ?_
                          refine q_then ?_
                          refine c_ret ?_
                          refine q_then_ret ?_
                          refine b_ret1 rfl rfl ?_
                          obtain rfl := Option.some.inj hm
                          exact ⟨_, _, _, rfl, hx4.pick [] (by decide) rfl, rfl, rfl⟩
                        · clear hm
                          rcases cond_some hb11 with ⟨hb12, hb11⟩ | ⟨hb12, hb11⟩
                          · refine r_lit 111 rfl hb12 ?_
                            refine r_move rfl rfl rfl ?_
                            refine r_bin rfl rfl rfl rfl rfl ?_
                            refine r_pick_true rfl rfl rfl rfl ?_
                            refine r_nil ?_
                            refine q_next (fun a ha => ?_)
                            cases hb11
                            exact ⟨rfl, ha.cut (l := [114]) rfl⟩
                          · refine r_lit 111 rfl hb12 ?_
                            refine r_off rfl (by decide) rfl ?_
                            refine r_off rfl (by decide) rfl ?_
                            refine r_pick_false rfl rfl rfl rfl ?_
                            refine r_nil ?_
                            refine q_next (fun a ha => ?_)
                            cases hb11
                            exact ⟨rfl, ha.cut (l := [114]) rfl⟩
                      · clear hm
                        rcases cond_some hb10 with ⟨hb13, hb10⟩ | ⟨hb13, hb10⟩
                        · refine r_lit 107 rfl hb13 ?_
                          refine r_move rfl rfl rfl ?_
                          refine r_not rfl rfl rfl ?_
                          refine r_pick_true rfl rfl rfl rfl ?_
                          refine r_nil ?_
                          refine q_next (fun a ha => ?_)
                          cases hb10
                          exact ⟨rfl, ha.cut (l := [15, 110]) rfl⟩
                        · refine r_lit 107 rfl hb13 ?_
                          refine r_off rfl (by decide) rfl ?_
                          refine r_off rfl (by decide) rfl ?_
                          refine r_pick_false rfl rfl rfl rfl ?_
                          refine r_nil ?_
                          refine q_next (fun a ha => ?_)
                          cases hb10
                          exact ⟨rfl, ha.cut (l := [15, 110]) rfl⟩
                    · clear hm
                      rcases cond_some hb9 with ⟨hb14, hb9⟩ | ⟨hb14, hb9⟩
                      · refine r_lit 103 rfl hb14 ?_
                        refine r_move rfl rfl rfl ?_
                        refine r_not rfl rfl rfl ?_
                        refine r_pick_true rfl rfl rfl rfl ?_
                        refine r_nil ?_
                        refine q_next (fun a ha => ?_)
                        cases hb9
                        exact ⟨rfl, ha.cut (l := [15, 16, 106]) rfl⟩
                      · refine r_lit 103 rfl hb14 ?_
                        refine r_off rfl (by decide) rfl ?_
                        refine r_off rfl (by decide) rfl ?_
                        refine r_pick_false rfl rfl rfl rfl ?_
                        refine r_nil ?_
                        refine q_next (fun a ha => ?_)
                        cases hb9
                        exact ⟨rfl, ha.cut (l := [15, 16, 106]) rfl⟩
                  · refine c_lit 101 rfl hb8 ?_
                    refine c_false rfl ?_
                    refine c_skip ?_
                    refine q_then ?_
                    refine c_seq ?_
                    refine c_region ?_
                    refine r_move rfl rfl rfl ?_
                    obtain ⟨ex1, he1, hm⟩ := bind_some hm
                    refine r_findex (r := rp_Token) u23 sz32 rfl rfl rfl rfl hs3 he1 ?_
                    intro b1 o1 cs1 hf1 hr1
                    have hc1 : cs1 = [.int .i64 ex1.Kind, vs ex1.Text, .int .i64 ex1.N, .int .i64 ex1.Pos] := hr1
                    subst hc1
                    refine r_fieldAddr fa32_1 rfl rfl rfl ?_
                    refine r_loadF1 (j := 1) ag9 rfl rfl hx4 hf1 rfl rfl ?_
                    refine r_move rfl rfl rfl ?_
                    refine r_str rfl rfl rfl rfl rfl ?_
                    refine r_move rfl rfl rfl ?_
                    obtain ⟨v15, hb15, hm⟩ := bind_some hm
                    refine r_mid 6 (fun a w' => wx8 = w' ∧ Has 180 a [(3, .bool v1), (4, vs v2), (12, .slice as3 v8.1.length cs3), (15, .int .i64 v9.1), (16, .bool v9.2), (17, .bool v10), (127, .bool v15)]) ?_ ?_
                    · rintro a wx13 ⟨rfl, hax9⟩
                      refine rw_apply hax9 ?_
                      refine r_assign rfl rfl rfl ?_
                      refine r_nil ?_
                      refine q_then ?_
                      refine c_seq ?_
                      refine c_seq ?_
                      refine c_region ?_
                      refine r_move rfl rfl rfl ?_
                      refine r_move rfl rfl rfl ?_
                      refine r_move rfl rfl rfl ?_
                      obtain ⟨v16, hb16, hm⟩ := bind_some hm
                      refine r_mid 6 (fun a w' => wx8 = w' ∧ Has 180 a [(3, .bool v1), (4, vs v2), (12, .slice as3 v8.1.length cs3), (15, .int .i64 v9.1), (16, .bool v9.2), (17, .bool v10), (18, .bool v15), (128, .bool v10), (136, .bool v16)]) ?_ ?_
                      · rintro a wx14 ⟨rfl, hax10⟩
                        refine rw_apply hax10 ?_
                        refine r_bne u4 rfl rfl rfl rfl ?_
                        refine r_move rfl rfl rfl ?_
                        obtain ⟨v17, hb17, hm⟩ := bind_some hm
                        refine r_mid 11 (fun a w' => wx8 = w' ∧ Has 180 a [(3, .bool v1), (4, vs v2), (12, .slice as3 v8.1.length cs3), (15, .int .i64 v9.1), (16, .bool v9.2), (17, .bool v10), (149, .bool v17)]) ?_ ?_
                        · rintro a wx15 ⟨rfl, hax11⟩
                          refine rw_apply hax11 ?_
                          refine r_nil ?_
                          refine q_then ?_
                          rcases cond_some hm with ⟨hb18, hm⟩ | ⟨hb18, hm⟩
                          · refine c_lit 149 rfl hb18 ?_
                            refine c_true rfl ?_
                            refine c_seq ?_
                            refine c_region ?_
                            refine r_assign rfl rfl rfl ?_
                            refine r_nil ?_
                            refine q_then ?_
                            refine c_ret ?_
                            refine q_then_ret ?_
                            refine b_ret1 rfl rfl ?_
                            obtain rfl := Option.some.inj hm
                            exact ⟨_, _, _, rfl, hx4.pick [] (by decide) rfl, rfl, rfl⟩
                          · refine c_lit 149 rfl hb18 ?_
                            refine c_false rfl ?_
                            refine c_skip ?_
                            refine q_then ?_
                            refine c_seq ?_
                            refine c_region ?_
                            refine r_move rfl rfl rfl ?_
                            refine r_move rfl rfl rfl ?_
                            obtain ⟨v18, hb19, hm⟩ := bind_some hm
                            refine r_mid 8 (fun a w' => wx8 = w' ∧ Has 180 a [(12, .slice as3 v8.1.length cs3), (15, .int .i64 v9.1), (16, .bool v9.2), (159, .bool v18)]) ?_ ?_
                            · rintro a wx16 ⟨rfl, hax12⟩
                              refine rw_apply hax12 ?_
                              refine r_move rfl rfl rfl ?_
                              obtain ⟨v19, hb20, hm⟩ := bind_some hm
                              refine r_mid 19 (fun a w' => wx8 = w' ∧ Has 180 a [(179, .bool v19)]) ?_ ?_
                              · rintro a wx17 ⟨rfl, hax13⟩
                                refine rw_apply hax13 ?_
                                refine r_assign rfl rfl rfl ?_
                                refine r_nil ?_
                                refine q_then ?_
                                refine c_ret ?_
                                refine b_ret1 rfl rfl ?_
                                obtain rfl := Option.some.inj hm
                                exact ⟨_, _, _, rfl, hx4.pick [] (by decide) rfl, rfl, rfl⟩
                              · clear hm
                                rcases cond_some hb20 with ⟨hb21, hb20⟩ | ⟨hb21, hb20⟩
                                · refine r_lit 160 rfl hb21 ?_
                                  refine r_move rfl rfl rfl ?_
                                  refine r_not rfl rfl rfl ?_
                                  refine r_move rfl rfl rfl ?_
                                  obtain ⟨v20, hb22, hb20⟩ := bind_some hb20
                                  refine r_mid 15 (fun a w' => wx8 = w' ∧ Has 180 a [(160, .bool true), (178, .bool v20)]) ?_ ?_
                                  · rintro a wx18 ⟨rfl, hax14⟩
                                    refine rw_apply hax14 ?_
                                    refine r_pick_true rfl rfl rfl rfl ?_
                                    refine r_nil ?_
                                    refine q_next (fun a ha => ?_)
                                    cases hb20
                                    exact ⟨rfl, ha.cut (l := [179]) rfl⟩
                                  · clear hb20
                                    rcases cond_some hb22 with ⟨hb23, hb22⟩ | ⟨hb23, hb22⟩
                                    · refine r_lit 163 rfl hb23 ?_
                                      refine r_off rfl (by decide) rfl ?_
                                      refine r_off rfl (by decide) rfl ?_
                                      refine r_off rfl (by decide) rfl ?_
                                      refine r_off rfl (by decide) rfl ?_
                                      refine r_off rfl (by decide) rfl ?_
                                      refine r_off rfl (by decide) rfl ?_
                                      refine r_off rfl (by decide) rfl ?_
                                      refine r_off rfl (by decide) rfl ?_
                                      refine r_off rfl (by decide) rfl ?_
                                      refine r_off rfl (by decide) rfl ?_
                                      refine r_off rfl (by decide) rfl ?_
                                      refine r_off rfl (by decide) rfl ?_
                                      refine r_off rfl (by decide) rfl ?_
                                      refine r_off rfl (by decide) rfl ?_
                                      refine r_pick_true rfl rfl rfl rfl ?_
                                      refine r_nil ?_
                                      refine q_next (fun a ha => ?_)
                                      cases hb22
                                      exact ⟨rfl, ha.cut (l := [160, 178]) rfl⟩
                                    · refine r_lit 163 rfl hb23 ?_
                                      refine r_move rfl rfl rfl ?_
                                      refine r_move rfl rfl rfl ?_
                                      obtain ⟨ex2, he2, hb22⟩ := bind_some hb22
                                      refine r_findex (r := rp_Token) u23 sz32 rfl rfl rfl rfl hs3 he2 ?_
                                      intro b2 o2 cs2 hf2 hr2
                                      have hc2 : cs2 = [.int .i64 ex2.Kind, vs ex2.Text, .int .i64 ex2.N, .int .i64 ex2.Pos] := hr2
                                      subst hc2
                                      refine r_fieldAddr fa32_2 rfl rfl rfl ?_
                                      refine r_loadF1 (j := 2) ag3 rfl rfl hx4 hf2 rfl rfl ?_
                                      refine r_bin rfl rfl rfl rfl rfl ?_
                                      refine r_move rfl rfl rfl ?_
                                      obtain ⟨v21, hb24, hb22⟩ := bind_some hb22
                                      refine r_mid 3 (fun a w' => wx8 = w' ∧ Has 180 a [(15, .int .i64 v9.1), (160, .bool true), (163, .bool false), (173, .bool v21)]) ?_ ?_
                                      · rintro a wx19 ⟨rfl, hax15⟩
                                        refine rw_apply hax15 ?_
                                        refine r_move rfl rfl rfl ?_
                                        obtain ⟨v22, hb25, hb22⟩ := bind_some hb22
                                        refine r_mid 3 (fun a w' => wx8 = w' ∧ Has 180 a [(160, .bool true), (163, .bool false), (177, .bool v22)]) ?_ ?_
                                        · rintro a wx20 ⟨rfl, hax16⟩
                                          refine rw_apply hax16 ?_
                                          refine r_pick_false rfl rfl rfl rfl ?_
                                          refine r_nil ?_
                                          refine q_next (fun a ha => ?_)
                                          cases hb22
                                          exact ⟨rfl, ha.cut (l := [160, 178]) rfl⟩
                                        · clear hb22
                                          rcases cond_some hb25 with ⟨hb26, hb25⟩ | ⟨hb26, hb25⟩
                                          · refine r_lit 174 rfl hb26 ?_
                                            refine r_move rfl rfl rfl ?_
                                            refine r_bin rfl rfl rfl rfl rfl ?_
                                            refine r_pick_true rfl rfl rfl rfl ?_
                                            refine r_nil ?_
                                            refine q_next (fun a ha => ?_)
                                            cases hb25
                                            exact ⟨rfl, ha.cut (l := [160, 163, 177]) rfl⟩
                                          · refine r_lit 174 rfl hb26 ?_
                                            refine r_off rfl (by decide) rfl ?_
                                            refine r_off rfl (by decide) rfl ?_
                                            refine r_pick_false rfl rfl rfl rfl ?_
                                            refine r_nil ?_
                                            refine q_next (fun a ha => ?_)
                                            cases hb25
                                            exact ⟨rfl, ha.cut (l := [160, 163, 177]) rfl⟩
                                      · clear hb22
                                        rcases cond_some hb24 with ⟨hb27, hb24⟩ | ⟨hb27, hb24⟩
                                        · refine r_lit 170 rfl hb27 ?_
                                          refine r_move rfl rfl rfl ?_
                                          refine r_bin rfl rfl rfl rfl rfl ?_
                                          refine r_pick_true rfl rfl rfl rfl ?_
                                          refine r_nil ?_
                                          refine q_next (fun a ha => ?_)
                                          cases hb24
                                          exact ⟨rfl, ha.cut (l := [15, 160, 163, 173]) rfl⟩
                                        · refine r_lit 170 rfl hb27 ?_
                                          refine r_off rfl (by decide) rfl ?_
                                          refine r_off rfl (by decide) rfl ?_
                                          refine r_pick_false rfl rfl rfl rfl ?_
                                          refine r_nil ?_
                                          refine q_next (fun a ha => ?_)
                                          cases hb24
                                          exact ⟨rfl, ha.cut (l := [15, 160, 163, 173]) rfl⟩
                                · refine r_lit 160 rfl hb21 ?_
                                  refine r_off rfl (by decide) rfl ?_
                                  refine r_off rfl (by decide) rfl ?_
                                  refine r_off rfl (by decide) rfl ?_
                                  refine r_off rfl (by decide) rfl ?_
                                  refine r_off rfl (by decide) rfl ?_
                                  refine r_off rfl (by decide) rfl ?_
                                  refine r_off rfl (by decide) rfl ?_
                                  refine r_off rfl (by decide) rfl ?_
                                  refine r_off rfl (by decide) rfl ?_
                                  refine r_off rfl (by decide) rfl ?_
                                  refine r_off rfl (by decide) rfl ?_
                                  refine r_off rfl (by decide) rfl ?_
                                  refine r_off rfl (by decide) rfl ?_
                                  refine r_off rfl (by decide) rfl ?_
                                  refine r_off rfl (by decide) rfl ?_
                                  refine r_off rfl (by decide) rfl ?_
                                  refine r_off rfl (by decide) rfl ?_
                                  refine r_off rfl (by decide) rfl ?_
                                  refine r_pick_false rfl rfl rfl rfl ?_
                                  refine r_nil ?_
                                  refine q_next (fun a ha => ?_)
                                  cases hb20
                                  exact ⟨rfl, ha.cut (l := [179]) rfl⟩
                            · clear hm
                              rcases cond_some hb19 with ⟨hb28, hb19⟩ | ⟨hb28, hb19⟩
                              · refine r_lit 151 rfl hb28 ?_
                                refine r_move rfl rfl rfl ?_
                                refine r_not rfl rfl rfl ?_
                                refine r_move rfl rfl rfl ?_
                                obtain ⟨v23, hb29, hb19⟩ := bind_some hb19
                                refine r_mid 4 (fun a w' => wx8 = w' ∧ Has 180 a [(12, .slice as3 v8.1.length cs3), (15, .int .i64 v9.1), (16, .bool v9.2), (151, .bool true), (158, .bool v23)]) ?_ ?_
                                · rintro a wx21 ⟨rfl, hax17⟩
                                  refine rw_apply hax17 ?_
                                  refine r_pick_true rfl rfl rfl rfl ?_
                                  refine r_nil ?_
                                  refine q_next (fun a ha => ?_)
                                  cases hb19
                                  exact ⟨rfl, ha.cut (l := [12, 15, 16, 159]) rfl⟩
                                · clear hb19
                                  rcases cond_some hb29 with ⟨hb30, hb29⟩ | ⟨hb30, hb29⟩
                                  · refine r_lit 154 rfl hb30 ?_
                                    refine r_off rfl (by decide) rfl ?_
                                    refine r_off rfl (by decide) rfl ?_
                                    refine r_off rfl (by decide) rfl ?_
                                    refine r_pick_true rfl rfl rfl rfl ?_
                                    refine r_nil ?_
                                    refine q_next (fun a ha => ?_)
                                    cases hb29
                                    exact ⟨rfl, ha.cut (l := [12, 15, 16, 151, 158]) rfl⟩
                                  · refine r_lit 154 rfl hb30 ?_
                                    refine r_move rfl rfl rfl ?_
                                    refine r_slen u9 rfl rfl rfl ?_
                                    refine r_bin rfl rfl rfl rfl rfl ?_
                                    refine r_pick_false rfl rfl rfl rfl ?_
                                    refine r_nil ?_
                                    refine q_next (fun a ha => ?_)
                                    cases hb29
                                    exact ⟨rfl, ha.cut (l := [12, 15, 16, 151, 158]) rfl⟩
                              · refine r_lit 151 rfl hb28 ?_
                                refine r_off rfl (by decide) rfl ?_
                                refine r_off rfl (by decide) rfl ?_
                                refine r_off rfl (by decide) rfl ?_
                                refine r_off rfl (by decide) rfl ?_
                                refine r_off rfl (by decide) rfl ?_
                                refine r_off rfl (by decide) rfl ?_
                                refine r_off rfl (by decide) rfl ?_
                                refine r_pick_false rfl rfl rfl rfl ?_
                                refine r_nil ?_
                                refine q_next (fun a ha => ?_)
                                cases hb19
                                exact ⟨rfl, ha.cut (l := [12, 15, 16, 159]) rfl⟩
                        · clear hm
                          rcases cond_some hb17 with ⟨hb31, hb17⟩ | ⟨hb31, hb17⟩
                          · refine r_lit 138 rfl hb31 ?_
                            refine r_off rfl (by decide) rfl ?_
                            refine r_off rfl (by decide) rfl ?_
                            refine r_off rfl (by decide) rfl ?_
                            refine r_off rfl (by decide) rfl ?_
                            refine r_off rfl (by decide) rfl ?_
                            refine r_off rfl (by decide) rfl ?_
                            refine r_off rfl (by decide) rfl ?_
                            refine r_off rfl (by decide) rfl ?_
                            refine r_off rfl (by decide) rfl ?_
                            refine r_off rfl (by decide) rfl ?_
                            refine r_pick_true rfl rfl rfl rfl ?_
                            refine r_nil ?_
                            refine q_next (fun a ha => ?_)
                            cases hb17
                            exact ⟨rfl, ha.cut (l := [3, 4, 12, 15, 16, 17, 149]) rfl⟩
                          · refine r_lit 138 rfl hb31 ?_
                            refine r_move rfl rfl rfl ?_
                            refine r_move rfl rfl rfl ?_
                            refine r_move rfl rfl rfl ?_
                            obtain ⟨v24, hb32, hb17⟩ := bind_some hb17
                            refine r_mid 6 (fun a w' => wx8 = w' ∧ Has 180 a [(3, .bool v1), (4, vs v2), (12, .slice as3 v8.1.length cs3), (15, .int .i64 v9.1), (16, .bool v9.2), (17, .bool v10), (138, .bool false), (139, .bool v9.2), (147, .bool v24)]) ?_ ?_
                            · rintro a wx22 ⟨rfl, hax18⟩
                              refine rw_apply hax18 ?_
                              refine r_bne u4 rfl rfl rfl rfl ?_
                              refine r_pick_false rfl rfl rfl rfl ?_
                              refine r_nil ?_
                              refine q_next (fun a ha => ?_)
                              cases hb17
                              exact ⟨rfl, ha.cut (l := [3, 4, 12, 15, 16, 17, 149]) rfl⟩
                            · clear hb17
                              rcases cond_some hb32 with ⟨hb33, hb32⟩ | ⟨hb33, hb32⟩
                              · refine r_lit 141 rfl hb33 ?_
                                refine r_move rfl rfl rfl ?_
                                obtain ⟨ex3, he3, hb32⟩ := bind_some hb32
                                refine r_findex (r := rp_Token) u23 sz32 rfl rfl rfl rfl hs3 he3 ?_
                                intro b3 o3 cs3 hf3 hr3
                                have hc3 : cs3 = [.int .i64 ex3.Kind, vs ex3.Text, .int .i64 ex3.N, .int .i64 ex3.Pos] := hr3
                                subst hc3
                                refine r_fieldAddr fa32_0 rfl rfl rfl ?_
                                refine r_loadF1 (j := 0) ag3 rfl rfl hx4 hf3 rfl rfl ?_
                                refine r_bin rfl rfl rfl rfl rfl ?_
                                refine r_pick_true rfl rfl rfl rfl ?_
                                refine r_nil ?_
                                refine q_next (fun a ha => ?_)
                                cases hb32
                                exact ⟨rfl, ha.cut (l := [3, 4, 12, 15, 16, 17, 138, 139, 147]) rfl⟩
                              · refine r_lit 141 rfl hb33 ?_
                                refine r_off rfl (by decide) rfl ?_
                                refine r_off rfl (by decide) rfl ?_
                                refine r_off rfl (by decide) rfl ?_
                                refine r_off rfl (by decide) rfl ?_
                                refine r_off rfl (by decide) rfl ?_
                                refine r_pick_false rfl rfl rfl rfl ?_
                                refine r_nil ?_
                                refine q_next (fun a ha => ?_)
                                cases hb32
                                exact ⟨rfl, ha.cut (l := [3, 4, 12, 15, 16, 17, 138, 139, 147]) rfl⟩
                      · clear hm
                        rcases cond_some hb16 with ⟨hb34, hb16⟩ | ⟨hb34, hb16⟩
                        · refine r_lit 130 rfl hb34 ?_
                          refine r_move rfl rfl rfl ?_
                          obtain ⟨ex4, he4, hb16⟩ := bind_some hb16
                          refine r_findex (r := rp_Token) u23 sz32 rfl rfl rfl rfl hs3 he4 ?_
                          intro b4 o4 cs4 hf4 hr4
                          have hc4 : cs4 = [.int .i64 ex4.Kind, vs ex4.Text, .int .i64 ex4.N, .int .i64 ex4.Pos] := hr4
                          subst hc4
                          refine r_fieldAddr fa32_0 rfl rfl rfl ?_
                          refine r_loadF1 (j := 0) ag3 rfl rfl hx4 hf4 rfl rfl ?_
                          refine r_bin rfl rfl rfl rfl rfl ?_
                          refine r_pick_true rfl rfl rfl rfl ?_
                          refine r_nil ?_
                          refine q_next (fun a ha => ?_)
                          cases hb16
                          exact ⟨rfl, ha.cut (l := [3, 4, 12, 15, 16, 17, 18, 128, 136]) rfl⟩
                        · refine r_lit 130 rfl hb34 ?_
                          refine r_off rfl (by decide) rfl ?_
                          refine r_off rfl (by decide) rfl ?_
                          refine r_off rfl (by decide) rfl ?_
                          refine r_off rfl (by decide) rfl ?_
                          refine r_off rfl (by decide) rfl ?_
                          refine r_pick_false rfl rfl rfl rfl ?_
                          refine r_nil ?_
                          refine q_next (fun a ha => ?_)
                          cases hb16
                          exact ⟨rfl, ha.cut (l := [3, 4, 12, 15, 16, 17, 18, 128, 136]) rfl⟩
                    · clear hm
                      rcases cond_some hb15 with ⟨hb35, hb15⟩ | ⟨hb35, hb15⟩
                      · refine r_lit 121 rfl hb35 ?_
                        refine r_move rfl rfl rfl ?_
                        obtain ⟨ex5, he5, hb15⟩ := bind_some hb15
                        refine r_findex (r := rp_Token) u23 sz32 rfl rfl rfl rfl hs3 he5 ?_
                        intro b5 o5 cs5 hf5 hr5
                        have hc5 : cs5 = [.int .i64 ex5.Kind, vs ex5.Text, .int .i64 ex5.N, .int .i64 ex5.Pos] := hr5
                        subst hc5
                        refine r_fieldAddr fa32_3 rfl rfl rfl ?_
                        refine r_loadF1 (j := 3) ag3 rfl rfl hx4 hf5 rfl rfl ?_
                        refine r_bin rfl rfl rfl rfl rfl ?_
                        refine r_pick_true rfl rfl rfl rfl ?_
                        refine r_nil ?_
                        refine q_next (fun a ha => ?_)
                        cases hb15
                        exact ⟨rfl, ha.cut (l := [3, 4, 12, 15, 16, 17, 127]) rfl⟩
                      · refine r_lit 121 rfl hb35 ?_
                        refine r_off rfl (by decide) rfl ?_
                        refine r_off rfl (by decide) rfl ?_
                        refine r_off rfl (by decide) rfl ?_
                        refine r_off rfl (by decide) rfl ?_
                        refine r_off rfl (by decide) rfl ?_
                        refine r_pick_false rfl rfl rfl rfl ?_
                        refine r_nil ?_
                        refine q_next (fun a ha => ?_)
                        cases hb15
                        exact ⟨rfl, ha.cut (l := [3, 4, 12, 15, 16, 17, 127]) rfl⟩
                · clear hm
                  rcases cond_some hb7 with ⟨hb36, hb7⟩ | ⟨hb36, hb7⟩
                  · refine r_lit 97 rfl hb36 ?_
                    refine r_off rfl (by decide) rfl ?_
                    refine r_off rfl (by decide) rfl ?_
                    refine r_off rfl (by decide) rfl ?_
                    refine r_pick_true rfl rfl rfl rfl ?_
                    refine r_nil ?_
                    refine q_next (fun a ha => ?_)
                    cases hb7
                    exact ⟨rfl, ha.cut (l := [3, 4, 12, 15, 16, 17, 101]) rfl⟩
                  · refine r_lit 97 rfl hb36 ?_
                    refine r_move rfl rfl rfl ?_
                    refine r_lenS u23 rfl rfl rfl ?_
                    refine r_bin rfl rfl rfl rfl rfl ?_
                    refine r_pick_false rfl rfl rfl rfl ?_
                    refine r_nil ?_
                    refine q_next (fun a ha => ?_)
                    cases hb7
                    exact ⟨rfl, ha.cut (l := [3, 4, 12, 15, 16, 17, 101]) rfl⟩
            · clear hm
              rcases cond_some hb5 with ⟨hb37, hb5⟩ | ⟨hb37, hb5⟩
              · refine r_lit 74 rfl hb37 ?_
                refine r_off rfl (by decide) rfl ?_
                refine r_off rfl (by decide) rfl ?_
                refine r_off rfl (by decide) rfl ?_
                refine r_off rfl (by decide) rfl ?_
                refine r_off rfl (by decide) rfl ?_
                refine r_off rfl (by decide) rfl ?_
                refine r_pick_true rfl rfl rfl rfl ?_
                refine r_nil ?_
                refine q_next (fun a ha => ?_)
                cases hb5
                exact ⟨rfl, ha.cut (l := [3, 4, 81]) rfl⟩
              · refine r_lit 74 rfl hb37 ?_
                refine r_move rfl rfl rfl ?_
                obtain ⟨ex6, he6, hb5⟩ := bind_some hb5
                refine r_findex (r := rp_Token) u23 sz32 rfl rfl rfl rfl hs2 he6 ?_
                intro b6 o6 cs6 hf6 hr6
                have hc6 : cs6 = [.int .i64 ex6.Kind, vs ex6.Text, .int .i64 ex6.N, .int .i64 ex6.Pos] := hr6
                subst hc6
                refine r_loadFA (j := 0) (cs' := [.int .i64 ex6.Kind, vs ex6.Text, .int .i64 ex6.N, .int .i64 ex6.Pos]) ag32 sz32 rfl rfl hx3 hf6 rfl rfl rfl ?_
                refine r_move rfl rfl rfl ?_
                refine r_build (v := .agg #[.int .i64 2, vs v2, .int .i64 0, .int .i64 0]) rfl rfl rfl (fun _ => by kernel_rfl) ?_
                refine r_aggneq (b := eqb_Token ex6 (⟨2, v2, 0, 0⟩ : Token)) (by kernel_rfl) rfl rfl rfl rfl (fun w => eq_Token ex6 (⟨2, v2, 0, 0⟩ : Token) w) ?_
                refine r_pick_false rfl rfl rfl rfl ?_
                refine r_nil ?_
                refine q_next (fun a ha => ?_)
                cases hb5
                exact ⟨rfl, ha.cut (l := [3, 4, 81]) rfl⟩
          · clear hm
            rcases cond_some hb4 with ⟨hb38, hb4⟩ | ⟨hb38, hb4⟩
            · refine r_lit 69 rfl hb38 ?_
              refine r_off rfl (by decide) rfl ?_
              refine r_off rfl (by decide) rfl ?_
              refine r_off rfl (by decide) rfl ?_
              refine r_pick_true rfl rfl rfl rfl ?_
              refine r_nil ?_
              refine q_next (fun a ha => ?_)
              cases hb4
              exact ⟨rfl, ha.cut (l := [3, 4, 9, 73]) rfl⟩
            · refine r_lit 69 rfl hb38 ?_
              refine r_move rfl rfl rfl ?_
              refine r_lenS u23 rfl rfl rfl ?_
              refine r_bin rfl rfl rfl rfl rfl ?_
              refine r_pick_false rfl rfl rfl rfl ?_
              refine r_nil ?_
              refine q_next (fun a ha => ?_)
              cases hb4
              exact ⟨rfl, ha.cut (l := [3, 4, 9, 73]) rfl⟩
        · refine c_lit 60 rfl hb3 ?_
          refine c_false rfl ?_
          refine c_skip ?_
          refine q_then ?_
          refine c_seq ?_
          refine c_region ?_
          refine r_move rfl rfl rfl ?_
          obtain ⟨v25, hv8, hm⟩ := bind_some hm
          refine r_callG0 ent10 rfl rfl rfl rfl hx2 (lexer_Scan_ok _ _ _ hv8 hx2.sat ((hg0.mono hF1).mono hF2)) ?_
          rintro _ Fx5 _ wx23 hF5 hx5 ⟨as4, cs4, rfl, rfl, hs4⟩
          refine r_move rfl rfl rfl ?_
          refine r_extract rfl rfl rfl rfl ?_
          refine r_extract rfl rfl rfl rfl ?_
          refine r_extract rfl rfl rfl rfl ?_
          refine r_assign rfl rfl rfl ?_
          refine r_assign rfl rfl rfl ?_
          refine r_assign rfl rfl rfl ?_
          refine r_nil ?_
          refine q_then ?_
          refine c_seq ?_
          refine c_region ?_
          refine r_move rfl rfl rfl ?_
          obtain ⟨v26, hv9, hm⟩ := bind_some hm
          refine r_callP0 ent17 rfl rfl rfl rfl (lexer_Number_ok _ _ _ hv9) ?_
          refine r_move rfl rfl rfl ?_
          refine r_extract rfl rfl rfl rfl ?_
          refine r_extract rfl rfl rfl rfl ?_
          refine r_assign rfl rfl rfl ?_
          refine r_assign rfl rfl rfl ?_
          refine r_nil ?_
          refine q_then ?_
          refine c_seq ?_
          refine c_region ?_
          refine r_move rfl rfl rfl ?_
          obtain ⟨v27, hv10, hm⟩ := bind_some hm
          refine r_callP0 ent22 rfl rfl rfl rfl (lexer_Name_ok _ _ _ hv10) ?_
          refine r_assign rfl rfl rfl ?_
          refine r_nil ?_
          refine q_then ?_
          refine c_seq ?_
          refine c_seq ?_
          refine c_region ?_
          refine r_move rfl rfl rfl ?_
          refine r_bin rfl rfl rfl rfl rfl ?_
          refine r_move rfl rfl rfl ?_
          obtain ⟨v28, hb39, hm⟩ := bind_some hm
          refine r_mid 4 (fun a w' => wx23 = w' ∧ Has 180 a [(3, .bool v1), (4, vs v2), (12, .slice as4 v25.1.length cs4), (15, .int .i64 v26.1), (16, .bool v26.2), (17, .bool v27), (101, .bool v28)]) ?_ ?_
          · rintro a wx24 ⟨rfl, hax19⟩
            refine rw_apply hax19 ?_
            refine r_nil ?_
            refine q_then ?_
            rcases cond_some hm with ⟨hb40, hm⟩ | ⟨hb40, hm⟩
            · refine c_lit 101 rfl hb40 ?_
              refine c_true rfl ?_
              refine c_seq ?_
              refine c_region ?_
              refine r_move rfl rfl rfl ?_
              refine r_move rfl rfl rfl ?_
              obtain ⟨v29, hb41, hm⟩ := bind_some hm
              refine r_mid 3 (fun a w' => wx23 = w' ∧ Has 180 a [(15, .int .i64 v26.1), (16, .bool v26.2), (106, .bool v29)]) ?_ ?_
              · rintro a wx25 ⟨rfl, hax20⟩
                refine rw_apply hax20 ?_
                refine r_move rfl rfl rfl ?_
                obtain ⟨v30, hb42, hm⟩ := bind_some hm
                refine r_mid 3 (fun a w' => wx23 = w' ∧ Has 180 a [(15, .int .i64 v26.1), (110, .bool v30)]) ?_ ?_
                · rintro a wx26 ⟨rfl, hax21⟩
                  refine rw_apply hax21 ?_
                  refine r_move rfl rfl rfl ?_
                  obtain ⟨v31, hb43, hm⟩ := bind_some hm
                  refine r_mid 3 (fun a w' => wx23 = w' ∧ Has 180 a [(114, .bool v31)]) ?_ ?_
                  · rintro a wx27 ⟨rfl, hax22⟩
                    refine rw_apply hax22 ?_
                    refine r_assign rfl rfl rfl ?_
                    refine r_nil ?_
                    refine q_then ?_
                    refine c_ret ?_
                    refine q_then_ret ?_
                    refine b_ret1 rfl rfl ?_
                    obtain rfl := Option.some.inj hm
                    exact ⟨_, _, _, rfl, hx5.pick [] (by decide) rfl, rfl, rfl⟩
                  · clear hm
                    rcases cond_some hb43 with ⟨hb44, hb43⟩ | ⟨hb44, hb43⟩
                    · refine r_lit 111 rfl hb44 ?_
                      refine r_move rfl rfl rfl ?_
                      refine r_bin rfl rfl rfl rfl rfl ?_
                      refine r_pick_true rfl rfl rfl rfl ?_
                      refine r_nil ?_
                      refine q_next (fun a ha => ?_)
                      cases hb43
                      exact ⟨rfl, ha.cut (l := [114]) rfl⟩
                    · refine r_lit 111 rfl hb44 ?_
                      refine r_off rfl (by decide) rfl ?_
                      refine r_off rfl (by decide) rfl ?_
                      refine r_pick_false rfl rfl rfl rfl ?_
                      refine r_nil ?_
                      refine q_next (fun a ha => ?_)
                      cases hb43
                      exact ⟨rfl, ha.cut (l := [114]) rfl⟩
                · clear hm
                  rcases cond_some hb42 with ⟨hb45, hb42⟩ | ⟨hb45, hb42⟩
                  · refine r_lit 107 rfl hb45 ?_
                    refine r_move rfl rfl rfl ?_
                    refine r_not rfl rfl rfl ?_
                    refine r_pick_true rfl rfl rfl rfl ?_
                    refine r_nil ?_
                    refine q_next (fun a ha => ?_)
                    cases hb42
                    exact ⟨rfl, ha.cut (l := [15, 110]) rfl⟩
                  · refine r_lit 107 rfl hb45 ?_
                    refine r_off rfl (by decide) rfl ?_
                    refine r_off rfl (by decide) rfl ?_
                    refine r_pick_false rfl rfl rfl rfl ?_
                    refine r_nil ?_
                    refine q_next (fun a ha => ?_)
                    cases hb42
                    exact ⟨rfl, ha.cut (l := [15, 110]) rfl⟩
              · clear hm
                rcases cond_some hb41 with ⟨hb46, hb41⟩ | ⟨hb46, hb41⟩
                · refine r_lit 103 rfl hb46 ?_
                  refine r_move rfl rfl rfl ?_
                  refine r_not rfl rfl rfl ?_
                  refine r_pick_true rfl rfl rfl rfl ?_
                  refine r_nil ?_
                  refine q_next (fun a ha => ?_)
                  cases hb41
                  exact ⟨rfl, ha.cut (l := [15, 16, 106]) rfl⟩
                · refine r_lit 103 rfl hb46 ?_
                  refine r_off rfl (by decide) rfl ?_
                  refine r_off rfl (by decide) rfl ?_
                  refine r_pick_false rfl rfl rfl rfl ?_
                  refine r_nil ?_
                  refine q_next (fun a ha => ?_)
                  cases hb41
                  exact ⟨rfl, ha.cut (l := [15, 16, 106]) rfl⟩
            · refine c_lit 101 rfl hb40 ?_
              refine c_false rfl ?_
              refine c_skip ?_
              refine q_then ?_
              refine c_seq ?_
              refine c_region ?_
              refine r_move rfl rfl rfl ?_
              obtain ⟨ex7, he7, hm⟩ := bind_some hm
              refine r_findex (r := rp_Token) u23 sz32 rfl rfl rfl rfl hs4 he7 ?_
              intro b7 o7 cs7 hf7 hr7
              have hc7 : cs7 = [.int .i64 ex7.Kind, vs ex7.Text, .int .i64 ex7.N, .int .i64 ex7.Pos] := hr7
              subst hc7
              refine r_fieldAddr fa32_1 rfl rfl rfl ?_
              refine r_loadF1 (j := 1) ag9 rfl rfl hx5 hf7 rfl rfl ?_
              refine r_move rfl rfl rfl ?_
              refine r_str rfl rfl rfl rfl rfl ?_
              refine r_move rfl rfl rfl ?_
              obtain ⟨v32, hb47, hm⟩ := bind_some hm
              refine r_mid 6 (fun a w' => wx23 = w' ∧ Has 180 a [(3, .bool v1), (4, vs v2), (12, .slice as4 v25.1.length cs4), (15, .int .i64 v26.1), (16, .bool v26.2), (17, .bool v27), (127, .bool v32)]) ?_ ?_
              · rintro a wx28 ⟨rfl, hax23⟩
                refine rw_apply hax23 ?_
                refine r_assign rfl rfl rfl ?_
                refine r_nil ?_
                refine q_then ?_
                refine c_seq ?_
                refine c_seq ?_
                refine c_region ?_
                refine r_move rfl rfl rfl ?_
                refine r_move rfl rfl rfl ?_
                refine r_move rfl rfl rfl ?_
                obtain ⟨v33, hb48, hm⟩ := bind_some hm
                refine r_mid 6 (fun a w' => wx23 = w' ∧ Has 180 a [(3, .bool v1), (4, vs v2), (12, .slice as4 v25.1.length cs4), (15, .int .i64 v26.1), (16, .bool v26.2), (17, .bool v27), (18, .bool v32), (128, .bool v27), (136, .bool v33)]) ?_ ?_
                · rintro a wx29 ⟨rfl, hax24⟩
                  refine rw_apply hax24 ?_
                  refine r_bne u4 rfl rfl rfl rfl ?_
                  refine r_move rfl rfl rfl ?_
                  obtain ⟨v34, hb49, hm⟩ := bind_some hm
                  refine r_mid 11 (fun a w' => wx23 = w' ∧ Has 180 a [(3, .bool v1), (4, vs v2), (12, .slice as4 v25.1.length cs4), (15, .int .i64 v26.1), (16, .bool v26.2), (17, .bool v27), (149, .bool v34)]) ?_ ?_
                  · rintro a wx30 ⟨rfl, hax25⟩
                    refine rw_apply hax25 ?_
                    refine r_nil ?_
                    refine q_then ?_
                    rcases cond_some hm with ⟨hb50, hm⟩ | ⟨hb50, hm⟩
                    · refine c_lit 149 rfl hb50 ?_
                      refine c_true rfl ?_
                      refine c_seq ?_
                      refine c_region ?_
                      refine r_assign rfl rfl rfl ?_
                      refine r_nil ?_
                      refine q_then ?_
                      refine c_ret ?_
                      refine q_then_ret ?_
                      refine b_ret1 rfl rfl ?_
                      obtain rfl := Option.some.inj hm
                      exact ⟨_, _, _, rfl, hx5.pick [] (by decide) rfl, rfl, rfl⟩
                    · refine c_lit 149 rfl hb50 ?_
                      refine c_false rfl ?_
                      refine c_skip ?_
                      refine q_then ?_
                      refine c_seq ?_
                      refine c_region ?_
                      refine r_move rfl rfl rfl ?_
                      refine r_move rfl rfl rfl ?_
                      obtain ⟨v35, hb51, hm⟩ := bind_some hm
                      refine r_mid 8 (fun a w' => wx23 = w' ∧ Has 180 a [(12, .slice as4 v25.1.length cs4), (15, .int .i64 v26.1), (16, .bool v26.2), (159, .bool v35)]) ?_ ?_
                      · rintro a wx31 ⟨rfl, hax26⟩
                        refine rw_apply hax26 ?_
                        refine r_move rfl rfl rfl ?_
                        obtain ⟨v36, hb52, hm⟩ := bind_some hm
                        refine r_mid 19 (fun a w' => wx23 = w' ∧ Has 180 a [(179, .bool v36)]) ?_ ?_
                        · rintro a wx32 ⟨rfl, hax27⟩
                          refine rw_apply hax27 ?_
                          refine r_assign rfl rfl rfl ?_
                          refine r_nil ?_
                          refine q_then ?_
                          refine c_ret ?_
                          refine b_ret1 rfl rfl ?_
                          obtain rfl := Option.some.inj hm
                          exact ⟨_, _, _, rfl, hx5.pick [] (by decide) rfl, rfl, rfl⟩
                        · clear hm
                          rcases cond_some hb52 with ⟨hb53, hb52⟩ | ⟨hb53, hb52⟩
                          · refine r_lit 160 rfl hb53 ?_
                            refine r_move rfl rfl rfl ?_
                            refine r_not rfl rfl rfl ?_
                            refine r_move rfl rfl rfl ?_
                            obtain ⟨v37, hb54, hb52⟩ := bind_some hb52
                            refine r_mid 15 (fun a w' => wx23 = w' ∧ Has 180 a [(160, .bool true), (178, .bool v37)]) ?_ ?_
                            · rintro a wx33 ⟨rfl, hax28⟩
                              refine rw_apply hax28 ?_
                              refine r_pick_true rfl rfl rfl rfl ?_
                              refine r_nil ?_
                              refine q_next (fun a ha => ?_)
                              cases hb52
                              exact ⟨rfl, ha.cut (l := [179]) rfl⟩
                            · clear hb52
                              rcases cond_some hb54 with ⟨hb55, hb54⟩ | ⟨hb55, hb54⟩
                              · refine r_lit 163 rfl hb55 ?_
                                refine r_off rfl (by decide) rfl ?_
                                refine r_off rfl (by decide) rfl ?_
                                refine r_off rfl (by decide) rfl ?_
                                refine r_off rfl (by decide) rfl ?_
                                refine r_off rfl (by decide) rfl ?_
                                refine r_off rfl (by decide) rfl ?_
                                refine r_off rfl (by decide) rfl ?_
                                refine r_off rfl (by decide) rfl ?_
                                refine r_off rfl (by decide) rfl ?_
                                refine r_off rfl (by decide) rfl ?_
                                refine r_off rfl (by decide) rfl ?_
                                refine r_off rfl (by decide) rfl ?_
                                refine r_off rfl (by decide) rfl ?_
                                refine r_off rfl (by decide) rfl ?_
                                refine r_pick_true rfl rfl rfl rfl ?_
                                refine r_nil ?_
                                refine q_next (fun a ha => ?_)
                                cases hb54
                                exact ⟨rfl, ha.cut (l := [160, 178]) rfl⟩
                              · refine r_lit 163 rfl hb55 ?_
                                refine r_move rfl rfl rfl ?_
                                refine r_move rfl rfl rfl ?_
                                obtain ⟨ex8, he8, hb54⟩ := bind_some hb54
                                refine r_findex (r := rp_Token) u23 sz32 rfl rfl rfl rfl hs4 he8 ?_
                                intro b8 o8 cs8 hf8 hr8
                                have hc8 : cs8 = [.int .i64 ex8.Kind, vs ex8.Text, .int .i64 ex8.N, .int .i64 ex8.Pos] := hr8
                                subst hc8
                                refine r_fieldAddr fa32_2 rfl rfl rfl ?_
                                refine r_loadF1 (j := 2) ag3 rfl rfl hx5 hf8 rfl rfl ?_
                                refine r_bin rfl rfl rfl rfl rfl ?_
                                refine r_move rfl rfl rfl ?_
                                obtain ⟨v38, hb56, hb54⟩ := bind_some hb54
                                refine r_mid 3 (fun a w' => wx23 = w' ∧ Has 180 a [(15, .int .i64 v26.1), (160, .bool true), (163, .bool false), (173, .bool v38)]) ?_ ?_
                                · rintro a wx34 ⟨rfl, hax29⟩
                                  refine rw_apply hax29 ?_
                                  refine r_move rfl rfl rfl ?_
                                  obtain ⟨v39, hb57, hb54⟩ := bind_some hb54
                                  refine r_mid 3 (fun a w' => wx23 = w' ∧ Has 180 a [(160, .bool true), (163, .bool false), (177, .bool v39)]) ?_ ?_
                                  · rintro a wx35 ⟨rfl, hax30⟩
                                    refine rw_apply hax30 ?_
                                    refine r_pick_false rfl rfl rfl rfl ?_
                                    refine r_nil ?_
                                    refine q_next (fun a ha => ?_)
                                    cases hb54
                                    exact ⟨rfl, ha.cut (l := [160, 178]) rfl⟩
                                  · clear hb54
                                    rcases cond_some hb57 with ⟨hb58, hb57⟩ | ⟨hb58, hb57⟩
                                    · refine r_lit 174 rfl hb58 ?_
                                      refine r_move rfl rfl rfl ?_
                                      refine r_bin rfl rfl rfl rfl rfl ?_
                                      refine r_pick_true rfl rfl rfl rfl ?_
                                      refine r_nil ?_
                                      refine q_next (fun a ha => ?_)
                                      cases hb57
                                      exact ⟨rfl, ha.cut (l := [160, 163, 177]) rfl⟩
                                    · refine r_lit 174 rfl hb58 ?_
                                      refine r_off rfl (by decide) rfl ?_
                                      refine r_off rfl (by decide) rfl ?_
                                      refine r_pick_false rfl rfl rfl rfl ?_
                                      refine r_nil ?_
                                      refine q_next (fun a ha => ?_)
                                      cases hb57
                                      exact ⟨rfl, ha.cut (l := [160, 163, 177]) rfl⟩
                                · clear hb54
                                  rcases cond_some hb56 with ⟨hb59, hb56⟩ | ⟨hb59, hb56⟩
                                  · refine r_lit 170 rfl hb59 ?_
                                    refine r_move rfl rfl rfl ?_
                                    refine r_bin rfl rfl rfl rfl rfl ?_
                                    refine r_pick_true rfl rfl rfl rfl ?_
                                    refine r_nil ?_
                                    refine q_next (fun a ha => ?_)
                                    cases hb56
                                    exact ⟨rfl, ha.cut (l := [15, 160, 163, 173]) rfl⟩
                                  · refine r_lit 170 rfl hb59 ?_
                                    refine r_off rfl (by decide) rfl ?_
                                    refine r_off rfl (by decide) rfl ?_
                                    refine r_pick_false rfl rfl rfl rfl ?_
                                    refine r_nil ?_
                                    refine q_next (fun a ha => ?_)
                                    cases hb56
                                    exact ⟨rfl, ha.cut (l := [15, 160, 163, 173]) rfl⟩
                          · refine r_lit 160 rfl hb53 ?_
                            refine r_off rfl (by decide) rfl ?_
                            refine r_off rfl (by decide) rfl ?_
                            refine r_off rfl (by decide) rfl ?_
                            refine r_off rfl (by decide) rfl ?_
                            refine r_off rfl (by decide) rfl ?_
                            refine r_off rfl (by decide) rfl ?_
                            refine r_off rfl (by decide) rfl ?_
                            refine r_off rfl (by decide) rfl ?_
                            refine r_off rfl (by decide) rfl ?_
                            refine r_off rfl (by decide) rfl ?_
                            refine r_off rfl (by decide) rfl ?_
                            refine r_off rfl (by decide) rfl ?_
                            refine r_off rfl (by decide) rfl ?_
                            refine r_off rfl (by decide) rfl ?_
                            refine r_off rfl (by decide) rfl ?_
                            refine r_off rfl (by decide) rfl ?_
                            refine r_off rfl (by decide) rfl ?_
                            refine r_off rfl (by decide) rfl ?_
                            refine r_pick_false rfl rfl rfl rfl ?_
                            refine r_nil ?_
                            refine q_next (fun a ha => ?_)
                            cases hb52
                            exact ⟨rfl, ha.cut (l := [179]) rfl⟩
                      · clear hm
                        rcases cond_some hb51 with ⟨hb60, hb51⟩ | ⟨hb60, hb51⟩
                        · refine r_lit 151 rfl hb60 ?_
                          refine r_move rfl rfl rfl ?_
                          refine r_not rfl rfl rfl ?_
                          refine r_move rfl rfl rfl ?_
                          obtain ⟨v40, hb61, hb51⟩ := bind_some hb51
                          refine r_mid 4 (fun a w' => wx23 = w' ∧ Has 180 a [(12, .slice as4 v25.1.length cs4), (15, .int .i64 v26.1), (16, .bool v26.2), (151, .bool true), (158, .bool v40)]) ?_ ?_
                          · rintro a wx36 ⟨rfl, hax31⟩
                            refine rw_apply hax31 ?_
                            refine r_pick_true rfl rfl rfl rfl ?_
                            refine r_nil ?_
                            refine q_next (fun a ha => ?_)
                            cases hb51
                            exact ⟨rfl, ha.cut (l := [12, 15, 16, 159]) rfl⟩
                          · clear hb51
                            rcases cond_some hb61 with ⟨hb62, hb61⟩ | ⟨hb62, hb61⟩
                            · refine r_lit 154 rfl hb62 ?_
                              refine r_off rfl (by decide) rfl ?_
                              refine r_off rfl (by decide) rfl ?_
                              refine r_off rfl (by decide) rfl ?_
                              refine r_pick_true rfl rfl rfl rfl ?_
                              refine r_nil ?_
                              refine q_next (fun a ha => ?_)
                              cases hb61
                              exact ⟨rfl, ha.cut (l := [12, 15, 16, 151, 158]) rfl⟩
                            · refine r_lit 154 rfl hb62 ?_
                              refine r_move rfl rfl rfl ?_
                              refine r_slen u9 rfl rfl rfl ?_
                              refine r_bin rfl rfl rfl rfl rfl ?_
                              refine r_pick_false rfl rfl rfl rfl ?_
                              refine r_nil ?_
                              refine q_next (fun a ha => ?_)
                              cases hb61
                              exact ⟨rfl, ha.cut (l := [12, 15, 16, 151, 158]) rfl⟩
                        · refine r_lit 151 rfl hb60 ?_
                          refine r_off rfl (by decide) rfl ?_
                          refine r_off rfl (by decide) rfl ?_
                          refine r_off rfl (by decide) rfl ?_
                          refine r_off rfl (by decide) rfl ?_
                          refine r_off rfl (by decide) rfl ?_
                          refine r_off rfl (by decide) rfl ?_
                          refine r_off rfl (by decide) rfl ?_
                          refine r_pick_false rfl rfl rfl rfl ?_
                          refine r_nil ?_
                          refine q_next (fun a ha => ?_)
                          cases hb51
                          exact ⟨rfl, ha.cut (l := [12, 15, 16, 159]) rfl⟩
                  · clear hm
                    rcases cond_some hb49 with ⟨hb63, hb49⟩ | ⟨hb63, hb49⟩
                    · refine r_lit 138 rfl hb63 ?_
                      refine r_off rfl (by decide) rfl ?_
                      refine r_off rfl (by decide) rfl ?_
                      refine r_off rfl (by decide) rfl ?_
                      refine r_off rfl (by decide) rfl ?_
                      refine r_off rfl (by decide) rfl ?_
                      refine r_off rfl (by decide) rfl ?_
                      refine r_off rfl (by decide) rfl ?_
                      refine r_off rfl (by decide) rfl ?_
                      refine r_off rfl (by decide) rfl ?_
                      refine r_off rfl (by decide) rfl ?_
                      refine r_pick_true rfl rfl rfl rfl ?_
                      refine r_nil ?_
                      refine q_next (fun a ha => ?_)
                      cases hb49
                      exact ⟨rfl, ha.cut (l := [3, 4, 12, 15, 16, 17, 149]) rfl⟩
                    · refine r_lit 138 rfl hb63 ?_
                      refine r_move rfl rfl rfl ?_
                      refine r_move rfl rfl rfl ?_
                      refine r_move rfl rfl rfl ?_
                      obtain ⟨v41, hb64, hb49⟩ := bind_some hb49
                      refine r_mid 6 (fun a w' => wx23 = w' ∧ Has 180 a [(3, .bool v1), (4, vs v2), (12, .slice as4 v25.1.length cs4), (15, .int .i64 v26.1), (16, .bool v26.2), (17, .bool v27), (138, .bool false), (139, .bool v26.2), (147, .bool v41)]) ?_ ?_
                      · rintro a wx37 ⟨rfl, hax32⟩
                        refine rw_apply hax32 ?_
                        refine r_bne u4 rfl rfl rfl rfl ?_
                        refine r_pick_false rfl rfl rfl rfl ?_
                        refine r_nil ?_
                        refine q_next (fun a ha => ?_)
                        cases hb49
                        exact ⟨rfl, ha.cut (l := [3, 4, 12, 15, 16, 17, 149]) rfl⟩
                      · clear hb49
                        rcases cond_some hb64 with ⟨hb65, hb64⟩ | ⟨hb65, hb64⟩
                        · refine r_lit 141 rfl hb65 ?_
                          refine r_move rfl rfl rfl ?_
                          obtain ⟨ex9, he9, hb64⟩ := bind_some hb64
                          refine r_findex (r := rp_Token) u23 sz32 rfl rfl rfl rfl hs4 he9 ?_
                          intro b9 o9 cs9 hf9 hr9
                          have hc9 : cs9 = [.int .i64 ex9.Kind, vs ex9.Text, .int .i64 ex9.N, .int .i64 ex9.Pos] := hr9
                          subst hc9
                          refine r_fieldAddr fa32_0 rfl rfl rfl ?_
                          refine r_loadF1 (j := 0) ag3 rfl rfl hx5 hf9 rfl rfl ?_
                          refine r_bin rfl rfl rfl rfl rfl ?_
                          refine r_pick_true rfl rfl rfl rfl ?_
                          refine r_nil ?_
                          refine q_next (fun a ha => ?_)
                          cases hb64
                          exact ⟨rfl, ha.cut (l := [3, 4, 12, 15, 16, 17, 138, 139, 147]) rfl⟩
                        · refine r_lit 141 rfl hb65 ?_
                          refine r_off rfl (by decide) rfl ?_
                          refine r_off rfl (by decide) rfl ?_
                          refine r_off rfl (by decide) rfl ?_
                          refine r_off rfl (by decide) rfl ?_
                          refine r_off rfl (by decide) rfl ?_
                          refine r_pick_false rfl rfl rfl rfl ?_
                          refine r_nil ?_
                          refine q_next (fun a ha => ?_)
                          cases hb64
                          exact ⟨rfl, ha.cut (l := [3, 4, 12, 15, 16, 17, 138, 139, 147]) rfl⟩
                · clear hm
                  rcases cond_some hb48 with ⟨hb66, hb48⟩ | ⟨hb66, hb48⟩
                  · refine r_lit 130 rfl hb66 ?_
                    refine r_move rfl rfl rfl ?_
                    obtain ⟨ex10, he10, hb48⟩ := bind_some hb48
                    refine r_findex (r := rp_Token) u23 sz32 rfl rfl rfl rfl hs4 he10 ?_
                    intro b10 o10 cs10 hf10 hr10
                    have hc10 : cs10 = [.int .i64 ex10.Kind, vs ex10.Text, .int .i64 ex10.N, .int .i64 ex10.Pos] := hr10
                    subst hc10
                    refine r_fieldAddr fa32_0 rfl rfl rfl ?_
                    refine r_loadF1 (j := 0) ag3 rfl rfl hx5 hf10 rfl rfl ?_
                    refine r_bin rfl rfl rfl rfl rfl ?_
                    refine r_pick_true rfl rfl rfl rfl ?_
                    refine r_nil ?_
                    refine q_next (fun a ha => ?_)
                    cases hb48
                    exact ⟨rfl, ha.cut (l := [3, 4, 12, 15, 16, 17, 18, 128, 136]) rfl⟩
                  · refine r_lit 130 rfl hb66 ?_
                    refine r_off rfl (by decide) rfl ?_
                    refine r_off rfl (by decide) rfl ?_
                    refine r_off rfl (by decide) rfl ?_
                    refine r_off rfl (by decide) rfl ?_
                    refine r_off rfl (by decide) rfl ?_
                    refine r_pick_false rfl rfl rfl rfl ?_
                    refine r_nil ?_
                    refine q_next (fun a ha => ?_)
                    cases hb48
                    exact ⟨rfl, ha.cut (l := [3, 4, 12, 15, 16, 17, 18, 128, 136]) rfl⟩
              · clear hm
                rcases cond_some hb47 with ⟨hb67, hb47⟩ | ⟨hb67, hb47⟩
                · refine r_lit 121 rfl hb67 ?_
                  refine r_move rfl rfl rfl ?_
                  obtain ⟨ex11, he11, hb47⟩ := bind_some hb47
                  refine r_findex (r := rp_Token) u23 sz32 rfl rfl rfl rfl hs4 he11 ?_
                  intro b11 o11 cs11 hf11 hr11
                  have hc11 : cs11 = [.int .i64 ex11.Kind, vs ex11.Text, .int .i64 ex11.N, .int .i64 ex11.Pos] := hr11
                  subst hc11
                  refine r_fieldAddr fa32_3 rfl rfl rfl ?_
                  refine r_loadF1 (j := 3) ag3 rfl rfl hx5 hf11 rfl rfl ?_
                  refine r_bin rfl rfl rfl rfl rfl ?_
                  refine r_pick_true rfl rfl rfl rfl ?_
                  refine r_nil ?_
                  refine q_next (fun a ha => ?_)
                  cases hb47
                  exact ⟨rfl, ha.cut (l := [3, 4, 12, 15, 16, 17, 127]) rfl⟩
                · refine r_lit 121 rfl hb67 ?_
                  refine r_off rfl (by decide) rfl ?_
                  refine r_off rfl (by decide) rfl ?_
                  refine r_off rfl (by decide) rfl ?_
                  refine r_off rfl (by decide) rfl ?_
                  refine r_off rfl (by decide) rfl ?_
                  refine r_pick_false rfl rfl rfl rfl ?_
                  refine r_nil ?_
                  refine q_next (fun a ha => ?_)
                  cases hb47
                  exact ⟨rfl, ha.cut (l := [3, 4, 12, 15, 16, 17, 127]) rfl⟩
          · clear hm
            rcases cond_some hb39 with ⟨hb68, hb39⟩ | ⟨hb68, hb39⟩
            · refine r_lit 97 rfl hb68 ?_
              refine r_off rfl (by decide) rfl ?_
              refine r_off rfl (by decide) rfl ?_
              refine r_off rfl (by decide) rfl ?_
              refine r_pick_true rfl rfl rfl rfl ?_
              refine r_nil ?_
              refine q_next (fun a ha => ?_)
              cases hb39
              exact ⟨rfl, ha.cut (l := [3, 4, 12, 15, 16, 17, 101]) rfl⟩
            · refine r_lit 97 rfl hb68 ?_
              refine r_move rfl rfl rfl ?_
              refine r_lenS u23 rfl rfl rfl ?_
              refine r_bin rfl rfl rfl rfl rfl ?_
              refine r_pick_false rfl rfl rfl rfl ?_
              refine r_nil ?_
              refine q_next (fun a ha => ?_)
              cases hb39
              exact ⟨rfl, ha.cut (l := [3, 4, 12, 15, 16, 17, 101]) rfl⟩
    · clear hm
      rcases cond_some hb1 with ⟨hb69, hb1⟩ | ⟨hb69, hb1⟩
      · refine r_lit 52 rfl hb69 ?_
        refine r_off rfl (by decide) rfl ?_
        refine r_off rfl (by decide) rfl ?_
        refine r_off rfl (by decide) rfl ?_
        refine r_off rfl (by decide) rfl ?_
        refine r_off rfl (by decide) rfl ?_
        refine r_off rfl (by decide) rfl ?_
        refine r_pick_true rfl rfl rfl rfl ?_
        refine r_nil ?_
        refine q_next (fun a ha => ?_)
        cases hb1
        exact ⟨rfl, ha.cut (l := [3, 4, 5, 6, 59]) rfl⟩
      · refine r_lit 52 rfl hb69 ?_
        refine r_move rfl rfl rfl ?_
        refine r_not rfl rfl rfl ?_
        refine r_move rfl rfl rfl ?_
        obtain ⟨v42, hb70, hb1⟩ := bind_some hb1
        refine r_mid 3 (fun a w' => wx2 = w' ∧ Has 180 a [(3, .bool v1), (4, vs v2), (5, vs v3.1), (6, .bool v3.2), (52, .bool false), (58, .bool v42)]) ?_ ?_
        · rintro a wx38 ⟨rfl, hax33⟩
          refine rw_apply hax33 ?_
          refine r_pick_false rfl rfl rfl rfl ?_
          refine r_nil ?_
          refine q_next (fun a ha => ?_)
          cases hb1
          exact ⟨rfl, ha.cut (l := [3, 4, 5, 6, 59]) rfl⟩
        · clear hb1
          rcases cond_some hb70 with ⟨hb71, hb70⟩ | ⟨hb71, hb70⟩
          · refine r_lit 55 rfl hb71 ?_
            refine r_move rfl rfl rfl ?_
            refine r_str rfl rfl rfl rfl rfl ?_
            refine r_pick_true rfl rfl rfl rfl ?_
            refine r_nil ?_
            refine q_next (fun a ha => ?_)
            cases hb70
            exact ⟨rfl, ha.cut (l := [3, 4, 5, 6, 52, 58]) rfl⟩
          · refine r_lit 55 rfl hb71 ?_
            refine r_off rfl (by decide) rfl ?_
            refine r_off rfl (by decide) rfl ?_
            refine r_pick_false rfl rfl rfl rfl ?_
            refine r_nil ?_
            refine q_next (fun a ha => ?_)
            cases hb70
            exact ⟨rfl, ha.cut (l := [3, 4, 5, 6, 52, 58]) rfl⟩
  · clear hm hkont1; intro hk1 mx1 K ihx1
    rintro ⟨plain1, i1⟩ a wx39 hm ⟨rfl, hax34⟩
    simp only [law06_LexerQuotes_L1_s] at hm
    refine cw_apply hax34 ?_
    refine c_seq ?_
    refine c_seq ?_
    refine c_region ?_
    refine r_move rfl rfl rfl ?_
    refine r_move rfl rfl rfl ?_
    refine r_slen u9 rfl rfl rfl ?_
    refine r_bin rfl rfl rfl rfl rfl ?_
    refine r_nil ?_
    refine q_then ?_
    rcases cond_some hm with ⟨hb72, hm⟩ | ⟨hb72, hm⟩
    · refine c_lit 33 rfl hb72 ?_
      refine c_true rfl ?_
      refine c_skip ?_
      refine q_then ?_
      refine c_seq ?_
      refine c_block ?_
      refine c_region ?_
      refine r_move rfl rfl rfl ?_
      refine r_move rfl rfl rfl ?_
      obtain ⟨v43, hb73, hm⟩ := bind_some hm
      refine r_mid 5 (fun a w' => wx2 = w' ∧ Has 180 a [(3, .bool v1), (4, vs v2), (5, vs v3.1), (6, .bool v3.2), (8, .int .i64 i1), (42, .bool v43)]) ?_ ?_
      · rintro a wx40 ⟨rfl, hax35⟩
        refine rw_apply hax35 ?_
        refine r_move rfl rfl rfl ?_
        obtain ⟨v44, hb74, hm⟩ := bind_some hm
        refine r_mid 5 (fun a w' => wx2 = w' ∧ Has 180 a [(3, .bool v1), (4, vs v2), (5, vs v3.1), (6, .bool v3.2), (8, .int .i64 i1), (48, .bool v44)]) ?_ ?_
        · rintro a wx41 ⟨rfl, hax36⟩
          refine rw_apply hax36 ?_
          refine r_assign rfl rfl rfl ?_
          refine r_nil ?_
          refine q_block ?_
          refine q_then ?_
          refine c_region ?_
          refine r_move rfl rfl rfl ?_
          refine r_bin rfl rfl rfl rfl rfl ?_
          refine r_assign rfl rfl rfl ?_
          refine r_nil ?_
          refine q_next (fun a ha => ihx1 (v44, (iadd .i64 i1 1)) a _ hm ?_)
          exact ⟨rfl, ha.cut (l := [3, 4, 5, 6, 7, 8]) rfl⟩
        · clear hm
          rcases cond_some hb74 with ⟨hb75, hb74⟩ | ⟨hb75, hb74⟩
          · refine r_lit 43 rfl hb75 ?_
            refine r_move rfl rfl rfl ?_
            refine r_move rfl rfl rfl ?_
            obtain ⟨c1, hc12, hb74⟩ := bind_some hb74
            refine r_sidx u9 rfl rfl rfl rfl hc12 ?_
            refine r_bin rfl rfl rfl rfl rfl ?_
            refine r_pick_true rfl rfl rfl rfl ?_
            refine r_nil ?_
            refine q_next (fun a ha => ?_)
            cases hb74
            exact ⟨rfl, ha.cut (l := [3, 4, 5, 6, 8, 48]) rfl⟩
          · refine r_lit 43 rfl hb75 ?_
            refine r_off rfl (by decide) rfl ?_
            refine r_off rfl (by decide) rfl ?_
            refine r_off rfl (by decide) rfl ?_
            refine r_off rfl (by decide) rfl ?_
            refine r_pick_false rfl rfl rfl rfl ?_
            refine r_nil ?_
            refine q_next (fun a ha => ?_)
            cases hb74
            exact ⟨rfl, ha.cut (l := [3, 4, 5, 6, 8, 48]) rfl⟩
      · clear hm
        rcases cond_some hb73 with ⟨hb76, hb73⟩ | ⟨hb76, hb73⟩
        · refine r_lit 37 rfl hb76 ?_
          refine r_move rfl rfl rfl ?_
          refine r_move rfl rfl rfl ?_
          obtain ⟨c2, hc13, hb73⟩ := bind_some hb73
          refine r_sidx u9 rfl rfl rfl rfl hc13 ?_
          refine r_bin rfl rfl rfl rfl rfl ?_
          refine r_pick_true rfl rfl rfl rfl ?_
          refine r_nil ?_
          refine q_next (fun a ha => ?_)
          cases hb73
          exact ⟨rfl, ha.cut (l := [3, 4, 5, 6, 8, 42]) rfl⟩
        · refine r_lit 37 rfl hb76 ?_
          refine r_off rfl (by decide) rfl ?_
          refine r_off rfl (by decide) rfl ?_
          refine r_off rfl (by decide) rfl ?_
          refine r_off rfl (by decide) rfl ?_
          refine r_pick_false rfl rfl rfl rfl ?_
          refine r_nil ?_
          refine q_next (fun a ha => ?_)
          cases hb73
          exact ⟨rfl, ha.cut (l := [3, 4, 5, 6, 8, 42]) rfl⟩
    · refine c_lit 33 rfl hb72 ?_
      refine c_false rfl ?_
      refine c_exit ?_
      refine q_then_exit ?_
      refine q_then_exit ?_
      refine fun a ha => hk1 plain1 a _ hm ?_
      exact ⟨rfl, ha.cut (l := [3, 4, 5, 6, 7]) rfl⟩


end Go.Proofs.YtaibejlploombaaDoor.M
