/-
  THE MIRRORS of the lexer's functions, of its reference and of the laws, and that each call returns what its mirror says. Printed by gen.py.
-/
import Derived.Test.YtaibejlploombaaDoorRows
import Derived.Test.YtaibejlploombaaDoorRt6
import Derived.Test.YtaibejlploombaaDoorExt1
import Derived.Test.YtaibejlploombaaDoorMirD
namespace Go.Proofs.YtaibejlploombaaDoor.M
open Go Go.RowKit Rt

def law06_LexerErrors_L1 (n : Nat) (kont1 : Bs → Option Bool) : Nat → Bs → Option Bool
  | 0, _ => none
  | mx1 + 1, fill1 =>
    bif decide ((fill1.length : Int) < 4000) then
      (scat fill1 fill1).bind fun t8 =>
      law06_LexerErrors_L1 n kont1 mx1 t8
    else
      kont1 fill1

theorem law06_LexerErrors_L1_s (n : Nat) (kont1 : Bs → Option Bool) (mx1 : Nat) (fill1 : Bs) : law06_LexerErrors_L1 n kont1 (mx1 + 1) fill1 =
    bif decide ((fill1.length : Int) < 4000) then
      (scat fill1 fill1).bind fun t8 =>
      law06_LexerErrors_L1 n kont1 mx1 t8
    else
      kont1 fill1 := rfl

def law06_LexerErrors (n : Nat) (s1 : Bs) (full1 : Bool) : Option Bool :=
  (law06_sane n).bind fun v1 =>
  (law06_cut n s1).bind fun v2 =>
  (lexer_Scan n v2).bind fun v3 =>
  bif full1 then
    law06_LexerErrors_L1 n (fun (fill2 : Bs) =>
      (scat v2 [10]).bind fun t1 =>
      (ssl fill2 0 (isub .i64 4000 (t1.length : Int))).bind fun t2 =>
      (scat t1 t2).bind fun t3 =>
      (lexer_Scan n t3).bind fun v4 =>
      (ssl fill2 0 (isub .i64 4001 (t1.length : Int))).bind fun t4 =>
      (scat t1 t4).bind fun t5 =>
      (lexer_Scan n t5).bind fun v5 =>
      (bif v5.2.2 != 6 then
        some true
      else
        some (v5.2.1 != 0)).bind fun v6 =>
      (bif v6 then
        some true
      else
        some (v4.2.2 != v3.2.2)).bind fun v7 =>
      (bif v7 then
        some true
      else
        some ((v4.1.length : Int) != (v3.1.length : Int))).bind fun v8 =>
      bif v8 then
        some false
      else
        bif v3.2.2 == 0 then
          some v1
        else
          (bif decide (v3.2.1 < 0) then
            some true
          else
            some (decide ((v2.length : Int) ≤ v3.2.1))).bind fun v9 =>
          (bif v9 then
            some true
          else
            (bif v3.2.2 != 10 then
              some (v3.2.2 != 3)
            else
              some false).bind fun v16 =>
            (bif v16 then
              some (v3.2.2 != 2)
            else
              some false).bind fun v17 =>
            some v17).bind fun v10 =>
          bif v10 then
            some false
          else
            (ssl v2 0 v3.2.1).bind fun t6 =>
            (lexer_Scan n t6).bind fun v11 =>
            (ssl v2 v3.2.1 v2.length).bind fun t7 =>
            (lexer_Scan n t7).bind fun v12 =>
            (bif v1 then
              some (v11.2.2 == 0)
            else
              some false).bind fun v13 =>
            (bif v13 then
              some (v12.2.2 == v3.2.2)
            else
              some false).bind fun v14 =>
            (bif v14 then
              some (v12.2.1 == 0)
            else
              some false).bind fun v15 =>
            some v15) n [32, 32, 32, 32, 32, 32, 32, 32, 32, 32]
  else
    bif v3.2.2 == 0 then
      some v1
    else
      (bif decide (v3.2.1 < 0) then
        some true
      else
        some (decide ((v2.length : Int) ≤ v3.2.1))).bind fun v18 =>
      (bif v18 then
        some true
      else
        (bif v3.2.2 != 10 then
          some (v3.2.2 != 3)
        else
          some false).bind fun v25 =>
        (bif v25 then
          some (v3.2.2 != 2)
        else
          some false).bind fun v26 =>
        some v26).bind fun v19 =>
      bif v19 then
        some false
      else
        (ssl v2 0 v3.2.1).bind fun t9 =>
        (lexer_Scan n t9).bind fun v20 =>
        (ssl v2 v3.2.1 v2.length).bind fun t10 =>
        (lexer_Scan n t10).bind fun v21 =>
        (bif v1 then
          some (v20.2.2 == 0)
        else
          some false).bind fun v22 =>
        (bif v22 then
          some (v21.2.2 == v3.2.2)
        else
          some false).bind fun v23 =>
        (bif v23 then
          some (v21.2.1 == 0)
        else
          some false).bind fun v24 =>
        some v24

set_option maxHeartbeats 1000000 in
set_option maxRecDepth 1000000 in
theorem law06_LexerErrors_ok (n : Nat) (s1 : Bs) (full1 : Bool) (r : Bool) (hm : law06_LexerErrors n s1 full1 = some r) {w : World} {F : Frz} (hs : Sat F w) (hg0 : FC F 0 0 [.int .u8 40, .int .u8 41, .int .u8 44, .int .u8 59, .int .u8 58, .int .u8 61, .int .u8 60, .int .u8 43, .int .u8 45, .int .u8 42, .int .u8 47, .int .u8 123, .int .u8 125]) :
    Calls Tryd.prog 6 #[vs s1, .bool full1] w fun e w' => ∃ v F' O', e = .returned v ∧ HS F w [] F' O' w' ∧ (v = .bool r ∧ O' = []) := by
  unfold law06_LexerErrors at hm
  have h := HS.init hs
  refine calls_of (args := [vs s1, .bool full1]) 137 Tryd.func6 rfl rfl rfl ?_
  refine c_seq ?_
  refine c_region ?_
  refine r_assign rfl rfl rfl ?_
  refine r_nil ?_
  refine q_then ?_
  refine c_seq ?_
  refine c_region ?_
  obtain ⟨v1, hv1, hm⟩ := bind_some hm
  refine r_callG0 ent9 rfl rfl rfl rfl h (law06_sane_ok _ _ hv1 h.sat hg0) ?_
  rintro _ Fx1 _ wx1 hF1 hx1 ⟨rfl, rfl⟩
  refine r_assign rfl rfl rfl ?_
  refine r_nil ?_
  refine q_then ?_
  refine c_seq ?_
  refine c_region ?_
  refine r_move rfl rfl rfl ?_
  obtain ⟨v2, hv2, hm⟩ := bind_some hm
  refine r_callP0 ent11 rfl rfl rfl rfl (law06_cut_ok _ _ _ hv2) ?_
  refine r_assign rfl rfl rfl ?_
  refine r_nil ?_
  refine q_then ?_
  refine c_seq ?_
  refine c_region ?_
  refine r_move rfl rfl rfl ?_
  obtain ⟨v3, hv3, hm⟩ := bind_some hm
  refine r_callG0 ent10 rfl rfl rfl rfl hx1 (lexer_Scan_ok _ _ _ hv3 hx1.sat (hg0.mono hF1)) ?_
  rintro _ Fx2 _ wx2 hF2 hx2 ⟨as2, cs2, rfl, rfl, hs2⟩
  refine r_move rfl rfl rfl ?_
  refine r_extract rfl rfl rfl rfl ?_
  refine r_extract rfl rfl rfl rfl ?_
  refine r_extract rfl rfl rfl rfl ?_
  refine r_assign rfl rfl rfl ?_
  refine r_assign rfl rfl rfl ?_
  refine r_assign rfl rfl rfl ?_
  refine r_nil ?_
  refine q_then ?_
  refine c_seq ?_
  refine c_seq ?_
  refine c_region ?_
  refine r_move rfl rfl rfl ?_
  refine r_nil ?_
  refine q_then ?_
  rcases cond_some hm with ⟨hb1, hm⟩ | ⟨hb1, hm⟩
  · refine c_lit 33 rfl hb1 ?_
    refine c_true rfl ?_
    refine c_seq ?_
    refine c_region ?_
    refine r_assign rfl rfl rfl ?_
    refine r_nil ?_
    refine q_then ?_
    refine c_seq ?_
    refine c_block ?_
    intro a hax13
    obtain ⟨kont1, hkont1⟩ : ∃ kont1 : Bs → Option Bool, kont1 = (fun (fill2 : Bs) =>
              (scat v2 [10]).bind fun t1 =>
              (ssl fill2 0 (isub .i64 4000 (t1.length : Int))).bind fun t2 =>
              (scat t1 t2).bind fun t3 =>
              (lexer_Scan n t3).bind fun v4 =>
              (ssl fill2 0 (isub .i64 4001 (t1.length : Int))).bind fun t4 =>
              (scat t1 t4).bind fun t5 =>
              (lexer_Scan n t5).bind fun v5 =>
              (bif v5.2.2 != 6 then
                some true
              else
                some (v5.2.1 != 0)).bind fun v6 =>
              (bif v6 then
                some true
              else
                some (v4.2.2 != v3.2.2)).bind fun v7 =>
              (bif v7 then
                some true
              else
                some ((v4.1.length : Int) != (v3.1.length : Int))).bind fun v8 =>
              bif v8 then
                some false
              else
                bif v3.2.2 == 0 then
                  some v1
                else
                  (bif decide (v3.2.1 < 0) then
                    some true
                  else
                    some (decide ((v2.length : Int) ≤ v3.2.1))).bind fun v9 =>
                  (bif v9 then
                    some true
                  else
                    (bif v3.2.2 != 10 then
                      some (v3.2.2 != 3)
                    else
                      some false).bind fun v16 =>
                    (bif v16 then
                      some (v3.2.2 != 2)
                    else
                      some false).bind fun v17 =>
                    some v17).bind fun v10 =>
                  bif v10 then
                    some false
                  else
                    (ssl v2 0 v3.2.1).bind fun t6 =>
                    (lexer_Scan n t6).bind fun v11 =>
                    (ssl v2 v3.2.1 v2.length).bind fun t7 =>
                    (lexer_Scan n t7).bind fun v12 =>
                    (bif v1 then
                      some (v11.2.2 == 0)
                    else
                      some false).bind fun v13 =>
                    (bif v13 then
                      some (v12.2.2 == v3.2.2)
                    else
                      some false).bind fun v14 =>
                    (bif v14 then
                      some (v12.2.1 == 0)
                    else
                      some false).bind fun v15 =>
                    some v15) := ⟨_, rfl⟩
    replace hm : (fun m (s : Bs) => law06_LexerErrors_L1 n kont1 m s) n [32, 32, 32, 32, 32, 32, 32, 32, 32, 32] = some r := by rw [hkont1]; exact hm
    refine loopX (id := 0) (fun m (s : Bs) => law06_LexerErrors_L1 n kont1 m s) (fun (y : Bs) => kont1 y) r (fun (s : Bs) a w' => wx2 = w' ∧ Has 137 a [(5, .bool v1), (6, vs v2), (7, .slice as2 v3.1.length cs2), (8, .int .i64 v3.2.1), (9, .int .i64 v3.2.2), (10, vs s)]) (fun (y : Bs) a w' => wx2 = w' ∧ Has 137 a [(5, .bool v1), (6, vs v2), (7, .slice as2 v3.1.length cs2), (8, .int .i64 v3.2.1), (9, .int .i64 v3.2.2), (10, vs y)]) (fun _ => rfl) ?_ ?_ hm ⟨rfl, hax13.cut (l := [5, 6, 7, 8, 9, 10]) rfl⟩
    · clear hm; rintro fill2 a wx3 hm ⟨rfl, hax1⟩
      rw [hkont1] at hm
      replace hm := hm
      refine qw_apply (e := .exit 0) hax1 ?_
      refine q_block_hit ?_
      refine q_then ?_
      refine c_seq ?_
      refine c_region ?_
      refine r_move rfl rfl rfl ?_
      obtain ⟨t1, hq1, hm⟩ := bind_some hm
      refine r_cat rfl rfl rfl rfl hq1 ?_
      refine r_assign rfl rfl rfl ?_
      refine r_nil ?_
      refine q_then ?_
      refine c_seq ?_
      refine c_region ?_
      refine r_move rfl rfl rfl ?_
      refine r_move rfl rfl rfl ?_
      refine r_move rfl rfl rfl ?_
      refine r_slen u9 rfl rfl rfl ?_
      refine r_bin rfl rfl rfl rfl rfl ?_
      obtain ⟨t2, hc1, hm⟩ := bind_some hm
      refine r_ssl_h u9 rfl rfl rfl rfl hc1 ?_
      obtain ⟨t3, hq2, hm⟩ := bind_some hm
      refine r_cat rfl rfl rfl rfl hq2 ?_
      obtain ⟨v4, hv4, hm⟩ := bind_some hm
      refine r_callG0 ent10 rfl rfl rfl rfl hx2 (lexer_Scan_ok _ _ _ hv4 hx2.sat ((hg0.mono hF1).mono hF2)) ?_
      rintro _ Fx3 _ wx4 hF3 hx3 ⟨as3, cs3, rfl, rfl, hs3⟩
      refine r_move rfl rfl rfl ?_
      refine r_extract rfl rfl rfl rfl ?_
      refine r_extract rfl rfl rfl rfl ?_
      refine r_extract rfl rfl rfl rfl ?_
      refine r_assign rfl rfl rfl ?_
      refine r_assign rfl rfl rfl ?_
      refine r_assign rfl rfl rfl ?_
      refine r_nil ?_
      refine q_then ?_
      refine c_seq ?_
      refine c_region ?_
      refine r_move rfl rfl rfl ?_
      refine r_move rfl rfl rfl ?_
      refine r_move rfl rfl rfl ?_
      refine r_slen u9 rfl rfl rfl ?_
      refine r_bin rfl rfl rfl rfl rfl ?_
      obtain ⟨t4, hc2, hm⟩ := bind_some hm
      refine r_ssl_h u9 rfl rfl rfl rfl hc2 ?_
      obtain ⟨t5, hq3, hm⟩ := bind_some hm
      refine r_cat rfl rfl rfl rfl hq3 ?_
      obtain ⟨v5, hv5, hm⟩ := bind_some hm
      refine r_callG0 ent10 rfl rfl rfl rfl hx3 (lexer_Scan_ok _ _ _ hv5 hx3.sat (((hg0.mono hF1).mono hF2).mono hF3)) ?_
      rintro _ Fx4 _ wx5 hF4 hx4 ⟨as4, cs4, rfl, rfl, hs4⟩
      refine r_move rfl rfl rfl ?_
      refine r_extract rfl rfl rfl rfl ?_
      refine r_extract rfl rfl rfl rfl ?_
      refine r_extract rfl rfl rfl rfl ?_
      refine r_assign rfl rfl rfl ?_
      refine r_assign rfl rfl rfl ?_
      refine r_assign rfl rfl rfl ?_
      refine r_nil ?_
      refine q_then ?_
      refine c_seq ?_
      refine c_region ?_
      refine r_move rfl rfl rfl ?_
      refine r_bin rfl rfl rfl rfl rfl ?_
      refine r_move rfl rfl rfl ?_
      obtain ⟨v6, hb2, hm⟩ := bind_some hm
      refine r_mid 3 (fun a w' => wx5 = w' ∧ Has 137 a [(5, .bool v1), (6, vs v2), (7, .slice as2 v3.1.length cs2), (8, .int .i64 v3.2.1), (9, .int .i64 v3.2.2), (12, .slice as3 v4.1.length cs3), (14, .int .i64 v4.2.2), (71, .bool v6)]) ?_ ?_
      · rintro a wx6 ⟨rfl, hax2⟩
        refine rw_apply hax2 ?_
        refine r_move rfl rfl rfl ?_
        obtain ⟨v7, hb3, hm⟩ := bind_some hm
        refine r_mid 4 (fun a w' => wx5 = w' ∧ Has 137 a [(5, .bool v1), (6, vs v2), (7, .slice as2 v3.1.length cs2), (8, .int .i64 v3.2.1), (9, .int .i64 v3.2.2), (12, .slice as3 v4.1.length cs3), (76, .bool v7)]) ?_ ?_
        · rintro a wx7 ⟨rfl, hax3⟩
          refine rw_apply hax3 ?_
          refine r_move rfl rfl rfl ?_
          obtain ⟨v8, hb4, hm⟩ := bind_some hm
          refine r_mid 6 (fun a w' => wx5 = w' ∧ Has 137 a [(5, .bool v1), (6, vs v2), (8, .int .i64 v3.2.1), (9, .int .i64 v3.2.2), (83, .bool v8)]) ?_ ?_
          · rintro a wx8 ⟨rfl, hax4⟩
            refine rw_apply hax4 ?_
            refine r_nil ?_
            refine q_then ?_
            rcases cond_some hm with ⟨hb5, hm⟩ | ⟨hb5, hm⟩
            · refine c_lit 83 rfl hb5 ?_
              refine c_true rfl ?_
              refine c_seq ?_
              refine c_region ?_
              refine r_assign rfl rfl rfl ?_
              refine r_nil ?_
              refine q_then ?_
              refine c_ret ?_
              refine q_then_ret ?_
              refine b_ret1 rfl rfl ?_
              obtain rfl := Option.some.inj hm
              exact ⟨_, _, _, rfl, hx4.pick [] (by decide) rfl, rfl, rfl⟩
            · refine c_lit 83 rfl hb5 ?_
              refine c_false rfl ?_
              refine c_skip ?_
              refine q_then ?_
              refine c_seq ?_
              refine c_seq ?_
              refine c_region ?_
              refine r_move rfl rfl rfl ?_
              refine r_bin rfl rfl rfl rfl rfl ?_
              refine r_nil ?_
              refine q_then ?_
              rcases cond_some hm with ⟨hb6, hm⟩ | ⟨hb6, hm⟩
              · refine c_lit 85 rfl hb6 ?_
                refine c_true rfl ?_
                refine c_seq ?_
                refine c_region ?_
                refine r_move rfl rfl rfl ?_
                refine r_assign rfl rfl rfl ?_
                refine r_nil ?_
                refine q_then ?_
                refine c_ret ?_
                refine q_then_ret ?_
                refine b_ret1 rfl rfl ?_
                obtain rfl := Option.some.inj hm
                exact ⟨_, _, _, rfl, hx4.pick [] (by decide) rfl, rfl, rfl⟩
              · refine c_lit 85 rfl hb6 ?_
                refine c_false rfl ?_
                refine c_skip ?_
                refine q_then ?_
                refine c_seq ?_
                refine c_seq ?_
                refine c_region ?_
                refine r_move rfl rfl rfl ?_
                refine r_bin rfl rfl rfl rfl rfl ?_
                refine r_move rfl rfl rfl ?_
                obtain ⟨v9, hb7, hm⟩ := bind_some hm
                refine r_mid 5 (fun a w' => wx5 = w' ∧ Has 137 a [(5, .bool v1), (6, vs v2), (8, .int .i64 v3.2.1), (9, .int .i64 v3.2.2), (94, .bool v9)]) ?_ ?_
                · rintro a wx9 ⟨rfl, hax5⟩
                  refine rw_apply hax5 ?_
                  refine r_move rfl rfl rfl ?_
                  obtain ⟨v10, hb8, hm⟩ := bind_some hm
                  refine r_mid 11 (fun a w' => wx5 = w' ∧ Has 137 a [(5, .bool v1), (6, vs v2), (8, .int .i64 v3.2.1), (9, .int .i64 v3.2.2), (106, .bool v10)]) ?_ ?_
                  · rintro a wx10 ⟨rfl, hax6⟩
                    refine rw_apply hax6 ?_
                    refine r_nil ?_
                    refine q_then ?_
                    rcases cond_some hm with ⟨hb9, hm⟩ | ⟨hb9, hm⟩
                    · refine c_lit 106 rfl hb9 ?_
                      refine c_true rfl ?_
                      refine c_seq ?_
                      refine c_region ?_
                      refine r_assign rfl rfl rfl ?_
                      refine r_nil ?_
                      refine q_then ?_
                      refine c_ret ?_
                      refine q_then_ret ?_
                      refine b_ret1 rfl rfl ?_
                      obtain rfl := Option.some.inj hm
                      exact ⟨_, _, _, rfl, hx4.pick [] (by decide) rfl, rfl, rfl⟩
                    · refine c_lit 106 rfl hb9 ?_
                      refine c_false rfl ?_
                      refine c_skip ?_
                      refine q_then ?_
                      refine c_seq ?_
                      refine c_region ?_
                      refine r_move rfl rfl rfl ?_
                      refine r_move rfl rfl rfl ?_
                      obtain ⟨t6, hc3, hm⟩ := bind_some hm
                      refine r_ssl_h u9 rfl rfl rfl rfl hc3 ?_
                      obtain ⟨v11, hv6, hm⟩ := bind_some hm
                      refine r_callG0 ent10 rfl rfl rfl rfl hx4 (lexer_Scan_ok _ _ _ hv6 hx4.sat ((((hg0.mono hF1).mono hF2).mono hF3).mono hF4)) ?_
                      rintro _ Fx5 _ wx11 hF5 hx5 ⟨as5, cs5, rfl, rfl, hs5⟩
                      refine r_move rfl rfl rfl ?_
                      refine r_extract rfl rfl rfl rfl ?_
                      refine r_extract rfl rfl rfl rfl ?_
                      refine r_extract rfl rfl rfl rfl ?_
                      refine r_assign rfl rfl rfl ?_
                      refine r_assign rfl rfl rfl ?_
                      refine r_assign rfl rfl rfl ?_
                      refine r_nil ?_
                      refine q_then ?_
                      refine c_seq ?_
                      refine c_region ?_
                      refine r_move rfl rfl rfl ?_
                      refine r_move rfl rfl rfl ?_
                      obtain ⟨t7, hc4, hm⟩ := bind_some hm
                      refine r_ssl_l u9 rfl rfl rfl rfl hc4 ?_
                      obtain ⟨v12, hv7, hm⟩ := bind_some hm
                      refine r_callG0 ent10 rfl rfl rfl rfl hx5 (lexer_Scan_ok _ _ _ hv7 hx5.sat (((((hg0.mono hF1).mono hF2).mono hF3).mono hF4).mono hF5)) ?_
                      rintro _ Fx6 _ wx12 hF6 hx6 ⟨as6, cs6, rfl, rfl, hs6⟩
                      refine r_move rfl rfl rfl ?_
                      refine r_extract rfl rfl rfl rfl ?_
                      refine r_extract rfl rfl rfl rfl ?_
                      refine r_extract rfl rfl rfl rfl ?_
                      refine r_assign rfl rfl rfl ?_
                      refine r_assign rfl rfl rfl ?_
                      refine r_assign rfl rfl rfl ?_
                      refine r_nil ?_
                      refine q_then ?_
                      refine c_seq ?_
                      refine c_region ?_
                      refine r_move rfl rfl rfl ?_
                      refine r_move rfl rfl rfl ?_
                      obtain ⟨v13, hb10, hm⟩ := bind_some hm
                      refine r_mid 3 (fun a w' => wx12 = w' ∧ Has 137 a [(9, .int .i64 v3.2.2), (22, .int .i64 v12.2.1), (23, .int .i64 v12.2.2), (127, .bool v13)]) ?_ ?_
                      · rintro a wx13 ⟨rfl, hax7⟩
                        refine rw_apply hax7 ?_
                        refine r_move rfl rfl rfl ?_
                        obtain ⟨v14, hb11, hm⟩ := bind_some hm
                        refine r_mid 4 (fun a w' => wx12 = w' ∧ Has 137 a [(22, .int .i64 v12.2.1), (132, .bool v14)]) ?_ ?_
                        · rintro a wx14 ⟨rfl, hax8⟩
                          refine rw_apply hax8 ?_
                          refine r_move rfl rfl rfl ?_
                          obtain ⟨v15, hb12, hm⟩ := bind_some hm
                          refine r_mid 3 (fun a w' => wx12 = w' ∧ Has 137 a [(136, .bool v15)]) ?_ ?_
                          · rintro a wx15 ⟨rfl, hax9⟩
                            refine rw_apply hax9 ?_
                            refine r_assign rfl rfl rfl ?_
                            refine r_nil ?_
                            refine q_then ?_
                            refine c_ret ?_
                            refine b_ret1 rfl rfl ?_
                            obtain rfl := Option.some.inj hm
                            exact ⟨_, _, _, rfl, hx6.pick [] (by decide) rfl, rfl, rfl⟩
                          · clear hm
                            rcases cond_some hb12 with ⟨hb13, hb12⟩ | ⟨hb13, hb12⟩
                            · refine r_lit 133 rfl hb13 ?_
                              refine r_move rfl rfl rfl ?_
                              refine r_bin rfl rfl rfl rfl rfl ?_
                              refine r_pick_true rfl rfl rfl rfl ?_
                              refine r_nil ?_
                              refine q_next (fun a ha => ?_)
                              cases hb12
                              exact ⟨rfl, ha.cut (l := [136]) rfl⟩
                            · refine r_lit 133 rfl hb13 ?_
                              refine r_off rfl (by decide) rfl ?_
                              refine r_off rfl (by decide) rfl ?_
                              refine r_pick_false rfl rfl rfl rfl ?_
                              refine r_nil ?_
                              refine q_next (fun a ha => ?_)
                              cases hb12
                              exact ⟨rfl, ha.cut (l := [136]) rfl⟩
                        · clear hm
                          rcases cond_some hb11 with ⟨hb14, hb11⟩ | ⟨hb14, hb11⟩
                          · refine r_lit 128 rfl hb14 ?_
                            refine r_move rfl rfl rfl ?_
                            refine r_move rfl rfl rfl ?_
                            refine r_bin rfl rfl rfl rfl rfl ?_
                            refine r_pick_true rfl rfl rfl rfl ?_
                            refine r_nil ?_
                            refine q_next (fun a ha => ?_)
                            cases hb11
                            exact ⟨rfl, ha.cut (l := [22, 132]) rfl⟩
                          · refine r_lit 128 rfl hb14 ?_
                            refine r_off rfl (by decide) rfl ?_
                            refine r_off rfl (by decide) rfl ?_
                            refine r_off rfl (by decide) rfl ?_
                            refine r_pick_false rfl rfl rfl rfl ?_
                            refine r_nil ?_
                            refine q_next (fun a ha => ?_)
                            cases hb11
                            exact ⟨rfl, ha.cut (l := [22, 132]) rfl⟩
                      · clear hm
                        rcases cond_some hb10 with ⟨hb15, hb10⟩ | ⟨hb15, hb10⟩
                        · refine r_lit 124 rfl hb15 ?_
                          refine r_move rfl rfl rfl ?_
                          refine r_bin rfl rfl rfl rfl rfl ?_
                          refine r_pick_true rfl rfl rfl rfl ?_
                          refine r_nil ?_
                          refine q_next (fun a ha => ?_)
                          cases hb10
                          exact ⟨rfl, ha.cut (l := [9, 22, 23, 127]) rfl⟩
                        · refine r_lit 124 rfl hb15 ?_
                          refine r_off rfl (by decide) rfl ?_
                          refine r_off rfl (by decide) rfl ?_
                          refine r_pick_false rfl rfl rfl rfl ?_
                          refine r_nil ?_
                          refine q_next (fun a ha => ?_)
                          cases hb10
                          exact ⟨rfl, ha.cut (l := [9, 22, 23, 127]) rfl⟩
                  · clear hm
                    rcases cond_some hb8 with ⟨hb16, hb8⟩ | ⟨hb16, hb8⟩
                    · refine r_lit 95 rfl hb16 ?_
                      refine r_off rfl (by decide) rfl ?_
                      refine r_off rfl (by decide) rfl ?_
                      refine r_off rfl (by decide) rfl ?_
                      refine r_off rfl (by decide) rfl ?_
                      refine r_off rfl (by decide) rfl ?_
                      refine r_off rfl (by decide) rfl ?_
                      refine r_off rfl (by decide) rfl ?_
                      refine r_off rfl (by decide) rfl ?_
                      refine r_off rfl (by decide) rfl ?_
                      refine r_off rfl (by decide) rfl ?_
                      refine r_pick_true rfl rfl rfl rfl ?_
                      refine r_nil ?_
                      refine q_next (fun a ha => ?_)
                      cases hb8
                      exact ⟨rfl, ha.cut (l := [5, 6, 8, 9, 106]) rfl⟩
                    · refine r_lit 95 rfl hb16 ?_
                      refine r_move rfl rfl rfl ?_
                      refine r_bin rfl rfl rfl rfl rfl ?_
                      refine r_move rfl rfl rfl ?_
                      obtain ⟨v16, hb17, hb8⟩ := bind_some hb8
                      refine r_mid 3 (fun a w' => wx5 = w' ∧ Has 137 a [(5, .bool v1), (6, vs v2), (8, .int .i64 v3.2.1), (9, .int .i64 v3.2.2), (95, .bool false), (101, .bool v16)]) ?_ ?_
                      · rintro a wx16 ⟨rfl, hax10⟩
                        refine rw_apply hax10 ?_
                        refine r_move rfl rfl rfl ?_
                        obtain ⟨v17, hb18, hb8⟩ := bind_some hb8
                        refine r_mid 3 (fun a w' => wx5 = w' ∧ Has 137 a [(5, .bool v1), (6, vs v2), (8, .int .i64 v3.2.1), (9, .int .i64 v3.2.2), (95, .bool false), (105, .bool v17)]) ?_ ?_
                        · rintro a wx17 ⟨rfl, hax11⟩
                          refine rw_apply hax11 ?_
                          refine r_pick_false rfl rfl rfl rfl ?_
                          refine r_nil ?_
                          refine q_next (fun a ha => ?_)
                          cases hb8
                          exact ⟨rfl, ha.cut (l := [5, 6, 8, 9, 106]) rfl⟩
                        · clear hb8
                          rcases cond_some hb18 with ⟨hb19, hb18⟩ | ⟨hb19, hb18⟩
                          · refine r_lit 102 rfl hb19 ?_
                            refine r_move rfl rfl rfl ?_
                            refine r_bin rfl rfl rfl rfl rfl ?_
                            refine r_pick_true rfl rfl rfl rfl ?_
                            refine r_nil ?_
                            refine q_next (fun a ha => ?_)
                            cases hb18
                            exact ⟨rfl, ha.cut (l := [5, 6, 8, 9, 95, 105]) rfl⟩
                          · refine r_lit 102 rfl hb19 ?_
                            refine r_off rfl (by decide) rfl ?_
                            refine r_off rfl (by decide) rfl ?_
                            refine r_pick_false rfl rfl rfl rfl ?_
                            refine r_nil ?_
                            refine q_next (fun a ha => ?_)
                            cases hb18
                            exact ⟨rfl, ha.cut (l := [5, 6, 8, 9, 95, 105]) rfl⟩
                      · clear hb8
                        rcases cond_some hb17 with ⟨hb20, hb17⟩ | ⟨hb20, hb17⟩
                        · refine r_lit 98 rfl hb20 ?_
                          refine r_move rfl rfl rfl ?_
                          refine r_bin rfl rfl rfl rfl rfl ?_
                          refine r_pick_true rfl rfl rfl rfl ?_
                          refine r_nil ?_
                          refine q_next (fun a ha => ?_)
                          cases hb17
                          exact ⟨rfl, ha.cut (l := [5, 6, 8, 9, 95, 101]) rfl⟩
                        · refine r_lit 98 rfl hb20 ?_
                          refine r_off rfl (by decide) rfl ?_
                          refine r_off rfl (by decide) rfl ?_
                          refine r_pick_false rfl rfl rfl rfl ?_
                          refine r_nil ?_
                          refine q_next (fun a ha => ?_)
                          cases hb17
                          exact ⟨rfl, ha.cut (l := [5, 6, 8, 9, 95, 101]) rfl⟩
                · clear hm
                  rcases cond_some hb7 with ⟨hb21, hb7⟩ | ⟨hb21, hb7⟩
                  · refine r_lit 89 rfl hb21 ?_
                    refine r_off rfl (by decide) rfl ?_
                    refine r_off rfl (by decide) rfl ?_
                    refine r_off rfl (by decide) rfl ?_
                    refine r_off rfl (by decide) rfl ?_
                    refine r_pick_true rfl rfl rfl rfl ?_
                    refine r_nil ?_
                    refine q_next (fun a ha => ?_)
                    cases hb7
                    exact ⟨rfl, ha.cut (l := [5, 6, 8, 9, 94]) rfl⟩
                  · refine r_lit 89 rfl hb21 ?_
                    refine r_move rfl rfl rfl ?_
                    refine r_move rfl rfl rfl ?_
                    refine r_slen u9 rfl rfl rfl ?_
                    refine r_bin rfl rfl rfl rfl rfl ?_
                    refine r_pick_false rfl rfl rfl rfl ?_
                    refine r_nil ?_
                    refine q_next (fun a ha => ?_)
                    cases hb7
                    exact ⟨rfl, ha.cut (l := [5, 6, 8, 9, 94]) rfl⟩
          · clear hm
            rcases cond_some hb4 with ⟨hb22, hb4⟩ | ⟨hb22, hb4⟩
            · refine r_lit 77 rfl hb22 ?_
              refine r_off rfl (by decide) rfl ?_
              refine r_off rfl (by decide) rfl ?_
              refine r_off rfl (by decide) rfl ?_
              refine r_off rfl (by decide) rfl ?_
              refine r_off rfl (by decide) rfl ?_
              refine r_pick_true rfl rfl rfl rfl ?_
              refine r_nil ?_
              refine q_next (fun a ha => ?_)
              cases hb4
              exact ⟨rfl, ha.cut (l := [5, 6, 8, 9, 83]) rfl⟩
            · refine r_lit 77 rfl hb22 ?_
              refine r_move rfl rfl rfl ?_
              refine r_lenS u23 rfl rfl rfl ?_
              refine r_move rfl rfl rfl ?_
              refine r_lenS u23 rfl rfl rfl ?_
              refine r_bin rfl rfl rfl rfl rfl ?_
              refine r_pick_false rfl rfl rfl rfl ?_
              refine r_nil ?_
              refine q_next (fun a ha => ?_)
              cases hb4
              exact ⟨rfl, ha.cut (l := [5, 6, 8, 9, 83]) rfl⟩
        · clear hm
          rcases cond_some hb3 with ⟨hb23, hb3⟩ | ⟨hb23, hb3⟩
          · refine r_lit 72 rfl hb23 ?_
            refine r_off rfl (by decide) rfl ?_
            refine r_off rfl (by decide) rfl ?_
            refine r_off rfl (by decide) rfl ?_
            refine r_pick_true rfl rfl rfl rfl ?_
            refine r_nil ?_
            refine q_next (fun a ha => ?_)
            cases hb3
            exact ⟨rfl, ha.cut (l := [5, 6, 7, 8, 9, 12, 76]) rfl⟩
          · refine r_lit 72 rfl hb23 ?_
            refine r_move rfl rfl rfl ?_
            refine r_move rfl rfl rfl ?_
            refine r_bin rfl rfl rfl rfl rfl ?_
            refine r_pick_false rfl rfl rfl rfl ?_
            refine r_nil ?_
            refine q_next (fun a ha => ?_)
            cases hb3
            exact ⟨rfl, ha.cut (l := [5, 6, 7, 8, 9, 12, 76]) rfl⟩
      · clear hm
        rcases cond_some hb2 with ⟨hb24, hb2⟩ | ⟨hb24, hb2⟩
        · refine r_lit 68 rfl hb24 ?_
          refine r_off rfl (by decide) rfl ?_
          refine r_off rfl (by decide) rfl ?_
          refine r_pick_true rfl rfl rfl rfl ?_
          refine r_nil ?_
          refine q_next (fun a ha => ?_)
          cases hb2
          exact ⟨rfl, ha.cut (l := [5, 6, 7, 8, 9, 12, 14, 71]) rfl⟩
        · refine r_lit 68 rfl hb24 ?_
          refine r_move rfl rfl rfl ?_
          refine r_bin rfl rfl rfl rfl rfl ?_
          refine r_pick_false rfl rfl rfl rfl ?_
          refine r_nil ?_
          refine q_next (fun a ha => ?_)
          cases hb2
          exact ⟨rfl, ha.cut (l := [5, 6, 7, 8, 9, 12, 14, 71]) rfl⟩
    · clear hm hkont1; intro hk1 mx1 K ihx1
      rintro fill1 a wx18 hm ⟨rfl, hax12⟩
      simp only [law06_LexerErrors_L1_s] at hm
      refine cw_apply hax12 ?_
      refine c_seq ?_
      refine c_seq ?_
      refine c_region ?_
      refine r_move rfl rfl rfl ?_
      refine r_slen u9 rfl rfl rfl ?_
      refine r_bin rfl rfl rfl rfl rfl ?_
      refine r_nil ?_
      refine q_then ?_
      rcases cond_some hm with ⟨hb25, hm⟩ | ⟨hb25, hm⟩
      · refine c_lit 36 rfl hb25 ?_
        refine c_true rfl ?_
        refine c_skip ?_
        refine q_then ?_
        refine c_block ?_
        refine c_region ?_
        refine r_move rfl rfl rfl ?_
        refine r_move rfl rfl rfl ?_
        obtain ⟨t8, hq4, hm⟩ := bind_some hm
        refine r_cat rfl rfl rfl rfl hq4 ?_
        refine r_assign rfl rfl rfl ?_
        refine r_nil ?_
        refine q_block ?_
        refine q_next (fun a ha => ihx1 t8 a _ hm ?_)
        exact ⟨rfl, ha.cut (l := [5, 6, 7, 8, 9, 10]) rfl⟩
      · refine c_lit 36 rfl hb25 ?_
        refine c_false rfl ?_
        refine c_exit ?_
        refine q_then_exit ?_
        refine q_then_exit ?_
        refine fun a ha => hk1 fill1 a _ hm ?_
        exact ⟨rfl, ha.cut (l := [5, 6, 7, 8, 9, 10]) rfl⟩
  · refine c_lit 33 rfl hb1 ?_
    refine c_false rfl ?_
    refine c_skip ?_
    refine q_then ?_
    refine c_seq ?_
    refine c_seq ?_
    refine c_region ?_
    refine r_move rfl rfl rfl ?_
    refine r_bin rfl rfl rfl rfl rfl ?_
    refine r_nil ?_
    refine q_then ?_
    rcases cond_some hm with ⟨hb26, hm⟩ | ⟨hb26, hm⟩
    · refine c_lit 85 rfl hb26 ?_
      refine c_true rfl ?_
      refine c_seq ?_
      refine c_region ?_
      refine r_move rfl rfl rfl ?_
      refine r_assign rfl rfl rfl ?_
      refine r_nil ?_
      refine q_then ?_
      refine c_ret ?_
      refine q_then_ret ?_
      refine b_ret1 rfl rfl ?_
      obtain rfl := Option.some.inj hm
      exact ⟨_, _, _, rfl, hx2.pick [] (by decide) rfl, rfl, rfl⟩
    · refine c_lit 85 rfl hb26 ?_
      refine c_false rfl ?_
      refine c_skip ?_
      refine q_then ?_
      refine c_seq ?_
      refine c_seq ?_
      refine c_region ?_
      refine r_move rfl rfl rfl ?_
      refine r_bin rfl rfl rfl rfl rfl ?_
      refine r_move rfl rfl rfl ?_
      obtain ⟨v18, hb27, hm⟩ := bind_some hm
      refine r_mid 5 (fun a w' => wx2 = w' ∧ Has 137 a [(5, .bool v1), (6, vs v2), (8, .int .i64 v3.2.1), (9, .int .i64 v3.2.2), (94, .bool v18)]) ?_ ?_
      · rintro a wx19 ⟨rfl, hax14⟩
        refine rw_apply hax14 ?_
        refine r_move rfl rfl rfl ?_
        obtain ⟨v19, hb28, hm⟩ := bind_some hm
        refine r_mid 11 (fun a w' => wx2 = w' ∧ Has 137 a [(5, .bool v1), (6, vs v2), (8, .int .i64 v3.2.1), (9, .int .i64 v3.2.2), (106, .bool v19)]) ?_ ?_
        · rintro a wx20 ⟨rfl, hax15⟩
          refine rw_apply hax15 ?_
          refine r_nil ?_
          refine q_then ?_
          rcases cond_some hm with ⟨hb29, hm⟩ | ⟨hb29, hm⟩
          · refine c_lit 106 rfl hb29 ?_
            refine c_true rfl ?_
            refine c_seq ?_
            refine c_region ?_
            refine r_assign rfl rfl rfl ?_
            refine r_nil ?_
            refine q_then ?_
            refine c_ret ?_
            refine q_then_ret ?_
            refine b_ret1 rfl rfl ?_
            obtain rfl := Option.some.inj hm
            exact ⟨_, _, _, rfl, hx2.pick [] (by decide) rfl, rfl, rfl⟩
          · refine c_lit 106 rfl hb29 ?_
            refine c_false rfl ?_
            refine c_skip ?_
            refine q_then ?_
            refine c_seq ?_
            refine c_region ?_
            refine r_move rfl rfl rfl ?_
            refine r_move rfl rfl rfl ?_
            obtain ⟨t9, hc5, hm⟩ := bind_some hm
            refine r_ssl_h u9 rfl rfl rfl rfl hc5 ?_
            obtain ⟨v20, hv8, hm⟩ := bind_some hm
            refine r_callG0 ent10 rfl rfl rfl rfl hx2 (lexer_Scan_ok _ _ _ hv8 hx2.sat ((hg0.mono hF1).mono hF2)) ?_
            rintro _ Fx7 _ wx21 hF7 hx7 ⟨as7, cs7, rfl, rfl, hs7⟩
            refine r_move rfl rfl rfl ?_
            refine r_extract rfl rfl rfl rfl ?_
            refine r_extract rfl rfl rfl rfl ?_
            refine r_extract rfl rfl rfl rfl ?_
            refine r_assign rfl rfl rfl ?_
            refine r_assign rfl rfl rfl ?_
            refine r_assign rfl rfl rfl ?_
            refine r_nil ?_
            refine q_then ?_
            refine c_seq ?_
            refine c_region ?_
            refine r_move rfl rfl rfl ?_
            refine r_move rfl rfl rfl ?_
            obtain ⟨t10, hc6, hm⟩ := bind_some hm
            refine r_ssl_l u9 rfl rfl rfl rfl hc6 ?_
            obtain ⟨v21, hv9, hm⟩ := bind_some hm
            refine r_callG0 ent10 rfl rfl rfl rfl hx7 (lexer_Scan_ok _ _ _ hv9 hx7.sat (((hg0.mono hF1).mono hF2).mono hF7)) ?_
            rintro _ Fx8 _ wx22 hF8 hx8 ⟨as8, cs8, rfl, rfl, hs8⟩
            refine r_move rfl rfl rfl ?_
            refine r_extract rfl rfl rfl rfl ?_
            refine r_extract rfl rfl rfl rfl ?_
            refine r_extract rfl rfl rfl rfl ?_
            refine r_assign rfl rfl rfl ?_
            refine r_assign rfl rfl rfl ?_
            refine r_assign rfl rfl rfl ?_
            refine r_nil ?_
            refine q_then ?_
            refine c_seq ?_
            refine c_region ?_
            refine r_move rfl rfl rfl ?_
            refine r_move rfl rfl rfl ?_
            obtain ⟨v22, hb30, hm⟩ := bind_some hm
            refine r_mid 3 (fun a w' => wx22 = w' ∧ Has 137 a [(9, .int .i64 v3.2.2), (22, .int .i64 v21.2.1), (23, .int .i64 v21.2.2), (127, .bool v22)]) ?_ ?_
            · rintro a wx23 ⟨rfl, hax16⟩
              refine rw_apply hax16 ?_
              refine r_move rfl rfl rfl ?_
              obtain ⟨v23, hb31, hm⟩ := bind_some hm
              refine r_mid 4 (fun a w' => wx22 = w' ∧ Has 137 a [(22, .int .i64 v21.2.1), (132, .bool v23)]) ?_ ?_
              · rintro a wx24 ⟨rfl, hax17⟩
                refine rw_apply hax17 ?_
                refine r_move rfl rfl rfl ?_
                obtain ⟨v24, hb32, hm⟩ := bind_some hm
                refine r_mid 3 (fun a w' => wx22 = w' ∧ Has 137 a [(136, .bool v24)]) ?_ ?_
                · rintro a wx25 ⟨rfl, hax18⟩
                  refine rw_apply hax18 ?_
                  refine r_assign rfl rfl rfl ?_
                  refine r_nil ?_
                  refine q_then ?_
                  refine c_ret ?_
                  refine b_ret1 rfl rfl ?_
                  obtain rfl := Option.some.inj hm
                  exact ⟨_, _, _, rfl, hx8.pick [] (by decide) rfl, rfl, rfl⟩
                · clear hm
                  rcases cond_some hb32 with ⟨hb33, hb32⟩ | ⟨hb33, hb32⟩
                  · refine r_lit 133 rfl hb33 ?_
                    refine r_move rfl rfl rfl ?_
                    refine r_bin rfl rfl rfl rfl rfl ?_
                    refine r_pick_true rfl rfl rfl rfl ?_
                    refine r_nil ?_
                    refine q_next (fun a ha => ?_)
                    cases hb32
                    exact ⟨rfl, ha.cut (l := [136]) rfl⟩
                  · refine r_lit 133 rfl hb33 ?_
                    refine r_off rfl (by decide) rfl ?_
                    refine r_off rfl (by decide) rfl ?_
                    refine r_pick_false rfl rfl rfl rfl ?_
                    refine r_nil ?_
                    refine q_next (fun a ha => ?_)
                    cases hb32
                    exact ⟨rfl, ha.cut (l := [136]) rfl⟩
              · clear hm
                rcases cond_some hb31 with ⟨hb34, hb31⟩ | ⟨hb34, hb31⟩
                · refine r_lit 128 rfl hb34 ?_
                  refine r_move rfl rfl rfl ?_
                  refine r_move rfl rfl rfl ?_
                  refine r_bin rfl rfl rfl rfl rfl ?_
                  refine r_pick_true rfl rfl rfl rfl ?_
                  refine r_nil ?_
                  refine q_next (fun a ha => ?_)
                  cases hb31
                  exact ⟨rfl, ha.cut (l := [22, 132]) rfl⟩
                · refine r_lit 128 rfl hb34 ?_
                  refine r_off rfl (by decide) rfl ?_
                  refine r_off rfl (by decide) rfl ?_
                  refine r_off rfl (by decide) rfl ?_
                  refine r_pick_false rfl rfl rfl rfl ?_
                  refine r_nil ?_
                  refine q_next (fun a ha => ?_)
                  cases hb31
                  exact ⟨rfl, ha.cut (l := [22, 132]) rfl⟩
            · clear hm
              rcases cond_some hb30 with ⟨hb35, hb30⟩ | ⟨hb35, hb30⟩
              · refine r_lit 124 rfl hb35 ?_
                refine r_move rfl rfl rfl ?_
                refine r_bin rfl rfl rfl rfl rfl ?_
                refine r_pick_true rfl rfl rfl rfl ?_
                refine r_nil ?_
                refine q_next (fun a ha => ?_)
                cases hb30
                exact ⟨rfl, ha.cut (l := [9, 22, 23, 127]) rfl⟩
              · refine r_lit 124 rfl hb35 ?_
                refine r_off rfl (by decide) rfl ?_
                refine r_off rfl (by decide) rfl ?_
                refine r_pick_false rfl rfl rfl rfl ?_
                refine r_nil ?_
                refine q_next (fun a ha => ?_)
                cases hb30
                exact ⟨rfl, ha.cut (l := [9, 22, 23, 127]) rfl⟩
        · clear hm
          rcases cond_some hb28 with ⟨hb36, hb28⟩ | ⟨hb36, hb28⟩
          · refine r_lit 95 rfl hb36 ?_
            refine r_off rfl (by decide) rfl ?_
            refine r_off rfl (by decide) rfl ?_
            refine r_off rfl (by decide) rfl ?_
            refine r_off rfl (by decide) rfl ?_
            refine r_off rfl (by decide) rfl ?_
            refine r_off rfl (by decide) rfl ?_
            refine r_off rfl (by decide) rfl ?_
            refine r_off rfl (by decide) rfl ?_
            refine r_off rfl (by decide) rfl ?_
            refine r_off rfl (by decide) rfl ?_
            refine r_pick_true rfl rfl rfl rfl ?_
            refine r_nil ?_
            refine q_next (fun a ha => ?_)
            cases hb28
            exact ⟨rfl, ha.cut (l := [5, 6, 8, 9, 106]) rfl⟩
          · refine r_lit 95 rfl hb36 ?_
            refine r_move rfl rfl rfl ?_
            refine r_bin rfl rfl rfl rfl rfl ?_
            refine r_move rfl rfl rfl ?_
            obtain ⟨v25, hb37, hb28⟩ := bind_some hb28
            refine r_mid 3 (fun a w' => wx2 = w' ∧ Has 137 a [(5, .bool v1), (6, vs v2), (8, .int .i64 v3.2.1), (9, .int .i64 v3.2.2), (95, .bool false), (101, .bool v25)]) ?_ ?_
            · rintro a wx26 ⟨rfl, hax19⟩
              refine rw_apply hax19 ?_
              refine r_move rfl rfl rfl ?_
              obtain ⟨v26, hb38, hb28⟩ := bind_some hb28
              refine r_mid 3 (fun a w' => wx2 = w' ∧ Has 137 a [(5, .bool v1), (6, vs v2), (8, .int .i64 v3.2.1), (9, .int .i64 v3.2.2), (95, .bool false), (105, .bool v26)]) ?_ ?_
              · rintro a wx27 ⟨rfl, hax20⟩
                refine rw_apply hax20 ?_
                refine r_pick_false rfl rfl rfl rfl ?_
                refine r_nil ?_
                refine q_next (fun a ha => ?_)
                cases hb28
                exact ⟨rfl, ha.cut (l := [5, 6, 8, 9, 106]) rfl⟩
              · clear hb28
                rcases cond_some hb38 with ⟨hb39, hb38⟩ | ⟨hb39, hb38⟩
                · refine r_lit 102 rfl hb39 ?_
                  refine r_move rfl rfl rfl ?_
                  refine r_bin rfl rfl rfl rfl rfl ?_
                  refine r_pick_true rfl rfl rfl rfl ?_
                  refine r_nil ?_
                  refine q_next (fun a ha => ?_)
                  cases hb38
                  exact ⟨rfl, ha.cut (l := [5, 6, 8, 9, 95, 105]) rfl⟩
                · refine r_lit 102 rfl hb39 ?_
                  refine r_off rfl (by decide) rfl ?_
                  refine r_off rfl (by decide) rfl ?_
                  refine r_pick_false rfl rfl rfl rfl ?_
                  refine r_nil ?_
                  refine q_next (fun a ha => ?_)
                  cases hb38
                  exact ⟨rfl, ha.cut (l := [5, 6, 8, 9, 95, 105]) rfl⟩
            · clear hb28
              rcases cond_some hb37 with ⟨hb40, hb37⟩ | ⟨hb40, hb37⟩
              · refine r_lit 98 rfl hb40 ?_
                refine r_move rfl rfl rfl ?_
                refine r_bin rfl rfl rfl rfl rfl ?_
                refine r_pick_true rfl rfl rfl rfl ?_
                refine r_nil ?_
                refine q_next (fun a ha => ?_)
                cases hb37
                exact ⟨rfl, ha.cut (l := [5, 6, 8, 9, 95, 101]) rfl⟩
              · refine r_lit 98 rfl hb40 ?_
                refine r_off rfl (by decide) rfl ?_
                refine r_off rfl (by decide) rfl ?_
                refine r_pick_false rfl rfl rfl rfl ?_
                refine r_nil ?_
                refine q_next (fun a ha => ?_)
                cases hb37
                exact ⟨rfl, ha.cut (l := [5, 6, 8, 9, 95, 101]) rfl⟩
      · clear hm
        rcases cond_some hb27 with ⟨hb41, hb27⟩ | ⟨hb41, hb27⟩
        · refine r_lit 89 rfl hb41 ?_
          refine r_off rfl (by decide) rfl ?_
          refine r_off rfl (by decide) rfl ?_
          refine r_off rfl (by decide) rfl ?_
          refine r_off rfl (by decide) rfl ?_
          refine r_pick_true rfl rfl rfl rfl ?_
          refine r_nil ?_
          refine q_next (fun a ha => ?_)
          cases hb27
          exact ⟨rfl, ha.cut (l := [5, 6, 8, 9, 94]) rfl⟩
        · refine r_lit 89 rfl hb41 ?_
          refine r_move rfl rfl rfl ?_
          refine r_move rfl rfl rfl ?_
          refine r_slen u9 rfl rfl rfl ?_
          refine r_bin rfl rfl rfl rfl rfl ?_
          refine r_pick_false rfl rfl rfl rfl ?_
          refine r_nil ?_
          refine q_next (fun a ha => ?_)
          cases hb27
          exact ⟨rfl, ha.cut (l := [5, 6, 8, 9, 94]) rfl⟩


end Go.Proofs.YtaibejlploombaaDoor.M
