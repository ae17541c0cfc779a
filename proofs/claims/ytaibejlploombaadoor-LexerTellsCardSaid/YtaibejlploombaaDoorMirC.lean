/-
  THE MIRRORS of the lexer's functions, of its reference and of the laws, and that each call returns what its mirror says. Printed by gen.py.
-/
import Derived.Test.YtaibejlploombaaDoorRows
import Derived.Test.YtaibejlploombaaDoorRt6
import Derived.Test.YtaibejlploombaaDoorExt1
import Derived.Test.YtaibejlploombaaDoorMirB
namespace Go.Proofs.YtaibejlploombaaDoor.M
open Go Go.RowKit Rt

def law06_cut (_n : Nat) (s1 : Bs) : Option Bs :=
  (ssl s1 0 (imin (s1.length : Int) 900)).bind fun t1 =>
  some t1

set_option maxHeartbeats 1000000 in
set_option maxRecDepth 1000000 in
theorem law06_cut_ok (n : Nat) (s1 : Bs) (r : Bs) (hm : law06_cut n s1 = some r) {w : World}  :
    Calls Tryd.prog 11 #[vs s1] w fun e w' => e = .returned (vs r) ∧ w' = w := by
  unfold law06_cut at hm
  refine calls_of (args := [vs s1]) 8 Tryd.func11 rfl rfl rfl ?_
  refine c_seq ?_
  refine c_region ?_
  refine r_assign rfl rfl rfl ?_
  refine r_nil ?_
  refine q_then ?_
  refine c_seq ?_
  refine c_region ?_
  refine r_move rfl rfl rfl ?_
  refine r_move rfl rfl rfl ?_
  refine r_slen u9 rfl rfl rfl ?_
  refine r_min rfl rfl rfl rfl ?_
  obtain ⟨t1, hc1, hm⟩ := bind_some hm
  refine r_ssl_h u9 rfl rfl rfl rfl hc1 ?_
  refine r_assign rfl rfl rfl ?_
  refine r_nil ?_
  refine q_then ?_
  refine c_ret ?_
  refine b_ret1 rfl rfl ?_
  obtain rfl := Option.some.inj hm
  exact ⟨rfl, rfl⟩


def law06_idle_L1 (n : Nat) (s1 : Bs) (kont1 : Option Bool) : Nat → Bool → Int → Option Bool
  | 0, _, _ => none
  | mx1 + 1, comment1, i1 =>
    bif decide (i1 < (s1.length : Int)) then
      (sidx s1 i1).bind fun c1 =>
      (bif c1 == 35 then
        some true
      else
        (bif comment1 then
          (sidx s1 i1).bind fun c3 =>
          some (c3 != 10)
        else
          some false).bind fun v4 =>
        some v4).bind fun v1 =>
      (bif !v1 then
        (sidx s1 i1).bind fun c2 =>
        (ref06_Blank n c2).bind fun v3 =>
        some (!v3)
      else
        some false).bind fun v2 =>
      bif v2 then
        some false
      else
        law06_idle_L1 n s1 kont1 mx1 v1 (iadd .i64 i1 1)
    else
      kont1

theorem law06_idle_L1_s (n : Nat) (s1 : Bs) (kont1 : Option Bool) (mx1 : Nat) (comment1 : Bool) (i1 : Int) : law06_idle_L1 n s1 kont1 (mx1 + 1) comment1 i1 =
    bif decide (i1 < (s1.length : Int)) then
      (sidx s1 i1).bind fun c1 =>
      (bif c1 == 35 then
        some true
      else
        (bif comment1 then
          (sidx s1 i1).bind fun c3 =>
          some (c3 != 10)
        else
          some false).bind fun v4 =>
        some v4).bind fun v1 =>
      (bif !v1 then
        (sidx s1 i1).bind fun c2 =>
        (ref06_Blank n c2).bind fun v3 =>
        some (!v3)
      else
        some false).bind fun v2 =>
      bif v2 then
        some false
      else
        law06_idle_L1 n s1 kont1 mx1 v1 (iadd .i64 i1 1)
    else
      kont1 := rfl

def law06_idle (n : Nat) (s1 : Bs) : Option Bool :=
  law06_idle_L1 n s1 (
    some true) n false 0

set_option maxHeartbeats 1000000 in
set_option maxRecDepth 1000000 in
theorem law06_idle_ok (n : Nat) (s1 : Bs) (r : Bool) (hm : law06_idle n s1 = some r) {w : World}  :
    Calls Tryd.prog 15 #[vs s1] w fun e w' => e = .returned (.bool r) ∧ w' = w := by
  unfold law06_idle at hm
  refine calls_of (args := [vs s1]) 33 Tryd.func15 rfl rfl rfl ?_
  refine c_seq ?_
  refine c_region ?_
  refine r_assign rfl rfl rfl ?_
  refine r_nil ?_
  refine q_then ?_
  refine c_seq ?_
  refine c_region ?_
  refine r_assign rfl rfl rfl ?_
  refine r_nil ?_
  refine q_then ?_
  refine c_seq ?_
  refine c_seq ?_
  refine c_region ?_
  refine r_assign rfl rfl rfl ?_
  refine r_nil ?_
  refine q_then ?_
  refine c_block ?_
  intro a hax6
  obtain ⟨kont1, hkont1⟩ : ∃ kont1 : Option Bool, kont1 = (
              some true) := ⟨_, rfl⟩
  replace hm : (fun m (s : Bool × Int) => law06_idle_L1 n s1 kont1 m s.1 s.2) n (false, 0) = some r := by rw [hkont1]; exact hm
  refine loopX (id := 0) (fun m (s : Bool × Int) => law06_idle_L1 n s1 kont1 m s.1 s.2) (fun (y : Unit) => kont1) r (fun (s : Bool × Int) a w' => w = w' ∧ Has 33 a [(0, vs s1), (3, .bool s.1), (4, .int .i64 s.2)]) (fun (y : Unit) a w' => w = w' ∧ Has 33 a []) (fun _ => rfl) ?_ ?_ hm ⟨rfl, hax6.cut (l := [0, 3, 4]) rfl⟩
  · clear hm; rintro _u a wx1 hm ⟨rfl, hax1⟩
    rw [hkont1] at hm
    refine qw_apply (e := .exit 0) hax1 ?_
    refine q_block_hit ?_
    refine q_then ?_
    refine c_seq ?_
    refine c_region ?_
    refine r_assign rfl rfl rfl ?_
    refine r_nil ?_
    refine q_then ?_
    refine c_ret ?_
    refine b_ret1 rfl rfl ?_
    obtain rfl := Option.some.inj hm
    exact ⟨rfl, rfl⟩
  · clear hm hkont1; intro hk1 mx1 K ihx1
    rintro ⟨comment1, i1⟩ a wx2 hm ⟨rfl, hax2⟩
    simp only [law06_idle_L1_s] at hm
    refine cw_apply hax2 ?_
    refine c_seq ?_
    refine c_seq ?_
    refine c_region ?_
    refine r_move rfl rfl rfl ?_
    refine r_move rfl rfl rfl ?_
    refine r_slen u9 rfl rfl rfl ?_
    refine r_bin rfl rfl rfl rfl rfl ?_
    refine r_nil ?_
    refine q_then ?_
    rcases cond_some hm with ⟨hb1, hm⟩ | ⟨hb1, hm⟩
    · refine c_lit 8 rfl hb1 ?_
      refine c_true rfl ?_
      refine c_skip ?_
      refine q_then ?_
      refine c_seq ?_
      refine c_block ?_
      refine c_seq ?_
      refine c_region ?_
      refine r_move rfl rfl rfl ?_
      refine r_move rfl rfl rfl ?_
      obtain ⟨c1, hc1, hm⟩ := bind_some hm
      refine r_sidx u9 rfl rfl rfl rfl hc1 ?_
      refine r_bin rfl rfl rfl rfl rfl ?_
      refine r_move rfl rfl rfl ?_
      obtain ⟨v1, hb2, hm⟩ := bind_some hm
      refine r_mid 8 (fun a w' => w = w' ∧ Has 33 a [(0, vs s1), (4, .int .i64 i1), (23, .bool v1)]) ?_ ?_
      · rintro a wx3 ⟨rfl, hax3⟩
        refine rw_apply hax3 ?_
        refine r_assign rfl rfl rfl ?_
        refine r_nil ?_
        refine q_then ?_
        refine c_seq ?_
        refine c_region ?_
        refine r_move rfl rfl rfl ?_
        refine r_not rfl rfl rfl ?_
        refine r_move rfl rfl rfl ?_
        obtain ⟨v2, hb3, hm⟩ := bind_some hm
        refine r_mid 6 (fun a w' => w = w' ∧ Has 33 a [(0, vs s1), (3, .bool v1), (4, .int .i64 i1), (32, .bool v2)]) ?_ ?_
        · rintro a wx4 ⟨rfl, hax4⟩
          refine rw_apply hax4 ?_
          refine r_nil ?_
          refine q_then ?_
          rcases cond_some hm with ⟨hb4, hm⟩ | ⟨hb4, hm⟩
          · refine c_lit 32 rfl hb4 ?_
            refine c_true rfl ?_
            refine c_seq ?_
            refine c_region ?_
            refine r_assign rfl rfl rfl ?_
            refine r_nil ?_
            refine q_then ?_
            refine c_ret ?_
            refine q_block_ret ?_
            refine q_then_ret ?_
            refine q_then_ret ?_
            refine q_block_ret ?_
            refine q_then_ret ?_
            refine b_ret1 rfl rfl ?_
            obtain rfl := Option.some.inj hm
            exact ⟨rfl, rfl⟩
          · refine c_lit 32 rfl hb4 ?_
            refine c_false rfl ?_
            refine c_skip ?_
            refine q_block ?_
            refine q_then ?_
            refine c_region ?_
            refine r_move rfl rfl rfl ?_
            refine r_bin rfl rfl rfl rfl rfl ?_
            refine r_assign rfl rfl rfl ?_
            refine r_nil ?_
            refine q_next (fun a ha => ihx1 (v1, (iadd .i64 i1 1)) a _ hm ?_)
            exact ⟨rfl, ha.cut (l := [0, 3, 4]) rfl⟩
        · clear hm
          rcases cond_some hb3 with ⟨hb5, hb3⟩ | ⟨hb5, hb3⟩
          · refine r_lit 26 rfl hb5 ?_
            refine r_move rfl rfl rfl ?_
            refine r_move rfl rfl rfl ?_
            obtain ⟨c2, hc2, hb3⟩ := bind_some hb3
            refine r_sidx u9 rfl rfl rfl rfl hc2 ?_
            obtain ⟨v3, hv1, hb3⟩ := bind_some hb3
            refine r_callP0 ent29 rfl rfl rfl rfl (ref06_Blank_ok _ _ _ hv1) ?_
            refine r_not rfl rfl rfl ?_
            refine r_pick_true rfl rfl rfl rfl ?_
            refine r_nil ?_
            refine q_next (fun a ha => ?_)
            cases hb3
            exact ⟨rfl, ha.cut (l := [0, 3, 4, 32]) rfl⟩
          · refine r_lit 26 rfl hb5 ?_
            refine r_off rfl (by decide) rfl ?_
            refine r_off rfl (by decide) rfl ?_
            refine r_off rfl (by decide) rfl ?_
            refine r_off rfl (by decide) rfl ?_
            refine r_off rfl (by decide) rfl ?_
            refine r_pick_false rfl rfl rfl rfl ?_
            refine r_nil ?_
            refine q_next (fun a ha => ?_)
            cases hb3
            exact ⟨rfl, ha.cut (l := [0, 3, 4, 32]) rfl⟩
      · clear hm
        rcases cond_some hb2 with ⟨hb6, hb2⟩ | ⟨hb6, hb2⟩
        · refine r_lit 15 rfl hb6 ?_
          refine r_off rfl (by decide) rfl ?_
          refine r_off rfl (by decide) rfl ?_
          refine r_off rfl (by decide) rfl ?_
          refine r_off rfl (by decide) rfl ?_
          refine r_off rfl (by decide) rfl ?_
          refine r_off rfl (by decide) rfl ?_
          refine r_off rfl (by decide) rfl ?_
          refine r_pick_true rfl rfl rfl rfl ?_
          refine r_nil ?_
          refine q_next (fun a ha => ?_)
          cases hb2
          exact ⟨rfl, ha.cut (l := [0, 4, 23]) rfl⟩
        · refine r_lit 15 rfl hb6 ?_
          refine r_move rfl rfl rfl ?_
          refine r_move rfl rfl rfl ?_
          obtain ⟨v4, hb7, hb2⟩ := bind_some hb2
          refine r_mid 5 (fun a w' => w = w' ∧ Has 33 a [(0, vs s1), (4, .int .i64 i1), (15, .bool false), (22, .bool v4)]) ?_ ?_
          · rintro a wx5 ⟨rfl, hax5⟩
            refine rw_apply hax5 ?_
            refine r_pick_false rfl rfl rfl rfl ?_
            refine r_nil ?_
            refine q_next (fun a ha => ?_)
            cases hb2
            exact ⟨rfl, ha.cut (l := [0, 4, 23]) rfl⟩
          · clear hb2
            rcases cond_some hb7 with ⟨hb8, hb7⟩ | ⟨hb8, hb7⟩
            · refine r_lit 17 rfl hb8 ?_
              refine r_move rfl rfl rfl ?_
              refine r_move rfl rfl rfl ?_
              obtain ⟨c3, hc3, hb7⟩ := bind_some hb7
              refine r_sidx u9 rfl rfl rfl rfl hc3 ?_
              refine r_bin rfl rfl rfl rfl rfl ?_
              refine r_pick_true rfl rfl rfl rfl ?_
              refine r_nil ?_
              refine q_next (fun a ha => ?_)
              cases hb7
              exact ⟨rfl, ha.cut (l := [0, 4, 15, 22]) rfl⟩
            · refine r_lit 17 rfl hb8 ?_
              refine r_off rfl (by decide) rfl ?_
              refine r_off rfl (by decide) rfl ?_
              refine r_off rfl (by decide) rfl ?_
              refine r_off rfl (by decide) rfl ?_
              refine r_pick_false rfl rfl rfl rfl ?_
              refine r_nil ?_
              refine q_next (fun a ha => ?_)
              cases hb7
              exact ⟨rfl, ha.cut (l := [0, 4, 15, 22]) rfl⟩
    · refine c_lit 8 rfl hb1 ?_
      refine c_false rfl ?_
      refine c_exit ?_
      refine q_then_exit ?_
      refine q_then_exit ?_
      refine fun a ha => hk1 () a _ hm ?_
      exact ⟨rfl, ha.cut (l := []) rfl⟩


theorem ent10 : Ent Tryd.prog 10 := fun _ _ => by kernel_rfl

theorem ent21 : Ent Tryd.prog 21 := fun _ _ => by kernel_rfl

theorem ent12 : Ent Tryd.prog 12 := fun _ _ => by kernel_rfl

def law06_sane (n : Nat)  : Option Bool :=
  (lexer_Scan n [97, 49, 32, 61, 32, 34, 120, 92, 34, 121, 34, 59, 32, 35, 32, 122]).bind fun v1 =>
  (lexer_Scan n [120, 32, 48, 48, 55]).bind fun v2 =>
  (lexer_Scan n [97, 32, 62, 32, 98]).bind fun v3 =>
  (lexer_Scan n [34, 97, 98]).bind fun v4 =>
  (lexer_Scan n [102, 40, 50, 44, 34, 97, 34, 41]).bind fun v5 =>
  (lexer_Number n [49, 50]).bind fun v6 =>
  (lexer_Number n [48, 49, 50]).bind fun v7 =>
  (ref06_Same n v1.1 [(⟨0, [97, 49], 0, 0⟩ : Token), (⟨3, [61], 0, 3⟩ : Token), (⟨2, [120, 34, 121], 0, 5⟩ : Token), (⟨3, [59], 0, 11⟩ : Token)]).bind fun v8 =>
  (bif v8 then
    some (v1.2.2 == 0)
  else
    some false).bind fun v9 =>
  (bif v9 then
    some (v2.2.2 == 3)
  else
    some false).bind fun v10 =>
  (bif v10 then
    some (v2.2.1 == 2)
  else
    some false).bind fun v11 =>
  (bif v11 then
    some (v3.2.2 == 10)
  else
    some false).bind fun v12 =>
  (bif v12 then
    some (v3.2.1 == 2)
  else
    some false).bind fun v13 =>
  (bif v13 then
    some (v4.2.2 == 2)
  else
    some false).bind fun v14 =>
  (bif v14 then
    some (v4.2.1 == 0)
  else
    some false).bind fun v15 =>
  (bif v15 then
    some (v5.2.2 == 0)
  else
    some false).bind fun v16 =>
  (bif v16 then
    (lexer_Print n v5.1).bind fun v25 =>
    some (v25 == [102, 32, 40, 32, 50, 32, 44, 32, 34, 97, 34, 32, 41])
  else
    some false).bind fun v17 =>
  (bif v17 then
    (lexer_Name n [97, 95, 49]).bind fun v24 =>
    some v24
  else
    some false).bind fun v18 =>
  (bif v18 then
    (lexer_Name n [49, 97]).bind fun v23 =>
    some (!v23)
  else
    some false).bind fun v19 =>
  (bif v19 then
    some (v6.1 == 12)
  else
    some false).bind fun v20 =>
  (bif v20 then
    some v6.2
  else
    some false).bind fun v21 =>
  (bif v21 then
    some (!v7.2)
  else
    some false).bind fun v22 =>
  some v22

set_option maxHeartbeats 1000000 in
set_option maxRecDepth 1000000 in
theorem law06_sane_ok (n : Nat)  (r : Bool) (hm : law06_sane n  = some r) {w : World} {F : Frz} (hs : Sat F w) (hg0 : FC F 0 0 [.int .u8 40, .int .u8 41, .int .u8 44, .int .u8 59, .int .u8 58, .int .u8 61, .int .u8 60, .int .u8 43, .int .u8 45, .int .u8 42, .int .u8 47, .int .u8 123, .int .u8 125]) :
    Calls Tryd.prog 9 #[] w fun e w' => ∃ v F' O', e = .returned v ∧ HS F w [] F' O' w' ∧ (v = .bool r ∧ O' = []) := by
  unfold law06_sane at hm
  have h := HS.init hs
  refine calls_of (args := []) 119 Tryd.func9 rfl rfl rfl ?_
  refine c_seq ?_
  refine c_region ?_
  refine r_assign rfl rfl rfl ?_
  refine r_nil ?_
  refine q_then ?_
  refine c_seq ?_
  refine c_region ?_
  obtain ⟨v1, hv1, hm⟩ := bind_some hm
  refine r_callG0 ent10 rfl rfl rfl rfl h (lexer_Scan_ok _ _ _ hv1 h.sat hg0) ?_
  rintro _ Fx1 _ wx1 hF1 hx1 ⟨as1, cs1, rfl, rfl, hs1⟩
  refine r_move rfl rfl rfl ?_
  refine r_extract rfl rfl rfl rfl ?_
  refine r_extract rfl rfl rfl rfl ?_
  refine r_extract rfl rfl rfl rfl ?_
  refine r_assign rfl rfl rfl ?_
  refine r_assign rfl rfl rfl ?_
  refine r_assign rfl rfl rfl ?_
  refine r_nil ?_
  refine q_then ?_
  refine c_seq ?_
  refine c_region ?_
  obtain ⟨v2, hv2, hm⟩ := bind_some hm
  refine r_callG0 ent10 rfl rfl rfl rfl hx1 (lexer_Scan_ok _ _ _ hv2 hx1.sat (hg0.mono hF1)) ?_
  rintro _ Fx2 _ wx2 hF2 hx2 ⟨as2, cs2, rfl, rfl, hs2⟩
  refine r_move rfl rfl rfl ?_
  refine r_extract rfl rfl rfl rfl ?_
  refine r_extract rfl rfl rfl rfl ?_
  refine r_extract rfl rfl rfl rfl ?_
  refine r_assign rfl rfl rfl ?_
  refine r_assign rfl rfl rfl ?_
  refine r_assign rfl rfl rfl ?_
  refine r_nil ?_
  refine q_then ?_
  refine c_seq ?_
  refine c_region ?_
  obtain ⟨v3, hv3, hm⟩ := bind_some hm
  refine r_callG0 ent10 rfl rfl rfl rfl hx2 (lexer_Scan_ok _ _ _ hv3 hx2.sat ((hg0.mono hF1).mono hF2)) ?_
  rintro _ Fx3 _ wx3 hF3 hx3 ⟨as3, cs3, rfl, rfl, hs3⟩
  refine r_move rfl rfl rfl ?_
  refine r_extract rfl rfl rfl rfl ?_
  refine r_extract rfl rfl rfl rfl ?_
  refine r_extract rfl rfl rfl rfl ?_
  refine r_assign rfl rfl rfl ?_
  refine r_assign rfl rfl rfl ?_
  refine r_assign rfl rfl rfl ?_
  refine r_nil ?_
  refine q_then ?_
  refine c_seq ?_
  refine c_region ?_
  obtain ⟨v4, hv4, hm⟩ := bind_some hm
  refine r_callG0 ent10 rfl rfl rfl rfl hx3 (lexer_Scan_ok _ _ _ hv4 hx3.sat (((hg0.mono hF1).mono hF2).mono hF3)) ?_
  rintro _ Fx4 _ wx4 hF4 hx4 ⟨as4, cs4, rfl, rfl, hs4⟩
  refine r_move rfl rfl rfl ?_
  refine r_extract rfl rfl rfl rfl ?_
  refine r_extract rfl rfl rfl rfl ?_
  refine r_extract rfl rfl rfl rfl ?_
  refine r_assign rfl rfl rfl ?_
  refine r_assign rfl rfl rfl ?_
  refine r_assign rfl rfl rfl ?_
  refine r_nil ?_
  refine q_then ?_
  refine c_seq ?_
  refine c_region ?_
  obtain ⟨v5, hv5, hm⟩ := bind_some hm
  refine r_callG0 ent10 rfl rfl rfl rfl hx4 (lexer_Scan_ok _ _ _ hv5 hx4.sat ((((hg0.mono hF1).mono hF2).mono hF3).mono hF4)) ?_
  rintro _ Fx5 _ wx5 hF5 hx5 ⟨as5, cs5, rfl, rfl, hs5⟩
  refine r_move rfl rfl rfl ?_
  refine r_extract rfl rfl rfl rfl ?_
  refine r_extract rfl rfl rfl rfl ?_
  refine r_extract rfl rfl rfl rfl ?_
  refine r_assign rfl rfl rfl ?_
  refine r_assign rfl rfl rfl ?_
  refine r_assign rfl rfl rfl ?_
  refine r_nil ?_
  refine q_then ?_
  refine c_seq ?_
  refine c_region ?_
  refine r_build (v := .agg #[.int .i64 0, vs [97, 49], .int .i64 0, .int .i64 0]) rfl rfl rfl (fun _ => by kernel_rfl) ?_
  refine r_build (v := .agg #[.int .i64 3, vs [61], .int .i64 0, .int .i64 3]) rfl rfl rfl (fun _ => by kernel_rfl) ?_
  refine r_build (v := .agg #[.int .i64 2, vs [120, 34, 121], .int .i64 0, .int .i64 5]) rfl rfl rfl (fun _ => by kernel_rfl) ?_
  refine r_build (v := .agg #[.int .i64 3, vs [59], .int .i64 0, .int .i64 11]) rfl rfl rfl (fun _ => by kernel_rfl) ?_
  refine r_buildSlice (e := 32) (cs := [.int .i64 0, vs [97, 49], .int .i64 0, .int .i64 0, .int .i64 3, vs [61], .int .i64 0, .int .i64 3, .int .i64 2, vs [120, 34, 121], .int .i64 0, .int .i64 5, .int .i64 3, vs [59], .int .i64 0, .int .i64 11]) (q := 4) rfl rfl hx5 rfl (fun _ => by kernel_rfl) rfl rfl ?_
  intro b1 wx6 hx6
  refine r_assign rfl rfl rfl ?_
  refine r_nil ?_
  refine q_then ?_
  refine c_seq ?_
  refine c_region ?_
  obtain ⟨v6, hv6, hm⟩ := bind_some hm
  refine r_callP0 ent17 rfl rfl rfl rfl (lexer_Number_ok _ _ _ hv6) ?_
  refine r_move rfl rfl rfl ?_
  refine r_extract rfl rfl rfl rfl ?_
  refine r_extract rfl rfl rfl rfl ?_
  refine r_assign rfl rfl rfl ?_
  refine r_assign rfl rfl rfl ?_
  refine r_nil ?_
  refine q_then ?_
  refine c_seq ?_
  refine c_region ?_
  obtain ⟨v7, hv7, hm⟩ := bind_some hm
  refine r_callP0 ent17 rfl rfl rfl rfl (lexer_Number_ok _ _ _ hv7) ?_
  refine r_move rfl rfl rfl ?_
  refine r_extract rfl rfl rfl rfl ?_
  refine r_extract rfl rfl rfl rfl ?_
  refine r_assign rfl rfl rfl ?_
  refine r_assign rfl rfl rfl ?_
  refine r_nil ?_
  refine q_then ?_
  refine c_seq ?_
  refine c_region ?_
  refine r_move rfl rfl rfl ?_
  refine r_move rfl rfl rfl ?_
  obtain ⟨Fx6, hF6, hx7, hsx1⟩ := freezeRow hx6 (i := 0) rfl ((show RowR rp_Token Fx5 [.int .i64 0, vs [97, 49], .int .i64 0, .int .i64 0, .int .i64 3, vs [61], .int .i64 0, .int .i64 3, .int .i64 2, vs [120, 34, 121], .int .i64 0, .int .i64 5, .int .i64 3, vs [59], .int .i64 0, .int .i64 11] [(⟨0, [97, 49], 0, 0⟩ : Token), (⟨3, [61], 0, 3⟩ : Token), (⟨2, [120, 34, 121], 0, 5⟩ : Token), (⟨3, [59], 0, 11⟩ : Token)] from ⟨_, _, rfl, rfl, ⟨_, _, rfl, rfl, ⟨_, _, rfl, rfl, ⟨_, _, rfl, rfl, (rfl : RowR rp_Token _ [] [])⟩⟩⟩⟩)) rfl
  obtain ⟨v8, hv8, hm⟩ := bind_some hm
  refine r_callG0 ent21 rfl rfl rfl rfl hx7 (ref06_Same_ok _ _ _ _ hv8 hx7.sat (((((hs1.mono hF2).mono hF3).mono hF4).mono hF5).mono hF6) hsx1) ?_
  rintro _ Fx7 _ wx7 hF7 hx8 ⟨rfl, rfl⟩
  refine r_move rfl rfl rfl ?_
  obtain ⟨v9, hb1, hm⟩ := bind_some hm
  refine r_mid 3 (fun a w' => wx7 = w' ∧ Has 119 a [(5, .int .i64 v2.2.1), (6, .int .i64 v2.2.2), (8, .int .i64 v3.2.1), (9, .int .i64 v3.2.2), (11, .int .i64 v4.2.1), (12, .int .i64 v4.2.2), (13, .slice as5 v5.1.length cs5), (15, .int .i64 v5.2.2), (17, .int .i64 v6.1), (18, .bool v6.2), (20, .bool v7.2), (66, .bool v9)]) ?_ ?_
  · rintro a wx8 ⟨rfl, hax1⟩
    refine rw_apply hax1 ?_
    refine r_move rfl rfl rfl ?_
    obtain ⟨v10, hb2, hm⟩ := bind_some hm
    refine r_mid 3 (fun a w' => wx7 = w' ∧ Has 119 a [(5, .int .i64 v2.2.1), (8, .int .i64 v3.2.1), (9, .int .i64 v3.2.2), (11, .int .i64 v4.2.1), (12, .int .i64 v4.2.2), (13, .slice as5 v5.1.length cs5), (15, .int .i64 v5.2.2), (17, .int .i64 v6.1), (18, .bool v6.2), (20, .bool v7.2), (70, .bool v10)]) ?_ ?_
    · rintro a wx9 ⟨rfl, hax2⟩
      refine rw_apply hax2 ?_
      refine r_move rfl rfl rfl ?_
      obtain ⟨v11, hb3, hm⟩ := bind_some hm
      refine r_mid 3 (fun a w' => wx7 = w' ∧ Has 119 a [(8, .int .i64 v3.2.1), (9, .int .i64 v3.2.2), (11, .int .i64 v4.2.1), (12, .int .i64 v4.2.2), (13, .slice as5 v5.1.length cs5), (15, .int .i64 v5.2.2), (17, .int .i64 v6.1), (18, .bool v6.2), (20, .bool v7.2), (74, .bool v11)]) ?_ ?_
      · rintro a wx10 ⟨rfl, hax3⟩
        refine rw_apply hax3 ?_
        refine r_move rfl rfl rfl ?_
        obtain ⟨v12, hb4, hm⟩ := bind_some hm
        refine r_mid 3 (fun a w' => wx7 = w' ∧ Has 119 a [(8, .int .i64 v3.2.1), (11, .int .i64 v4.2.1), (12, .int .i64 v4.2.2), (13, .slice as5 v5.1.length cs5), (15, .int .i64 v5.2.2), (17, .int .i64 v6.1), (18, .bool v6.2), (20, .bool v7.2), (78, .bool v12)]) ?_ ?_
        · rintro a wx11 ⟨rfl, hax4⟩
          refine rw_apply hax4 ?_
          refine r_move rfl rfl rfl ?_
          obtain ⟨v13, hb5, hm⟩ := bind_some hm
          refine r_mid 3 (fun a w' => wx7 = w' ∧ Has 119 a [(11, .int .i64 v4.2.1), (12, .int .i64 v4.2.2), (13, .slice as5 v5.1.length cs5), (15, .int .i64 v5.2.2), (17, .int .i64 v6.1), (18, .bool v6.2), (20, .bool v7.2), (82, .bool v13)]) ?_ ?_
          · rintro a wx12 ⟨rfl, hax5⟩
            refine rw_apply hax5 ?_
            refine r_move rfl rfl rfl ?_
            obtain ⟨v14, hb6, hm⟩ := bind_some hm
            refine r_mid 3 (fun a w' => wx7 = w' ∧ Has 119 a [(11, .int .i64 v4.2.1), (13, .slice as5 v5.1.length cs5), (15, .int .i64 v5.2.2), (17, .int .i64 v6.1), (18, .bool v6.2), (20, .bool v7.2), (86, .bool v14)]) ?_ ?_
            · rintro a wx13 ⟨rfl, hax6⟩
              refine rw_apply hax6 ?_
              refine r_move rfl rfl rfl ?_
              obtain ⟨v15, hb7, hm⟩ := bind_some hm
              refine r_mid 3 (fun a w' => wx7 = w' ∧ Has 119 a [(13, .slice as5 v5.1.length cs5), (15, .int .i64 v5.2.2), (17, .int .i64 v6.1), (18, .bool v6.2), (20, .bool v7.2), (90, .bool v15)]) ?_ ?_
              · rintro a wx14 ⟨rfl, hax7⟩
                refine rw_apply hax7 ?_
                refine r_move rfl rfl rfl ?_
                obtain ⟨v16, hb8, hm⟩ := bind_some hm
                refine r_mid 3 (fun a w' => wx7 = w' ∧ Has 119 a [(13, .slice as5 v5.1.length cs5), (17, .int .i64 v6.1), (18, .bool v6.2), (20, .bool v7.2), (94, .bool v16)]) ?_ ?_
                · rintro a wx15 ⟨rfl, hax8⟩
                  refine rw_apply hax8 ?_
                  refine r_assign rfl rfl rfl ?_
                  refine r_nil ?_
                  refine q_then ?_
                  refine c_seq ?_
                  refine c_region ?_
                  refine r_move rfl rfl rfl ?_
                  refine r_move rfl rfl rfl ?_
                  obtain ⟨v17, hb9, hm⟩ := bind_some hm
                  refine r_mid 4 (fun a w' => ∃ Fx8 : Frz, Frz.le Fx7 Fx8 ∧ HS F w [] Fx8 [] w' ∧ Has 119 a [(17, .int .i64 v6.1), (18, .bool v6.2), (20, .bool v7.2), (100, .bool v17)]) ?_ ?_
                  · rintro a wx16 ⟨Fx8, hF8, hx9, hax9⟩
                    refine rw_apply hax9 ?_
                    refine r_move rfl rfl rfl ?_
                    obtain ⟨v18, hb10, hm⟩ := bind_some hm
                    refine r_mid 2 (fun a w' => wx16 = w' ∧ Has 119 a [(17, .int .i64 v6.1), (18, .bool v6.2), (20, .bool v7.2), (103, .bool v18)]) ?_ ?_
                    · rintro a wx17 ⟨rfl, hax10⟩
                      refine rw_apply hax10 ?_
                      refine r_move rfl rfl rfl ?_
                      obtain ⟨v19, hb11, hm⟩ := bind_some hm
                      refine r_mid 3 (fun a w' => wx16 = w' ∧ Has 119 a [(17, .int .i64 v6.1), (18, .bool v6.2), (20, .bool v7.2), (107, .bool v19)]) ?_ ?_
                      · rintro a wx18 ⟨rfl, hax11⟩
                        refine rw_apply hax11 ?_
                        refine r_move rfl rfl rfl ?_
                        obtain ⟨v20, hb12, hm⟩ := bind_some hm
                        refine r_mid 3 (fun a w' => wx16 = w' ∧ Has 119 a [(18, .bool v6.2), (20, .bool v7.2), (111, .bool v20)]) ?_ ?_
                        · rintro a wx19 ⟨rfl, hax12⟩
                          refine rw_apply hax12 ?_
                          refine r_move rfl rfl rfl ?_
                          obtain ⟨v21, hb13, hm⟩ := bind_some hm
                          refine r_mid 2 (fun a w' => wx16 = w' ∧ Has 119 a [(20, .bool v7.2), (114, .bool v21)]) ?_ ?_
                          · rintro a wx20 ⟨rfl, hax13⟩
                            refine rw_apply hax13 ?_
                            refine r_move rfl rfl rfl ?_
                            obtain ⟨v22, hb14, hm⟩ := bind_some hm
                            refine r_mid 3 (fun a w' => wx16 = w' ∧ Has 119 a [(118, .bool v22)]) ?_ ?_
                            · rintro a wx21 ⟨rfl, hax14⟩
                              refine rw_apply hax14 ?_
                              refine r_assign rfl rfl rfl ?_
                              refine r_nil ?_
                              refine q_then ?_
                              refine c_ret ?_
                              refine b_ret1 rfl rfl ?_
                              obtain rfl := Option.some.inj hm
                              exact ⟨_, _, _, rfl, hx9.pick [] (by decide) rfl, rfl, rfl⟩
                            · clear hm
                              rcases cond_some hb14 with ⟨hb15, hb14⟩ | ⟨hb15, hb14⟩
                              · refine r_lit 115 rfl hb15 ?_
                                refine r_move rfl rfl rfl ?_
                                refine r_not rfl rfl rfl ?_
                                refine r_pick_true rfl rfl rfl rfl ?_
                                refine r_nil ?_
                                refine q_next (fun a ha => ?_)
                                cases hb14
                                exact ⟨rfl, ha.cut (l := [118]) rfl⟩
                              · refine r_lit 115 rfl hb15 ?_
                                refine r_off rfl (by decide) rfl ?_
                                refine r_off rfl (by decide) rfl ?_
                                refine r_pick_false rfl rfl rfl rfl ?_
                                refine r_nil ?_
                                refine q_next (fun a ha => ?_)
                                cases hb14
                                exact ⟨rfl, ha.cut (l := [118]) rfl⟩
                          · clear hm
                            rcases cond_some hb13 with ⟨hb16, hb13⟩ | ⟨hb16, hb13⟩
                            · refine r_lit 112 rfl hb16 ?_
                              refine r_move rfl rfl rfl ?_
                              refine r_pick_true rfl rfl rfl rfl ?_
                              refine r_nil ?_
                              refine q_next (fun a ha => ?_)
                              cases hb13
                              exact ⟨rfl, ha.cut (l := [20, 114]) rfl⟩
                            · refine r_lit 112 rfl hb16 ?_
                              refine r_off rfl (by decide) rfl ?_
                              refine r_pick_false rfl rfl rfl rfl ?_
                              refine r_nil ?_
                              refine q_next (fun a ha => ?_)
                              cases hb13
                              exact ⟨rfl, ha.cut (l := [20, 114]) rfl⟩
                        · clear hm
                          rcases cond_some hb12 with ⟨hb17, hb12⟩ | ⟨hb17, hb12⟩
                          · refine r_lit 108 rfl hb17 ?_
                            refine r_move rfl rfl rfl ?_
                            refine r_bin rfl rfl rfl rfl rfl ?_
                            refine r_pick_true rfl rfl rfl rfl ?_
                            refine r_nil ?_
                            refine q_next (fun a ha => ?_)
                            cases hb12
                            exact ⟨rfl, ha.cut (l := [18, 20, 111]) rfl⟩
                          · refine r_lit 108 rfl hb17 ?_
                            refine r_off rfl (by decide) rfl ?_
                            refine r_off rfl (by decide) rfl ?_
                            refine r_pick_false rfl rfl rfl rfl ?_
                            refine r_nil ?_
                            refine q_next (fun a ha => ?_)
                            cases hb12
                            exact ⟨rfl, ha.cut (l := [18, 20, 111]) rfl⟩
                      · clear hm
                        rcases cond_some hb11 with ⟨hb18, hb11⟩ | ⟨hb18, hb11⟩
                        · refine r_lit 104 rfl hb18 ?_
                          obtain ⟨v23, hv9, hb11⟩ := bind_some hb11
                          refine r_callP0 ent22 rfl rfl rfl rfl (lexer_Name_ok _ _ _ hv9) ?_
                          refine r_not rfl rfl rfl ?_
                          refine r_pick_true rfl rfl rfl rfl ?_
                          refine r_nil ?_
                          refine q_next (fun a ha => ?_)
                          cases hb11
                          exact ⟨rfl, ha.cut (l := [17, 18, 20, 107]) rfl⟩
                        · refine r_lit 104 rfl hb18 ?_
                          refine r_off rfl (by decide) rfl ?_
                          refine r_off rfl (by decide) rfl ?_
                          refine r_pick_false rfl rfl rfl rfl ?_
                          refine r_nil ?_
                          refine q_next (fun a ha => ?_)
                          cases hb11
                          exact ⟨rfl, ha.cut (l := [17, 18, 20, 107]) rfl⟩
                    · clear hm
                      rcases cond_some hb10 with ⟨hb19, hb10⟩ | ⟨hb19, hb10⟩
                      · refine r_lit 101 rfl hb19 ?_
                        obtain ⟨v24, hv10, hb10⟩ := bind_some hb10
                        refine r_callP0 ent22 rfl rfl rfl rfl (lexer_Name_ok _ _ _ hv10) ?_
                        refine r_pick_true rfl rfl rfl rfl ?_
                        refine r_nil ?_
                        refine q_next (fun a ha => ?_)
                        cases hb10
                        exact ⟨rfl, ha.cut (l := [17, 18, 20, 103]) rfl⟩
                      · refine r_lit 101 rfl hb19 ?_
                        refine r_off rfl (by decide) rfl ?_
                        refine r_pick_false rfl rfl rfl rfl ?_
                        refine r_nil ?_
                        refine q_next (fun a ha => ?_)
                        cases hb10
                        exact ⟨rfl, ha.cut (l := [17, 18, 20, 103]) rfl⟩
                  · clear hm
                    rcases cond_some hb9 with ⟨hb20, hb9⟩ | ⟨hb20, hb9⟩
                    · refine r_lit 96 rfl hb20 ?_
                      refine r_move rfl rfl rfl ?_
                      obtain ⟨v25, hv11, hb9⟩ := bind_some hb9
                      refine r_callG0 ent12 rfl rfl rfl rfl hx8 (lexer_Print_ok _ _ _ hv11 hx8.sat ((hs5.mono hF6).mono hF7)) ?_
                      rintro _ Fx9 _ wx22 hF9 hx10 ⟨rfl, rfl⟩
                      refine r_str rfl rfl rfl rfl rfl ?_
                      refine r_pick_true rfl rfl rfl rfl ?_
                      refine r_nil ?_
                      refine q_next (fun a ha => ?_)
                      cases hb9
                      exact ⟨_, hF9, hx10.pick [] (by decide) rfl, ha.cut (l := [17, 18, 20, 100]) rfl⟩
                    · refine r_lit 96 rfl hb20 ?_
                      refine r_off rfl (by decide) rfl ?_
                      refine r_off rfl (by decide) rfl ?_
                      refine r_off rfl (by decide) rfl ?_
                      refine r_pick_false rfl rfl rfl rfl ?_
                      refine r_nil ?_
                      refine q_next (fun a ha => ?_)
                      cases hb9
                      exact ⟨_, Frz.refl _, hx8.pick [] (by decide) rfl, ha.cut (l := [17, 18, 20, 100]) rfl⟩
                · clear hm
                  rcases cond_some hb8 with ⟨hb21, hb8⟩ | ⟨hb21, hb8⟩
                  · refine r_lit 91 rfl hb21 ?_
                    refine r_move rfl rfl rfl ?_
                    refine r_bin rfl rfl rfl rfl rfl ?_
                    refine r_pick_true rfl rfl rfl rfl ?_
                    refine r_nil ?_
                    refine q_next (fun a ha => ?_)
                    cases hb8
                    exact ⟨rfl, ha.cut (l := [13, 17, 18, 20, 94]) rfl⟩
                  · refine r_lit 91 rfl hb21 ?_
                    refine r_off rfl (by decide) rfl ?_
                    refine r_off rfl (by decide) rfl ?_
                    refine r_pick_false rfl rfl rfl rfl ?_
                    refine r_nil ?_
                    refine q_next (fun a ha => ?_)
                    cases hb8
                    exact ⟨rfl, ha.cut (l := [13, 17, 18, 20, 94]) rfl⟩
              · clear hm
                rcases cond_some hb7 with ⟨hb22, hb7⟩ | ⟨hb22, hb7⟩
                · refine r_lit 87 rfl hb22 ?_
                  refine r_move rfl rfl rfl ?_
                  refine r_bin rfl rfl rfl rfl rfl ?_
                  refine r_pick_true rfl rfl rfl rfl ?_
                  refine r_nil ?_
                  refine q_next (fun a ha => ?_)
                  cases hb7
                  exact ⟨rfl, ha.cut (l := [13, 15, 17, 18, 20, 90]) rfl⟩
                · refine r_lit 87 rfl hb22 ?_
                  refine r_off rfl (by decide) rfl ?_
                  refine r_off rfl (by decide) rfl ?_
                  refine r_pick_false rfl rfl rfl rfl ?_
                  refine r_nil ?_
                  refine q_next (fun a ha => ?_)
                  cases hb7
                  exact ⟨rfl, ha.cut (l := [13, 15, 17, 18, 20, 90]) rfl⟩
            · clear hm
              rcases cond_some hb6 with ⟨hb23, hb6⟩ | ⟨hb23, hb6⟩
              · refine r_lit 83 rfl hb23 ?_
                refine r_move rfl rfl rfl ?_
                refine r_bin rfl rfl rfl rfl rfl ?_
                refine r_pick_true rfl rfl rfl rfl ?_
                refine r_nil ?_
                refine q_next (fun a ha => ?_)
                cases hb6
                exact ⟨rfl, ha.cut (l := [11, 13, 15, 17, 18, 20, 86]) rfl⟩
              · refine r_lit 83 rfl hb23 ?_
                refine r_off rfl (by decide) rfl ?_
                refine r_off rfl (by decide) rfl ?_
                refine r_pick_false rfl rfl rfl rfl ?_
                refine r_nil ?_
                refine q_next (fun a ha => ?_)
                cases hb6
                exact ⟨rfl, ha.cut (l := [11, 13, 15, 17, 18, 20, 86]) rfl⟩
          · clear hm
            rcases cond_some hb5 with ⟨hb24, hb5⟩ | ⟨hb24, hb5⟩
            · refine r_lit 79 rfl hb24 ?_
              refine r_move rfl rfl rfl ?_
              refine r_bin rfl rfl rfl rfl rfl ?_
              refine r_pick_true rfl rfl rfl rfl ?_
              refine r_nil ?_
              refine q_next (fun a ha => ?_)
              cases hb5
              exact ⟨rfl, ha.cut (l := [11, 12, 13, 15, 17, 18, 20, 82]) rfl⟩
            · refine r_lit 79 rfl hb24 ?_
              refine r_off rfl (by decide) rfl ?_
              refine r_off rfl (by decide) rfl ?_
              refine r_pick_false rfl rfl rfl rfl ?_
              refine r_nil ?_
              refine q_next (fun a ha => ?_)
              cases hb5
              exact ⟨rfl, ha.cut (l := [11, 12, 13, 15, 17, 18, 20, 82]) rfl⟩
        · clear hm
          rcases cond_some hb4 with ⟨hb25, hb4⟩ | ⟨hb25, hb4⟩
          · refine r_lit 75 rfl hb25 ?_
            refine r_move rfl rfl rfl ?_
            refine r_bin rfl rfl rfl rfl rfl ?_
            refine r_pick_true rfl rfl rfl rfl ?_
            refine r_nil ?_
            refine q_next (fun a ha => ?_)
            cases hb4
            exact ⟨rfl, ha.cut (l := [8, 11, 12, 13, 15, 17, 18, 20, 78]) rfl⟩
          · refine r_lit 75 rfl hb25 ?_
            refine r_off rfl (by decide) rfl ?_
            refine r_off rfl (by decide) rfl ?_
            refine r_pick_false rfl rfl rfl rfl ?_
            refine r_nil ?_
            refine q_next (fun a ha => ?_)
            cases hb4
            exact ⟨rfl, ha.cut (l := [8, 11, 12, 13, 15, 17, 18, 20, 78]) rfl⟩
      · clear hm
        rcases cond_some hb3 with ⟨hb26, hb3⟩ | ⟨hb26, hb3⟩
        · refine r_lit 71 rfl hb26 ?_
          refine r_move rfl rfl rfl ?_
          refine r_bin rfl rfl rfl rfl rfl ?_
          refine r_pick_true rfl rfl rfl rfl ?_
          refine r_nil ?_
          refine q_next (fun a ha => ?_)
          cases hb3
          exact ⟨rfl, ha.cut (l := [8, 9, 11, 12, 13, 15, 17, 18, 20, 74]) rfl⟩
        · refine r_lit 71 rfl hb26 ?_
          refine r_off rfl (by decide) rfl ?_
          refine r_off rfl (by decide) rfl ?_
          refine r_pick_false rfl rfl rfl rfl ?_
          refine r_nil ?_
          refine q_next (fun a ha => ?_)
          cases hb3
          exact ⟨rfl, ha.cut (l := [8, 9, 11, 12, 13, 15, 17, 18, 20, 74]) rfl⟩
    · clear hm
      rcases cond_some hb2 with ⟨hb27, hb2⟩ | ⟨hb27, hb2⟩
      · refine r_lit 67 rfl hb27 ?_
        refine r_move rfl rfl rfl ?_
        refine r_bin rfl rfl rfl rfl rfl ?_
        refine r_pick_true rfl rfl rfl rfl ?_
        refine r_nil ?_
        refine q_next (fun a ha => ?_)
        cases hb2
        exact ⟨rfl, ha.cut (l := [5, 8, 9, 11, 12, 13, 15, 17, 18, 20, 70]) rfl⟩
      · refine r_lit 67 rfl hb27 ?_
        refine r_off rfl (by decide) rfl ?_
        refine r_off rfl (by decide) rfl ?_
        refine r_pick_false rfl rfl rfl rfl ?_
        refine r_nil ?_
        refine q_next (fun a ha => ?_)
        cases hb2
        exact ⟨rfl, ha.cut (l := [5, 8, 9, 11, 12, 13, 15, 17, 18, 20, 70]) rfl⟩
  · clear hm
    rcases cond_some hb1 with ⟨hb28, hb1⟩ | ⟨hb28, hb1⟩
    · refine r_lit 63 rfl hb28 ?_
      refine r_move rfl rfl rfl ?_
      refine r_bin rfl rfl rfl rfl rfl ?_
      refine r_pick_true rfl rfl rfl rfl ?_
      refine r_nil ?_
      refine q_next (fun a ha => ?_)
      cases hb1
      exact ⟨rfl, ha.cut (l := [5, 6, 8, 9, 11, 12, 13, 15, 17, 18, 20, 66]) rfl⟩
    · refine r_lit 63 rfl hb28 ?_
      refine r_off rfl (by decide) rfl ?_
      refine r_off rfl (by decide) rfl ?_
      refine r_pick_false rfl rfl rfl rfl ?_
      refine r_nil ?_
      refine q_next (fun a ha => ?_)
      cases hb1
      exact ⟨rfl, ha.cut (l := [5, 6, 8, 9, 11, 12, 13, 15, 17, 18, 20, 66]) rfl⟩


theorem ent9 : Ent Tryd.prog 9 := fun _ _ => by kernel_rfl

theorem ent11 : Ent Tryd.prog 11 := fun _ _ => by kernel_rfl

theorem ent13 : Ent Tryd.prog 13 := fun _ _ => by kernel_rfl

def law06_LexerBack (n : Nat) (s1 : Bs) : Option Bool :=
  (law06_sane n).bind fun v1 =>
  (law06_cut n s1).bind fun v2 =>
  (lexer_Scan n v2).bind fun v3 =>
  bif v3.2.2 != 0 then
    (bif v1 then
      some ((v3.1.length : Int) == 0)
    else
      some false).bind fun v4 =>
    some v4
  else
    (lexer_Print n v3.1).bind fun v5 =>
    (lexer_Scan n v5).bind fun v6 =>
    (bif v1 then
      some (v6.2.2 == 0)
    else
      some false).bind fun v7 =>
    (bif v7 then
      (ref06_Like n v3.1 v6.1).bind fun v11 =>
      some v11
    else
      some false).bind fun v8 =>
    (bif v8 then
      (lexer_Print n v6.1).bind fun v10 =>
      some (v10 == v5)
    else
      some false).bind fun v9 =>
    some v9

set_option maxHeartbeats 1000000 in
set_option maxRecDepth 1000000 in
theorem law06_LexerBack_ok (n : Nat) (s1 : Bs) (r : Bool) (hm : law06_LexerBack n s1 = some r) {w : World} {F : Frz} (hs : Sat F w) (hg0 : FC F 0 0 [.int .u8 40, .int .u8 41, .int .u8 44, .int .u8 59, .int .u8 58, .int .u8 61, .int .u8 60, .int .u8 43, .int .u8 45, .int .u8 42, .int .u8 47, .int .u8 123, .int .u8 125]) :
    Calls Tryd.prog 3 #[vs s1] w fun e w' => ∃ v F' O', e = .returned v ∧ HS F w [] F' O' w' ∧ (v = .bool r ∧ O' = []) := by
  unfold law06_LexerBack at hm
  have h := HS.init hs
  refine calls_of (args := [vs s1]) 51 Tryd.func3 rfl rfl rfl ?_
  refine c_seq ?_
  refine c_region ?_
  refine r_assign rfl rfl rfl ?_
  refine r_nil ?_
  refine q_then ?_
  refine c_seq ?_
  refine c_region ?_
  obtain ⟨v1, hv1, hm⟩ := bind_some hm
  refine r_callG0 ent9 rfl rfl rfl rfl h (law06_sane_ok _ _ hv1 h.sat hg0) ?_
  rintro _ Fx1 _ wx1 hF1 hx1 ⟨rfl, rfl⟩
  refine r_assign rfl rfl rfl ?_
  refine r_nil ?_
  refine q_then ?_
  refine c_seq ?_
  refine c_region ?_
  refine r_move rfl rfl rfl ?_
  obtain ⟨v2, hv2, hm⟩ := bind_some hm
  refine r_callP0 ent11 rfl rfl rfl rfl (law06_cut_ok _ _ _ hv2) ?_
  obtain ⟨v3, hv3, hm⟩ := bind_some hm
  refine r_callG0 ent10 rfl rfl rfl rfl hx1 (lexer_Scan_ok _ _ _ hv3 hx1.sat (hg0.mono hF1)) ?_
  rintro _ Fx2 _ wx2 hF2 hx2 ⟨as2, cs2, rfl, rfl, hs2⟩
  refine r_move rfl rfl rfl ?_
  refine r_extract rfl rfl rfl rfl ?_
  refine r_extract rfl rfl rfl rfl ?_
  refine r_extract rfl rfl rfl rfl ?_
  refine r_assign rfl rfl rfl ?_
  refine r_assign rfl rfl rfl ?_
  refine r_assign rfl rfl rfl ?_
  refine r_nil ?_
  refine q_then ?_
  refine c_seq ?_
  refine c_seq ?_
  refine c_region ?_
  refine r_move rfl rfl rfl ?_
  refine r_bin rfl rfl rfl rfl rfl ?_
  refine r_nil ?_
  refine q_then ?_
  rcases cond_some hm with ⟨hb1, hm⟩ | ⟨hb1, hm⟩
  · refine c_lit 20 rfl hb1 ?_
    refine c_true rfl ?_
    refine c_seq ?_
    refine c_region ?_
    refine r_move rfl rfl rfl ?_
    refine r_move rfl rfl rfl ?_
    obtain ⟨v4, hb2, hm⟩ := bind_some hm
    refine r_mid 4 (fun a w' => wx2 = w' ∧ Has 51 a [(26, .bool v4)]) ?_ ?_
    · rintro a wx3 ⟨rfl, hax1⟩
      refine rw_apply hax1 ?_
      refine r_assign rfl rfl rfl ?_
      refine r_nil ?_
      refine q_then ?_
      refine c_ret ?_
      refine q_then_ret ?_
      refine b_ret1 rfl rfl ?_
      obtain rfl := Option.some.inj hm
      exact ⟨_, _, _, rfl, hx2.pick [] (by decide) rfl, rfl, rfl⟩
    · clear hm
      rcases cond_some hb2 with ⟨hb3, hb2⟩ | ⟨hb3, hb2⟩
      · refine r_lit 22 rfl hb3 ?_
        refine r_move rfl rfl rfl ?_
        refine r_lenS u23 rfl rfl rfl ?_
        refine r_bin rfl rfl rfl rfl rfl ?_
        refine r_pick_true rfl rfl rfl rfl ?_
        refine r_nil ?_
        refine q_next (fun a ha => ?_)
        cases hb2
        exact ⟨rfl, ha.cut (l := [26]) rfl⟩
      · refine r_lit 22 rfl hb3 ?_
        refine r_off rfl (by decide) rfl ?_
        refine r_off rfl (by decide) rfl ?_
        refine r_off rfl (by decide) rfl ?_
        refine r_pick_false rfl rfl rfl rfl ?_
        refine r_nil ?_
        refine q_next (fun a ha => ?_)
        cases hb2
        exact ⟨rfl, ha.cut (l := [26]) rfl⟩
  · refine c_lit 20 rfl hb1 ?_
    refine c_false rfl ?_
    refine c_skip ?_
    refine q_then ?_
    refine c_seq ?_
    refine c_region ?_
    refine r_move rfl rfl rfl ?_
    obtain ⟨v5, hv4, hm⟩ := bind_some hm
    refine r_callG0 ent12 rfl rfl rfl rfl hx2 (lexer_Print_ok _ _ _ hv4 hx2.sat hs2) ?_
    rintro _ Fx3 _ wx4 hF3 hx3 ⟨rfl, rfl⟩
    refine r_assign rfl rfl rfl ?_
    refine r_nil ?_
    refine q_then ?_
    refine c_seq ?_
    refine c_region ?_
    refine r_move rfl rfl rfl ?_
    obtain ⟨v6, hv5, hm⟩ := bind_some hm
    refine r_callG0 ent10 rfl rfl rfl rfl hx3 (lexer_Scan_ok _ _ _ hv5 hx3.sat (((hg0.mono hF1).mono hF2).mono hF3)) ?_
    rintro _ Fx4 _ wx5 hF4 hx4 ⟨as3, cs3, rfl, rfl, hs3⟩
    refine r_move rfl rfl rfl ?_
    refine r_extract rfl rfl rfl rfl ?_
    refine r_extract rfl rfl rfl rfl ?_
    refine r_extract rfl rfl rfl rfl ?_
    refine r_assign rfl rfl rfl ?_
    refine r_assign rfl rfl rfl ?_
    refine r_assign rfl rfl rfl ?_
    refine r_nil ?_
    refine q_then ?_
    refine c_seq ?_
    refine c_region ?_
    refine r_move rfl rfl rfl ?_
    refine r_move rfl rfl rfl ?_
    obtain ⟨v7, hb4, hm⟩ := bind_some hm
    refine r_mid 3 (fun a w' => wx5 = w' ∧ Has 51 a [(4, .slice as2 v3.1.length cs2), (7, vs v5), (8, .slice as3 v6.1.length cs3), (39, .bool v7)]) ?_ ?_
    · rintro a wx6 ⟨rfl, hax2⟩
      refine rw_apply hax2 ?_
      refine r_move rfl rfl rfl ?_
      obtain ⟨v8, hb5, hm⟩ := bind_some hm
      refine r_mid 4 (fun a w' => ∃ Fx5 : Frz, Frz.le Fx4 Fx5 ∧ HS F w [] Fx5 [] w' ∧ Has 51 a [(7, vs v5), (8, .slice as3 v6.1.length cs3), (44, .bool v8)]) ?_ ?_
      · rintro a wx7 ⟨Fx5, hF5, hx5, hax3⟩
        refine rw_apply hax3 ?_
        refine r_move rfl rfl rfl ?_
        obtain ⟨v9, hb6, hm⟩ := bind_some hm
        refine r_mid 5 (fun a w' => ∃ Fx6 : Frz, Frz.le Fx5 Fx6 ∧ HS F w [] Fx6 [] w' ∧ Has 51 a [(50, .bool v9)]) ?_ ?_
        · rintro a wx8 ⟨Fx6, hF6, hx6, hax4⟩
          refine rw_apply hax4 ?_
          refine r_assign rfl rfl rfl ?_
          refine r_nil ?_
          refine q_then ?_
          refine c_ret ?_
          refine b_ret1 rfl rfl ?_
          obtain rfl := Option.some.inj hm
          exact ⟨_, _, _, rfl, hx6.pick [] (by decide) rfl, rfl, rfl⟩
        · clear hm
          rcases cond_some hb6 with ⟨hb7, hb6⟩ | ⟨hb7, hb6⟩
          · refine r_lit 45 rfl hb7 ?_
            refine r_move rfl rfl rfl ?_
            obtain ⟨v10, hv6, hb6⟩ := bind_some hb6
            refine r_callG0 ent12 rfl rfl rfl rfl hx5 (lexer_Print_ok _ _ _ hv6 hx5.sat (hs3.mono hF5)) ?_
            rintro _ Fx7 _ wx9 hF7 hx7 ⟨rfl, rfl⟩
            refine r_move rfl rfl rfl ?_
            refine r_str rfl rfl rfl rfl rfl ?_
            refine r_pick_true rfl rfl rfl rfl ?_
            refine r_nil ?_
            refine q_next (fun a ha => ?_)
            cases hb6
            exact ⟨_, hF7, hx7.pick [] (by decide) rfl, ha.cut (l := [50]) rfl⟩
          · refine r_lit 45 rfl hb7 ?_
            refine r_off rfl (by decide) rfl ?_
            refine r_off rfl (by decide) rfl ?_
            refine r_off rfl (by decide) rfl ?_
            refine r_off rfl (by decide) rfl ?_
            refine r_pick_false rfl rfl rfl rfl ?_
            refine r_nil ?_
            refine q_next (fun a ha => ?_)
            cases hb6
            exact ⟨_, Frz.refl _, hx5.pick [] (by decide) rfl, ha.cut (l := [50]) rfl⟩
      · clear hm
        rcases cond_some hb5 with ⟨hb8, hb5⟩ | ⟨hb8, hb5⟩
        · refine r_lit 40 rfl hb8 ?_
          refine r_move rfl rfl rfl ?_
          refine r_move rfl rfl rfl ?_
          obtain ⟨v11, hv7, hb5⟩ := bind_some hb5
          refine r_callG0 ent13 rfl rfl rfl rfl hx4 (ref06_Like_ok _ _ _ _ hv7 hx4.sat ((hs2.mono hF3).mono hF4) hs3) ?_
          rintro _ Fx8 _ wx10 hF8 hx8 ⟨rfl, rfl⟩
          refine r_pick_true rfl rfl rfl rfl ?_
          refine r_nil ?_
          refine q_next (fun a ha => ?_)
          cases hb5
          exact ⟨_, hF8, hx8.pick [] (by decide) rfl, ha.cut (l := [7, 8, 44]) rfl⟩
        · refine r_lit 40 rfl hb8 ?_
          refine r_off rfl (by decide) rfl ?_
          refine r_off rfl (by decide) rfl ?_
          refine r_off rfl (by decide) rfl ?_
          refine r_pick_false rfl rfl rfl rfl ?_
          refine r_nil ?_
          refine q_next (fun a ha => ?_)
          cases hb5
          exact ⟨_, Frz.refl _, hx4.pick [] (by decide) rfl, ha.cut (l := [7, 8, 44]) rfl⟩
    · clear hm
      rcases cond_some hb4 with ⟨hb9, hb4⟩ | ⟨hb9, hb4⟩
      · refine r_lit 36 rfl hb9 ?_
        refine r_move rfl rfl rfl ?_
        refine r_bin rfl rfl rfl rfl rfl ?_
        refine r_pick_true rfl rfl rfl rfl ?_
        refine r_nil ?_
        refine q_next (fun a ha => ?_)
        cases hb4
        exact ⟨rfl, ha.cut (l := [4, 7, 8, 39]) rfl⟩
      · refine r_lit 36 rfl hb9 ?_
        refine r_off rfl (by decide) rfl ?_
        refine r_off rfl (by decide) rfl ?_
        refine r_pick_false rfl rfl rfl rfl ?_
        refine r_nil ?_
        refine q_next (fun a ha => ?_)
        cases hb4
        exact ⟨rfl, ha.cut (l := [4, 7, 8, 39]) rfl⟩


theorem ent15 : Ent Tryd.prog 15 := fun _ _ => by kernel_rfl

def law06_LexerPlaces_L1 (n : Nat) (v2 : Bs) (v3 : ((List Token) × Int × Int)) (kont1 : Int → Option Bool) : Nat → Int → Int → Option Bool
  | 0, _, _ => none
  | mx1 + 1, endx1, i1 =>
    bif decide (i1 < (v3.1.length : Int)) then
      (ix v3.1 i1).bind fun ex1 =>
      bif ex1.Kind == 2 then
        (ref06_Escaped n ex1.Text).bind fun v9 =>
        (bif decide (ex1.Pos < endx1) then
          some true
        else
          some (decide ((isub .i64 (v2.length : Int) (v9.length : Int)) < ex1.Pos))).bind fun v10 =>
        (bif v10 then
          some true
        else
          (bif ex1.Kind != 1 then
            some (ex1.N != 0)
          else
            some false).bind fun v18 =>
          some v18).bind fun v11 =>
        (bif v11 then
          some true
        else
          some (decide ((v9.length : Int) < 1))).bind fun v12 =>
        bif v12 then
          some false
        else
          (ssl v2 ex1.Pos (iadd .i64 ex1.Pos (v9.length : Int))).bind fun t2 =>
          (bif ex1.Kind == 2 then
            (ref06_Escaped n ex1.Text).bind fun v17 =>
            some (!(t2 == v17))
          else
            some false).bind fun v13 =>
          (bif v13 then
            some true
          else
            (bif ex1.Kind != 2 then
              some (!(t2 == ex1.Text))
            else
              some false).bind fun v16 =>
            some v16).bind fun v14 =>
          bif v14 then
            some false
          else
            (ssl v2 endx1 ex1.Pos).bind fun t3 =>
            (law06_idle n t3).bind fun v15 =>
            bif !v15 then
              some false
            else
              law06_LexerPlaces_L1 n v2 v3 kont1 mx1 (iadd .i64 ex1.Pos (v9.length : Int)) (iadd .i64 i1 1)
      else
        (bif decide (ex1.Pos < endx1) then
          some true
        else
          some (decide ((isub .i64 (v2.length : Int) (ex1.Text.length : Int)) < ex1.Pos))).bind fun v19 =>
        (bif v19 then
          some true
        else
          (bif ex1.Kind != 1 then
            some (ex1.N != 0)
          else
            some false).bind fun v27 =>
          some v27).bind fun v20 =>
        (bif v20 then
          some true
        else
          some (decide ((ex1.Text.length : Int) < 1))).bind fun v21 =>
        bif v21 then
          some false
        else
          (ssl v2 ex1.Pos (iadd .i64 ex1.Pos (ex1.Text.length : Int))).bind fun t4 =>
          (bif ex1.Kind == 2 then
            (ref06_Escaped n ex1.Text).bind fun v26 =>
            some (!(t4 == v26))
          else
            some false).bind fun v22 =>
          (bif v22 then
            some true
          else
            (bif ex1.Kind != 2 then
              some (!(t4 == ex1.Text))
            else
              some false).bind fun v25 =>
            some v25).bind fun v23 =>
          bif v23 then
            some false
          else
            (ssl v2 endx1 ex1.Pos).bind fun t5 =>
            (law06_idle n t5).bind fun v24 =>
            bif !v24 then
              some false
            else
              law06_LexerPlaces_L1 n v2 v3 kont1 mx1 (iadd .i64 ex1.Pos (ex1.Text.length : Int)) (iadd .i64 i1 1)
    else
      kont1 endx1

theorem law06_LexerPlaces_L1_s (n : Nat) (v2 : Bs) (v3 : ((List Token) × Int × Int)) (kont1 : Int → Option Bool) (mx1 : Nat) (endx1 : Int) (i1 : Int) : law06_LexerPlaces_L1 n v2 v3 kont1 (mx1 + 1) endx1 i1 =
    bif decide (i1 < (v3.1.length : Int)) then
      (ix v3.1 i1).bind fun ex1 =>
      bif ex1.Kind == 2 then
        (ref06_Escaped n ex1.Text).bind fun v9 =>
        (bif decide (ex1.Pos < endx1) then
          some true
        else
          some (decide ((isub .i64 (v2.length : Int) (v9.length : Int)) < ex1.Pos))).bind fun v10 =>
        (bif v10 then
          some true
        else
          (bif ex1.Kind != 1 then
            some (ex1.N != 0)
          else
            some false).bind fun v18 =>
          some v18).bind fun v11 =>
        (bif v11 then
          some true
        else
          some (decide ((v9.length : Int) < 1))).bind fun v12 =>
        bif v12 then
          some false
        else
          (ssl v2 ex1.Pos (iadd .i64 ex1.Pos (v9.length : Int))).bind fun t2 =>
          (bif ex1.Kind == 2 then
            (ref06_Escaped n ex1.Text).bind fun v17 =>
            some (!(t2 == v17))
          else
            some false).bind fun v13 =>
          (bif v13 then
            some true
          else
            (bif ex1.Kind != 2 then
              some (!(t2 == ex1.Text))
            else
              some false).bind fun v16 =>
            some v16).bind fun v14 =>
          bif v14 then
            some false
          else
            (ssl v2 endx1 ex1.Pos).bind fun t3 =>
            (law06_idle n t3).bind fun v15 =>
            bif !v15 then
              some false
            else
              law06_LexerPlaces_L1 n v2 v3 kont1 mx1 (iadd .i64 ex1.Pos (v9.length : Int)) (iadd .i64 i1 1)
      else
        (bif decide (ex1.Pos < endx1) then
          some true
        else
          some (decide ((isub .i64 (v2.length : Int) (ex1.Text.length : Int)) < ex1.Pos))).bind fun v19 =>
        (bif v19 then
          some true
        else
          (bif ex1.Kind != 1 then
            some (ex1.N != 0)
          else
            some false).bind fun v27 =>
          some v27).bind fun v20 =>
        (bif v20 then
          some true
        else
          some (decide ((ex1.Text.length : Int) < 1))).bind fun v21 =>
        bif v21 then
          some false
        else
          (ssl v2 ex1.Pos (iadd .i64 ex1.Pos (ex1.Text.length : Int))).bind fun t4 =>
          (bif ex1.Kind == 2 then
            (ref06_Escaped n ex1.Text).bind fun v26 =>
            some (!(t4 == v26))
          else
            some false).bind fun v22 =>
          (bif v22 then
            some true
          else
            (bif ex1.Kind != 2 then
              some (!(t4 == ex1.Text))
            else
              some false).bind fun v25 =>
            some v25).bind fun v23 =>
          bif v23 then
            some false
          else
            (ssl v2 endx1 ex1.Pos).bind fun t5 =>
            (law06_idle n t5).bind fun v24 =>
            bif !v24 then
              some false
            else
              law06_LexerPlaces_L1 n v2 v3 kont1 mx1 (iadd .i64 ex1.Pos (ex1.Text.length : Int)) (iadd .i64 i1 1)
    else
      kont1 endx1 := rfl

def law06_LexerPlaces (n : Nat) (s1 : Bs) : Option Bool :=
  (law06_sane n).bind fun v1 =>
  (law06_cut n s1).bind fun v2 =>
  (lexer_Scan n v2).bind fun v3 =>
  bif v3.2.2 != 0 then
    (bif v1 then
      some (decide (0 ≤ v3.2.1))
    else
      some false).bind fun v4 =>
    (bif v4 then
      some (decide (v3.2.1 < (v2.length : Int)))
    else
      some false).bind fun v5 =>
    some v5
  else
    law06_LexerPlaces_L1 n v2 v3 (fun (endx2 : Int) =>
      (bif v1 then
        some (v3.2.1 == 0)
      else
        some false).bind fun v6 =>
      (bif v6 then
        (ssl v2 endx2 v2.length).bind fun t1 =>
        (law06_idle n t1).bind fun v8 =>
        some v8
      else
        some false).bind fun v7 =>
      some v7) n 0 0

set_option maxHeartbeats 1000000 in
set_option maxRecDepth 1000000 in
theorem law06_LexerPlaces_ok (n : Nat) (s1 : Bs) (r : Bool) (hm : law06_LexerPlaces n s1 = some r) {w : World} {F : Frz} (hs : Sat F w) (hg0 : FC F 0 0 [.int .u8 40, .int .u8 41, .int .u8 44, .int .u8 59, .int .u8 58, .int .u8 61, .int .u8 60, .int .u8 43, .int .u8 45, .int .u8 42, .int .u8 47, .int .u8 123, .int .u8 125]) :
    Calls Tryd.prog 4 #[vs s1] w fun e w' => ∃ v F' O', e = .returned v ∧ HS F w [] F' O' w' ∧ (v = .bool r ∧ O' = []) := by
  unfold law06_LexerPlaces at hm
  have h := HS.init hs
  refine calls_of (args := [vs s1]) 133 Tryd.func4 rfl rfl rfl ?_
  refine c_seq ?_
  refine c_region ?_
  refine r_assign rfl rfl rfl ?_
  refine r_nil ?_
  refine q_then ?_
  refine c_seq ?_
  refine c_region ?_
  obtain ⟨v1, hv1, hm⟩ := bind_some hm
  refine r_callG0 ent9 rfl rfl rfl rfl h (law06_sane_ok _ _ hv1 h.sat hg0) ?_
  rintro _ Fx1 _ wx1 hF1 hx1 ⟨rfl, rfl⟩
  refine r_assign rfl rfl rfl ?_
  refine r_nil ?_
  refine q_then ?_
  refine c_seq ?_
  refine c_region ?_
  refine r_move rfl rfl rfl ?_
  obtain ⟨v2, hv2, hm⟩ := bind_some hm
  refine r_callP0 ent11 rfl rfl rfl rfl (law06_cut_ok _ _ _ hv2) ?_
  refine r_assign rfl rfl rfl ?_
  refine r_nil ?_
  refine q_then ?_
  refine c_seq ?_
  refine c_region ?_
  refine r_move rfl rfl rfl ?_
  obtain ⟨v3, hv3, hm⟩ := bind_some hm
  refine r_callG0 ent10 rfl rfl rfl rfl hx1 (lexer_Scan_ok _ _ _ hv3 hx1.sat (hg0.mono hF1)) ?_
  rintro _ Fx2 _ wx2 hF2 hx2 ⟨as2, cs2, rfl, rfl, hs2⟩
  refine r_move rfl rfl rfl ?_
  refine r_extract rfl rfl rfl rfl ?_
  refine r_extract rfl rfl rfl rfl ?_
  refine r_extract rfl rfl rfl rfl ?_
  refine r_assign rfl rfl rfl ?_
  refine r_assign rfl rfl rfl ?_
  refine r_assign rfl rfl rfl ?_
  refine r_nil ?_
  refine q_then ?_
  refine c_seq ?_
  refine c_seq ?_
  refine c_region ?_
  refine r_move rfl rfl rfl ?_
  refine r_bin rfl rfl rfl rfl rfl ?_
  refine r_nil ?_
  refine q_then ?_
  rcases cond_some hm with ⟨hb1, hm⟩ | ⟨hb1, hm⟩
  · refine c_lit 23 rfl hb1 ?_
    refine c_true rfl ?_
    refine c_seq ?_
    refine c_region ?_
    refine r_move rfl rfl rfl ?_
    refine r_move rfl rfl rfl ?_
    obtain ⟨v4, hb2, hm⟩ := bind_some hm
    refine r_mid 3 (fun a w' => wx2 = w' ∧ Has 133 a [(4, vs v2), (6, .int .i64 v3.2.1), (28, .bool v4)]) ?_ ?_
    · rintro a wx3 ⟨rfl, hax1⟩
      refine rw_apply hax1 ?_
      refine r_move rfl rfl rfl ?_
      obtain ⟨v5, hb3, hm⟩ := bind_some hm
      refine r_mid 5 (fun a w' => wx2 = w' ∧ Has 133 a [(34, .bool v5)]) ?_ ?_
      · rintro a wx4 ⟨rfl, hax2⟩
        refine rw_apply hax2 ?_
        refine r_assign rfl rfl rfl ?_
        refine r_nil ?_
        refine q_then ?_
        refine c_ret ?_
        refine q_then_ret ?_
        refine b_ret1 rfl rfl ?_
        obtain rfl := Option.some.inj hm
        exact ⟨_, _, _, rfl, hx2.pick [] (by decide) rfl, rfl, rfl⟩
      · clear hm
        rcases cond_some hb3 with ⟨hb4, hb3⟩ | ⟨hb4, hb3⟩
        · refine r_lit 29 rfl hb4 ?_
          refine r_move rfl rfl rfl ?_
          refine r_move rfl rfl rfl ?_
          refine r_slen u9 rfl rfl rfl ?_
          refine r_bin rfl rfl rfl rfl rfl ?_
          refine r_pick_true rfl rfl rfl rfl ?_
          refine r_nil ?_
          refine q_next (fun a ha => ?_)
          cases hb3
          exact ⟨rfl, ha.cut (l := [34]) rfl⟩
        · refine r_lit 29 rfl hb4 ?_
          refine r_off rfl (by decide) rfl ?_
          refine r_off rfl (by decide) rfl ?_
          refine r_off rfl (by decide) rfl ?_
          refine r_off rfl (by decide) rfl ?_
          refine r_pick_false rfl rfl rfl rfl ?_
          refine r_nil ?_
          refine q_next (fun a ha => ?_)
          cases hb3
          exact ⟨rfl, ha.cut (l := [34]) rfl⟩
    · clear hm
      rcases cond_some hb2 with ⟨hb5, hb2⟩ | ⟨hb5, hb2⟩
      · refine r_lit 25 rfl hb5 ?_
        refine r_move rfl rfl rfl ?_
        refine r_bin rfl rfl rfl rfl rfl ?_
        refine r_pick_true rfl rfl rfl rfl ?_
        refine r_nil ?_
        refine q_next (fun a ha => ?_)
        cases hb2
        exact ⟨rfl, ha.cut (l := [4, 6, 28]) rfl⟩
      · refine r_lit 25 rfl hb5 ?_
        refine r_off rfl (by decide) rfl ?_
        refine r_off rfl (by decide) rfl ?_
        refine r_pick_false rfl rfl rfl rfl ?_
        refine r_nil ?_
        refine q_next (fun a ha => ?_)
        cases hb2
        exact ⟨rfl, ha.cut (l := [4, 6, 28]) rfl⟩
  · refine c_lit 23 rfl hb1 ?_
    refine c_false rfl ?_
    refine c_skip ?_
    refine q_then ?_
    refine c_seq ?_
    refine c_region ?_
    refine r_assign rfl rfl rfl ?_
    refine r_nil ?_
    refine q_then ?_
    refine c_seq ?_
    refine c_seq ?_
    refine c_region ?_
    refine r_assign rfl rfl rfl ?_
    refine r_nil ?_
    refine q_then ?_
    refine c_block ?_
    intro a hax21
    obtain ⟨kont1, hkont1⟩ : ∃ kont1 : Int → Option Bool, kont1 = (fun (endx2 : Int) =>
              (bif v1 then
                some (v3.2.1 == 0)
              else
                some false).bind fun v6 =>
              (bif v6 then
                (ssl v2 endx2 v2.length).bind fun t1 =>
                (law06_idle n t1).bind fun v8 =>
                some v8
              else
                some false).bind fun v7 =>
              some v7) := ⟨_, rfl⟩
    replace hm : (fun m (s : Int × Int) => law06_LexerPlaces_L1 n v2 v3 kont1 m s.1 s.2) n (0, 0) = some r := by rw [hkont1]; exact hm
    refine loopX (id := 0) (fun m (s : Int × Int) => law06_LexerPlaces_L1 n v2 v3 kont1 m s.1 s.2) (fun (y : Int) => kont1 y) r (fun (s : Int × Int) a w' => ∃ (Fx3 : Frz), Frz.le Fx2 Fx3 ∧ HS F w [] Fx3 [] w' ∧ Has 133 a [(3, .bool v1), (4, vs v2), (5, .slice as2 v3.1.length cs2), (6, .int .i64 v3.2.1), (8, .int .i64 s.1), (9, .int .i64 s.2)]) (fun (y : Int) a w' => ∃ (Fx4 : Frz), Frz.le Fx2 Fx4 ∧ HS F w [] Fx4 [] w' ∧ Has 133 a [(3, .bool v1), (4, vs v2), (6, .int .i64 v3.2.1), (8, .int .i64 y)]) (fun _ => rfl) ?_ ?_ hm ⟨_, Frz.refl _, hx2.pick [] (by decide) rfl, hax21.cut (l := [3, 4, 5, 6, 8, 9]) rfl⟩
    · clear hm; rintro endx2 a wx5 hm ⟨Fx4, hF4, hx4, hax3⟩
      rw [hkont1] at hm
      replace hm := hm
      refine qw_apply (e := .exit 0) hax3 ?_
      refine q_block_hit ?_
      refine q_then ?_
      refine c_seq ?_
      refine c_region ?_
      refine r_move rfl rfl rfl ?_
      refine r_move rfl rfl rfl ?_
      obtain ⟨v6, hb6, hm⟩ := bind_some hm
      refine r_mid 3 (fun a w' => wx5 = w' ∧ Has 133 a [(4, vs v2), (8, .int .i64 endx2), (126, .bool v6)]) ?_ ?_
      · rintro a wx6 ⟨rfl, hax4⟩
        refine rw_apply hax4 ?_
        refine r_move rfl rfl rfl ?_
        obtain ⟨v7, hb7, hm⟩ := bind_some hm
        refine r_mid 5 (fun a w' => wx5 = w' ∧ Has 133 a [(132, .bool v7)]) ?_ ?_
        · rintro a wx7 ⟨rfl, hax5⟩
          refine rw_apply hax5 ?_
          refine r_assign rfl rfl rfl ?_
          refine r_nil ?_
          refine q_then ?_
          refine c_ret ?_
          refine b_ret1 rfl rfl ?_
          obtain rfl := Option.some.inj hm
          exact ⟨_, _, _, rfl, hx4.pick [] (by decide) rfl, rfl, rfl⟩
        · clear hm
          rcases cond_some hb7 with ⟨hb8, hb7⟩ | ⟨hb8, hb7⟩
          · refine r_lit 127 rfl hb8 ?_
            refine r_move rfl rfl rfl ?_
            refine r_move rfl rfl rfl ?_
            obtain ⟨t1, hc1, hb7⟩ := bind_some hb7
            refine r_ssl_l u9 rfl rfl rfl rfl hc1 ?_
            obtain ⟨v8, hv4, hb7⟩ := bind_some hb7
            refine r_callP0 ent15 rfl rfl rfl rfl (law06_idle_ok _ _ _ hv4) ?_
            refine r_pick_true rfl rfl rfl rfl ?_
            refine r_nil ?_
            refine q_next (fun a ha => ?_)
            cases hb7
            exact ⟨rfl, ha.cut (l := [132]) rfl⟩
          · refine r_lit 127 rfl hb8 ?_
            refine r_off rfl (by decide) rfl ?_
            refine r_off rfl (by decide) rfl ?_
            refine r_off rfl (by decide) rfl ?_
            refine r_off rfl (by decide) rfl ?_
            refine r_pick_false rfl rfl rfl rfl ?_
            refine r_nil ?_
            refine q_next (fun a ha => ?_)
            cases hb7
            exact ⟨rfl, ha.cut (l := [132]) rfl⟩
      · clear hm
        rcases cond_some hb6 with ⟨hb9, hb6⟩ | ⟨hb9, hb6⟩
        · refine r_lit 123 rfl hb9 ?_
          refine r_move rfl rfl rfl ?_
          refine r_bin rfl rfl rfl rfl rfl ?_
          refine r_pick_true rfl rfl rfl rfl ?_
          refine r_nil ?_
          refine q_next (fun a ha => ?_)
          cases hb6
          exact ⟨rfl, ha.cut (l := [4, 8, 126]) rfl⟩
        · refine r_lit 123 rfl hb9 ?_
          refine r_off rfl (by decide) rfl ?_
          refine r_off rfl (by decide) rfl ?_
          refine r_pick_false rfl rfl rfl rfl ?_
          refine r_nil ?_
          refine q_next (fun a ha => ?_)
          cases hb6
          exact ⟨rfl, ha.cut (l := [4, 8, 126]) rfl⟩
    · clear hm hkont1; intro hk1 mx1 K ihx1
      rintro ⟨endx1, i1⟩ a wx8 hm ⟨Fx3, hF3, hx3, hax6⟩
      simp only [law06_LexerPlaces_L1_s] at hm
      refine cw_apply hax6 ?_
      refine c_seq ?_
      refine c_seq ?_
      refine c_region ?_
      refine r_move rfl rfl rfl ?_
      refine r_move rfl rfl rfl ?_
      refine r_lenS u23 rfl rfl rfl ?_
      refine r_bin rfl rfl rfl rfl rfl ?_
      refine r_nil ?_
      refine q_then ?_
      rcases cond_some hm with ⟨hb10, hm⟩ | ⟨hb10, hm⟩
      · refine c_lit 38 rfl hb10 ?_
        refine c_true rfl ?_
        refine c_skip ?_
        refine q_then ?_
        refine c_seq ?_
        refine c_block ?_
        refine c_seq ?_
        refine c_region ?_
        refine r_move rfl rfl rfl ?_
        refine r_move rfl rfl rfl ?_
        obtain ⟨ex1, he1, hm⟩ := bind_some hm
        refine r_findex (r := rp_Token) u23 sz32 rfl rfl rfl rfl (hs2.mono hF3) he1 ?_
        intro b1 o1 cs1 hf1 hr1
        have hc2 : cs1 = [.int .i64 ex1.Kind, vs ex1.Text, .int .i64 ex1.N, .int .i64 ex1.Pos] := hr1
        subst hc2
        refine r_loadFA (j := 0) (cs' := [.int .i64 ex1.Kind, vs ex1.Text, .int .i64 ex1.N, .int .i64 ex1.Pos]) ag32 sz32 rfl rfl hx3 hf1 rfl rfl rfl ?_
        refine r_alloc ze32 rfl rfl rfl hx3 ?_
        intro b2 wx9 hx5
        refine r_store sz32 rfl hx5 rfl rfl rfl rfl (i := 0) rfl rfl rfl rfl ?_
        intro wx10 hx6
        refine r_nil ?_
        refine q_then ?_
        refine c_seq ?_
        refine c_region ?_
        refine r_fieldAddr fa32_1 rfl rfl rfl ?_
        refine r_loadB1 ag9 rfl rfl hx6 rfl (i := 0) rfl rfl ?_
        refine r_slen u9 rfl rfl rfl ?_
        refine r_assign rfl rfl rfl ?_
        refine r_nil ?_
        refine q_then ?_
        refine c_seq ?_
        refine c_seq ?_
        refine c_region ?_
        refine r_fieldAddr fa32_0 rfl rfl rfl ?_
        refine r_loadB1 ag3 rfl rfl hx6 rfl (i := 0) rfl rfl ?_
        refine r_bin rfl rfl rfl rfl rfl ?_
        refine r_nil ?_
        refine q_then ?_
        rcases cond_some hm with ⟨hb11, hm⟩ | ⟨hb11, hm⟩
        · refine c_lit 50 rfl hb11 ?_
          refine c_true rfl ?_
          refine c_region ?_
          refine r_fieldAddr fa32_1 rfl rfl rfl ?_
          refine r_loadB1 ag9 rfl rfl hx6 rfl (i := 0) rfl rfl ?_
          obtain ⟨v9, hv5, hm⟩ := bind_some hm
          refine r_callP0 ent14 rfl rfl rfl rfl (ref06_Escaped_ok _ _ _ hv5) ?_
          refine r_slen u9 rfl rfl rfl ?_
          refine r_assign rfl rfl rfl ?_
          refine r_nil ?_
          refine q_then ?_
          refine c_seq ?_
          refine c_seq ?_
          refine c_region ?_
          refine r_fieldAddr fa32_3 rfl rfl rfl ?_
          refine r_loadB1 ag3 rfl rfl hx6 rfl (i := 0) rfl rfl ?_
          refine r_move rfl rfl rfl ?_
          refine r_bin rfl rfl rfl rfl rfl ?_
          refine r_move rfl rfl rfl ?_
          obtain ⟨v10, hb12, hm⟩ := bind_some hm
          refine r_mid 8 (fun a w' => wx10 = w' ∧ Has 133 a [(3, .bool v1), (4, vs v2), (5, .slice as2 v3.1.length cs2), (6, .int .i64 v3.2.1), (8, .int .i64 endx1), (9, .int .i64 i1), (10, .pointer (some ⟨b2, 0, none⟩)), (11, .int .i64 (v9.length : Int)), (67, .bool v10)]) ?_ ?_
          · rintro a wx11 ⟨rfl, hax7⟩
            refine rw_apply hax7 ?_
            refine r_move rfl rfl rfl ?_
            obtain ⟨v11, hb13, hm⟩ := bind_some hm
            refine r_mid 9 (fun a w' => wx10 = w' ∧ Has 133 a [(3, .bool v1), (4, vs v2), (5, .slice as2 v3.1.length cs2), (6, .int .i64 v3.2.1), (8, .int .i64 endx1), (9, .int .i64 i1), (10, .pointer (some ⟨b2, 0, none⟩)), (11, .int .i64 (v9.length : Int)), (77, .bool v11)]) ?_ ?_
            · rintro a wx12 ⟨rfl, hax8⟩
              refine rw_apply hax8 ?_
              refine r_move rfl rfl rfl ?_
              obtain ⟨v12, hb14, hm⟩ := bind_some hm
              refine r_mid 3 (fun a w' => wx10 = w' ∧ Has 133 a [(3, .bool v1), (4, vs v2), (5, .slice as2 v3.1.length cs2), (6, .int .i64 v3.2.1), (8, .int .i64 endx1), (9, .int .i64 i1), (10, .pointer (some ⟨b2, 0, none⟩)), (11, .int .i64 (v9.length : Int)), (81, .bool v12)]) ?_ ?_
              · rintro a wx13 ⟨rfl, hax9⟩
                refine rw_apply hax9 ?_
                refine r_nil ?_
                refine q_then ?_
                rcases cond_some hm with ⟨hb15, hm⟩ | ⟨hb15, hm⟩
                · refine c_lit 81 rfl hb15 ?_
                  refine c_true rfl ?_
                  refine c_seq ?_
                  refine c_region ?_
                  refine r_assign rfl rfl rfl ?_
                  refine r_nil ?_
                  refine q_then ?_
                  refine c_ret ?_
                  refine q_then_ret ?_
                  refine q_block_ret ?_
                  refine q_then_ret ?_
                  refine q_then_ret ?_
                  refine q_block_ret ?_
                  refine q_then_ret ?_
                  refine b_ret1 rfl rfl ?_
                  obtain rfl := Option.some.inj hm
                  exact ⟨_, _, _, rfl, hx6.pick [] (by decide) rfl, rfl, rfl⟩
                · refine c_lit 81 rfl hb15 ?_
                  refine c_false rfl ?_
                  refine c_skip ?_
                  refine q_then ?_
                  refine c_seq ?_
                  refine c_region ?_
                  refine r_move rfl rfl rfl ?_
                  refine r_fieldAddr fa32_3 rfl rfl rfl ?_
                  refine r_loadB1 ag3 rfl rfl hx6 rfl (i := 0) rfl rfl ?_
                  refine r_fieldAddr fa32_3 rfl rfl rfl ?_
                  refine r_loadB1 ag3 rfl rfl hx6 rfl (i := 0) rfl rfl ?_
                  refine r_move rfl rfl rfl ?_
                  refine r_bin rfl rfl rfl rfl rfl ?_
                  obtain ⟨t2, hc3, hm⟩ := bind_some hm
                  refine r_ssl_lh u9 rfl rfl rfl rfl rfl hc3 ?_
                  refine r_assign rfl rfl rfl ?_
                  refine r_nil ?_
                  refine q_then ?_
                  refine c_seq ?_
                  refine c_seq ?_
                  refine c_region ?_
                  refine r_fieldAddr fa32_0 rfl rfl rfl ?_
                  refine r_loadB1 ag3 rfl rfl hx6 rfl (i := 0) rfl rfl ?_
                  refine r_bin rfl rfl rfl rfl rfl ?_
                  refine r_move rfl rfl rfl ?_
                  obtain ⟨v13, hb16, hm⟩ := bind_some hm
                  refine r_mid 6 (fun a w' => wx10 = w' ∧ Has 133 a [(3, .bool v1), (4, vs v2), (5, .slice as2 v3.1.length cs2), (6, .int .i64 v3.2.1), (8, .int .i64 endx1), (9, .int .i64 i1), (10, .pointer (some ⟨b2, 0, none⟩)), (11, .int .i64 (v9.length : Int)), (12, vs t2), (99, .bool v13)]) ?_ ?_
                  · rintro a wx14 ⟨rfl, hax10⟩
                    refine rw_apply hax10 ?_
                    refine r_move rfl rfl rfl ?_
                    obtain ⟨v14, hb17, hm⟩ := bind_some hm
                    refine r_mid 10 (fun a w' => wx10 = w' ∧ Has 133 a [(3, .bool v1), (4, vs v2), (5, .slice as2 v3.1.length cs2), (6, .int .i64 v3.2.1), (8, .int .i64 endx1), (9, .int .i64 i1), (10, .pointer (some ⟨b2, 0, none⟩)), (11, .int .i64 (v9.length : Int)), (110, .bool v14)]) ?_ ?_
                    · rintro a wx15 ⟨rfl, hax11⟩
                      refine rw_apply hax11 ?_
                      refine r_nil ?_
                      refine q_then ?_
                      rcases cond_some hm with ⟨hb18, hm⟩ | ⟨hb18, hm⟩
                      · refine c_lit 110 rfl hb18 ?_
                        refine c_true rfl ?_
                        refine c_seq ?_
                        refine c_region ?_
                        refine r_assign rfl rfl rfl ?_
                        refine r_nil ?_
                        refine q_then ?_
                        refine c_ret ?_
                        refine q_then_ret ?_
                        refine q_block_ret ?_
                        refine q_then_ret ?_
                        refine q_then_ret ?_
                        refine q_block_ret ?_
                        refine q_then_ret ?_
                        refine b_ret1 rfl rfl ?_
                        obtain rfl := Option.some.inj hm
                        exact ⟨_, _, _, rfl, hx6.pick [] (by decide) rfl, rfl, rfl⟩
                      · refine c_lit 110 rfl hb18 ?_
                        refine c_false rfl ?_
                        refine c_skip ?_
                        refine q_then ?_
                        refine c_seq ?_
                        refine c_seq ?_
                        refine c_region ?_
                        refine r_move rfl rfl rfl ?_
                        refine r_move rfl rfl rfl ?_
                        refine r_fieldAddr fa32_3 rfl rfl rfl ?_
                        refine r_loadB1 ag3 rfl rfl hx6 rfl (i := 0) rfl rfl ?_
                        obtain ⟨t3, hc4, hm⟩ := bind_some hm
                        refine r_ssl_lh u9 rfl rfl rfl rfl rfl hc4 ?_
                        obtain ⟨v15, hv6, hm⟩ := bind_some hm
                        refine r_callP0 ent15 rfl rfl rfl rfl (law06_idle_ok _ _ _ hv6) ?_
                        refine r_not rfl rfl rfl ?_
                        refine r_nil ?_
                        refine q_then ?_
                        rcases cond_some hm with ⟨hb19, hm⟩ | ⟨hb19, hm⟩
                        · refine c_lit 117 rfl hb19 ?_
                          refine c_true rfl ?_
                          refine c_seq ?_
                          refine c_region ?_
                          refine r_assign rfl rfl rfl ?_
                          refine r_nil ?_
                          refine q_then ?_
                          refine c_ret ?_
                          refine q_then_ret ?_
                          refine q_block_ret ?_
                          refine q_then_ret ?_
                          refine q_then_ret ?_
                          refine q_block_ret ?_
                          refine q_then_ret ?_
                          refine b_ret1 rfl rfl ?_
                          obtain rfl := Option.some.inj hm
                          exact ⟨_, _, _, rfl, hx6.pick [] (by decide) rfl, rfl, rfl⟩
                        · refine c_lit 117 rfl hb19 ?_
                          refine c_false rfl ?_
                          refine c_skip ?_
                          refine q_then ?_
                          refine c_region ?_
                          refine r_fieldAddr fa32_3 rfl rfl rfl ?_
                          refine r_loadB1 ag3 rfl rfl hx6 rfl (i := 0) rfl rfl ?_
                          refine r_move rfl rfl rfl ?_
                          refine r_bin rfl rfl rfl rfl rfl ?_
                          refine r_assign rfl rfl rfl ?_
                          refine r_nil ?_
                          refine q_block ?_
                          refine q_then ?_
                          refine c_region ?_
                          refine r_move rfl rfl rfl ?_
                          refine r_bin rfl rfl rfl rfl rfl ?_
                          refine r_assign rfl rfl rfl ?_
                          refine r_nil ?_
                          refine q_next (fun a ha => ihx1 ((iadd .i64 ex1.Pos (v9.length : Int)), (iadd .i64 i1 1)) a _ hm ?_)
                          exact ⟨_, hF3, hx6.pick [] (by decide) rfl, ha.cut (l := [3, 4, 5, 6, 8, 9]) rfl⟩
                    · clear hm
                      rcases cond_some hb17 with ⟨hb20, hb17⟩ | ⟨hb20, hb17⟩
                      · refine r_lit 100 rfl hb20 ?_
                        refine r_off rfl (by decide) rfl ?_
                        refine r_off rfl (by decide) rfl ?_
                        refine r_off rfl (by decide) rfl ?_
                        refine r_off rfl (by decide) rfl ?_
                        refine r_off rfl (by decide) rfl ?_
                        refine r_off rfl (by decide) rfl ?_
                        refine r_off rfl (by decide) rfl ?_
                        refine r_off rfl (by decide) rfl ?_
                        refine r_off rfl (by decide) rfl ?_
                        refine r_pick_true rfl rfl rfl rfl ?_
                        refine r_nil ?_
                        refine q_next (fun a ha => ?_)
                        cases hb17
                        exact ⟨rfl, ha.cut (l := [3, 4, 5, 6, 8, 9, 10, 11, 110]) rfl⟩
                      · refine r_lit 100 rfl hb20 ?_
                        refine r_fieldAddr fa32_0 rfl rfl rfl ?_
                        refine r_loadB1 ag3 rfl rfl hx6 rfl (i := 0) rfl rfl ?_
                        refine r_bin rfl rfl rfl rfl rfl ?_
                        refine r_move rfl rfl rfl ?_
                        obtain ⟨v16, hb21, hb17⟩ := bind_some hb17
                        refine r_mid 5 (fun a w' => wx10 = w' ∧ Has 133 a [(3, .bool v1), (4, vs v2), (5, .slice as2 v3.1.length cs2), (6, .int .i64 v3.2.1), (8, .int .i64 endx1), (9, .int .i64 i1), (10, .pointer (some ⟨b2, 0, none⟩)), (11, .int .i64 (v9.length : Int)), (100, .bool false), (109, .bool v16)]) ?_ ?_
                        · rintro a wx16 ⟨rfl, hax12⟩
                          refine rw_apply hax12 ?_
                          refine r_pick_false rfl rfl rfl rfl ?_
                          refine r_nil ?_
                          refine q_next (fun a ha => ?_)
                          cases hb17
                          exact ⟨rfl, ha.cut (l := [3, 4, 5, 6, 8, 9, 10, 11, 110]) rfl⟩
                        · clear hb17
                          rcases cond_some hb21 with ⟨hb22, hb21⟩ | ⟨hb22, hb21⟩
                          · refine r_lit 104 rfl hb22 ?_
                            refine r_move rfl rfl rfl ?_
                            refine r_fieldAddr fa32_1 rfl rfl rfl ?_
                            refine r_loadB1 ag9 rfl rfl hx6 rfl (i := 0) rfl rfl ?_
                            refine r_str rfl rfl rfl rfl rfl ?_
                            refine r_pick_true rfl rfl rfl rfl ?_
                            refine r_nil ?_
                            refine q_next (fun a ha => ?_)
                            cases hb21
                            exact ⟨rfl, ha.cut (l := [3, 4, 5, 6, 8, 9, 10, 11, 100, 109]) rfl⟩
                          · refine r_lit 104 rfl hb22 ?_
                            refine r_off rfl (by decide) rfl ?_
                            refine r_off rfl (by decide) rfl ?_
                            refine r_off rfl (by decide) rfl ?_
                            refine r_off rfl (by decide) rfl ?_
                            refine r_pick_false rfl rfl rfl rfl ?_
                            refine r_nil ?_
                            refine q_next (fun a ha => ?_)
                            cases hb21
                            exact ⟨rfl, ha.cut (l := [3, 4, 5, 6, 8, 9, 10, 11, 100, 109]) rfl⟩
                  · clear hm
                    rcases cond_some hb16 with ⟨hb23, hb16⟩ | ⟨hb23, hb16⟩
                    · refine r_lit 93 rfl hb23 ?_
                      refine r_move rfl rfl rfl ?_
                      refine r_fieldAddr fa32_1 rfl rfl rfl ?_
                      refine r_loadB1 ag9 rfl rfl hx6 rfl (i := 0) rfl rfl ?_
                      obtain ⟨v17, hv7, hb16⟩ := bind_some hb16
                      refine r_callP0 ent14 rfl rfl rfl rfl (ref06_Escaped_ok _ _ _ hv7) ?_
                      refine r_str rfl rfl rfl rfl rfl ?_
                      refine r_pick_true rfl rfl rfl rfl ?_
                      refine r_nil ?_
                      refine q_next (fun a ha => ?_)
                      cases hb16
                      exact ⟨rfl, ha.cut (l := [3, 4, 5, 6, 8, 9, 10, 11, 12, 99]) rfl⟩
                    · refine r_lit 93 rfl hb23 ?_
                      refine r_off rfl (by decide) rfl ?_
                      refine r_off rfl (by decide) rfl ?_
                      refine r_off rfl (by decide) rfl ?_
                      refine r_off rfl (by decide) rfl ?_
                      refine r_off rfl (by decide) rfl ?_
                      refine r_pick_false rfl rfl rfl rfl ?_
                      refine r_nil ?_
                      refine q_next (fun a ha => ?_)
                      cases hb16
                      exact ⟨rfl, ha.cut (l := [3, 4, 5, 6, 8, 9, 10, 11, 12, 99]) rfl⟩
              · clear hm
                rcases cond_some hb14 with ⟨hb24, hb14⟩ | ⟨hb24, hb14⟩
                · refine r_lit 78 rfl hb24 ?_
                  refine r_off rfl (by decide) rfl ?_
                  refine r_off rfl (by decide) rfl ?_
                  refine r_pick_true rfl rfl rfl rfl ?_
                  refine r_nil ?_
                  refine q_next (fun a ha => ?_)
                  cases hb14
                  exact ⟨rfl, ha.cut (l := [3, 4, 5, 6, 8, 9, 10, 11, 81]) rfl⟩
                · refine r_lit 78 rfl hb24 ?_
                  refine r_move rfl rfl rfl ?_
                  refine r_bin rfl rfl rfl rfl rfl ?_
                  refine r_pick_false rfl rfl rfl rfl ?_
                  refine r_nil ?_
                  refine q_next (fun a ha => ?_)
                  cases hb14
                  exact ⟨rfl, ha.cut (l := [3, 4, 5, 6, 8, 9, 10, 11, 81]) rfl⟩
            · clear hm
              rcases cond_some hb13 with ⟨hb25, hb13⟩ | ⟨hb25, hb13⟩
              · refine r_lit 68 rfl hb25 ?_
                refine r_off rfl (by decide) rfl ?_
                refine r_off rfl (by decide) rfl ?_
                refine r_off rfl (by decide) rfl ?_
                refine r_off rfl (by decide) rfl ?_
                refine r_off rfl (by decide) rfl ?_
                refine r_off rfl (by decide) rfl ?_
                refine r_off rfl (by decide) rfl ?_
                refine r_off rfl (by decide) rfl ?_
                refine r_pick_true rfl rfl rfl rfl ?_
                refine r_nil ?_
                refine q_next (fun a ha => ?_)
                cases hb13
                exact ⟨rfl, ha.cut (l := [3, 4, 5, 6, 8, 9, 10, 11, 77]) rfl⟩
              · refine r_lit 68 rfl hb25 ?_
                refine r_fieldAddr fa32_0 rfl rfl rfl ?_
                refine r_loadB1 ag3 rfl rfl hx6 rfl (i := 0) rfl rfl ?_
                refine r_bin rfl rfl rfl rfl rfl ?_
                refine r_move rfl rfl rfl ?_
                obtain ⟨v18, hb26, hb13⟩ := bind_some hb13
                refine r_mid 4 (fun a w' => wx10 = w' ∧ Has 133 a [(3, .bool v1), (4, vs v2), (5, .slice as2 v3.1.length cs2), (6, .int .i64 v3.2.1), (8, .int .i64 endx1), (9, .int .i64 i1), (10, .pointer (some ⟨b2, 0, none⟩)), (11, .int .i64 (v9.length : Int)), (68, .bool false), (76, .bool v18)]) ?_ ?_
                · rintro a wx17 ⟨rfl, hax13⟩
                  refine rw_apply hax13 ?_
                  refine r_pick_false rfl rfl rfl rfl ?_
                  refine r_nil ?_
                  refine q_next (fun a ha => ?_)
                  cases hb13
                  exact ⟨rfl, ha.cut (l := [3, 4, 5, 6, 8, 9, 10, 11, 77]) rfl⟩
                · clear hb13
                  rcases cond_some hb26 with ⟨hb27, hb26⟩ | ⟨hb27, hb26⟩
                  · refine r_lit 72 rfl hb27 ?_
                    refine r_fieldAddr fa32_2 rfl rfl rfl ?_
                    refine r_loadB1 ag3 rfl rfl hx6 rfl (i := 0) rfl rfl ?_
                    refine r_bin rfl rfl rfl rfl rfl ?_
                    refine r_pick_true rfl rfl rfl rfl ?_
                    refine r_nil ?_
                    refine q_next (fun a ha => ?_)
                    cases hb26
                    exact ⟨rfl, ha.cut (l := [3, 4, 5, 6, 8, 9, 10, 11, 68, 76]) rfl⟩
                  · refine r_lit 72 rfl hb27 ?_
                    refine r_off rfl (by decide) rfl ?_
                    refine r_off rfl (by decide) rfl ?_
                    refine r_off rfl (by decide) rfl ?_
                    refine r_pick_false rfl rfl rfl rfl ?_
                    refine r_nil ?_
                    refine q_next (fun a ha => ?_)
                    cases hb26
                    exact ⟨rfl, ha.cut (l := [3, 4, 5, 6, 8, 9, 10, 11, 68, 76]) rfl⟩
          · clear hm
            rcases cond_some hb12 with ⟨hb28, hb12⟩ | ⟨hb28, hb12⟩
            · refine r_lit 59 rfl hb28 ?_
              refine r_off rfl (by decide) rfl ?_
              refine r_off rfl (by decide) rfl ?_
              refine r_off rfl (by decide) rfl ?_
              refine r_off rfl (by decide) rfl ?_
              refine r_off rfl (by decide) rfl ?_
              refine r_off rfl (by decide) rfl ?_
              refine r_off rfl (by decide) rfl ?_
              refine r_pick_true rfl rfl rfl rfl ?_
              refine r_nil ?_
              refine q_next (fun a ha => ?_)
              cases hb12
              exact ⟨rfl, ha.cut (l := [3, 4, 5, 6, 8, 9, 10, 11, 67]) rfl⟩
            · refine r_lit 59 rfl hb28 ?_
              refine r_fieldAddr fa32_3 rfl rfl rfl ?_
              refine r_loadB1 ag3 rfl rfl hx6 rfl (i := 0) rfl rfl ?_
              refine r_move rfl rfl rfl ?_
              refine r_slen u9 rfl rfl rfl ?_
              refine r_move rfl rfl rfl ?_
              refine r_bin rfl rfl rfl rfl rfl ?_
              refine r_bin rfl rfl rfl rfl rfl ?_
              refine r_pick_false rfl rfl rfl rfl ?_
              refine r_nil ?_
              refine q_next (fun a ha => ?_)
              cases hb12
              exact ⟨rfl, ha.cut (l := [3, 4, 5, 6, 8, 9, 10, 11, 67]) rfl⟩
        · refine c_lit 50 rfl hb11 ?_
          refine c_false rfl ?_
          refine c_skip ?_
          refine q_then ?_
          refine c_seq ?_
          refine c_seq ?_
          refine c_region ?_
          refine r_fieldAddr fa32_3 rfl rfl rfl ?_
          refine r_loadB1 ag3 rfl rfl hx6 rfl (i := 0) rfl rfl ?_
          refine r_move rfl rfl rfl ?_
          refine r_bin rfl rfl rfl rfl rfl ?_
          refine r_move rfl rfl rfl ?_
          obtain ⟨v19, hb29, hm⟩ := bind_some hm
          refine r_mid 8 (fun a w' => wx10 = w' ∧ Has 133 a [(3, .bool v1), (4, vs v2), (5, .slice as2 v3.1.length cs2), (6, .int .i64 v3.2.1), (8, .int .i64 endx1), (9, .int .i64 i1), (10, .pointer (some ⟨b2, 0, none⟩)), (11, .int .i64 (ex1.Text.length : Int)), (67, .bool v19)]) ?_ ?_
          · rintro a wx18 ⟨rfl, hax14⟩
            refine rw_apply hax14 ?_
            refine r_move rfl rfl rfl ?_
            obtain ⟨v20, hb30, hm⟩ := bind_some hm
            refine r_mid 9 (fun a w' => wx10 = w' ∧ Has 133 a [(3, .bool v1), (4, vs v2), (5, .slice as2 v3.1.length cs2), (6, .int .i64 v3.2.1), (8, .int .i64 endx1), (9, .int .i64 i1), (10, .pointer (some ⟨b2, 0, none⟩)), (11, .int .i64 (ex1.Text.length : Int)), (77, .bool v20)]) ?_ ?_
            · rintro a wx19 ⟨rfl, hax15⟩
              refine rw_apply hax15 ?_
              refine r_move rfl rfl rfl ?_
              obtain ⟨v21, hb31, hm⟩ := bind_some hm
              refine r_mid 3 (fun a w' => wx10 = w' ∧ Has 133 a [(3, .bool v1), (4, vs v2), (5, .slice as2 v3.1.length cs2), (6, .int .i64 v3.2.1), (8, .int .i64 endx1), (9, .int .i64 i1), (10, .pointer (some ⟨b2, 0, none⟩)), (11, .int .i64 (ex1.Text.length : Int)), (81, .bool v21)]) ?_ ?_
              · rintro a wx20 ⟨rfl, hax16⟩
                refine rw_apply hax16 ?_
                refine r_nil ?_
                refine q_then ?_
                rcases cond_some hm with ⟨hb32, hm⟩ | ⟨hb32, hm⟩
                · refine c_lit 81 rfl hb32 ?_
                  refine c_true rfl ?_
                  refine c_seq ?_
                  refine c_region ?_
                  refine r_assign rfl rfl rfl ?_
                  refine r_nil ?_
                  refine q_then ?_
                  refine c_ret ?_
                  refine q_then_ret ?_
                  refine q_block_ret ?_
                  refine q_then_ret ?_
                  refine q_then_ret ?_
                  refine q_block_ret ?_
                  refine q_then_ret ?_
                  refine b_ret1 rfl rfl ?_
                  obtain rfl := Option.some.inj hm
                  exact ⟨_, _, _, rfl, hx6.pick [] (by decide) rfl, rfl, rfl⟩
                · refine c_lit 81 rfl hb32 ?_
                  refine c_false rfl ?_
                  refine c_skip ?_
                  refine q_then ?_
                  refine c_seq ?_
                  refine c_region ?_
                  refine r_move rfl rfl rfl ?_
                  refine r_fieldAddr fa32_3 rfl rfl rfl ?_
                  refine r_loadB1 ag3 rfl rfl hx6 rfl (i := 0) rfl rfl ?_
                  refine r_fieldAddr fa32_3 rfl rfl rfl ?_
                  refine r_loadB1 ag3 rfl rfl hx6 rfl (i := 0) rfl rfl ?_
                  refine r_move rfl rfl rfl ?_
                  refine r_bin rfl rfl rfl rfl rfl ?_
                  obtain ⟨t4, hc5, hm⟩ := bind_some hm
                  refine r_ssl_lh u9 rfl rfl rfl rfl rfl hc5 ?_
                  refine r_assign rfl rfl rfl ?_
                  refine r_nil ?_
                  refine q_then ?_
                  refine c_seq ?_
                  refine c_seq ?_
                  refine c_region ?_
                  refine r_fieldAddr fa32_0 rfl rfl rfl ?_
                  refine r_loadB1 ag3 rfl rfl hx6 rfl (i := 0) rfl rfl ?_
                  refine r_bin rfl rfl rfl rfl rfl ?_
                  refine r_move rfl rfl rfl ?_
                  obtain ⟨v22, hb33, hm⟩ := bind_some hm
                  refine r_mid 6 (fun a w' => wx10 = w' ∧ Has 133 a [(3, .bool v1), (4, vs v2), (5, .slice as2 v3.1.length cs2), (6, .int .i64 v3.2.1), (8, .int .i64 endx1), (9, .int .i64 i1), (10, .pointer (some ⟨b2, 0, none⟩)), (11, .int .i64 (ex1.Text.length : Int)), (12, vs t4), (99, .bool v22)]) ?_ ?_
                  · rintro a wx21 ⟨rfl, hax17⟩
                    refine rw_apply hax17 ?_
                    refine r_move rfl rfl rfl ?_
                    obtain ⟨v23, hb34, hm⟩ := bind_some hm
                    refine r_mid 10 (fun a w' => wx10 = w' ∧ Has 133 a [(3, .bool v1), (4, vs v2), (5, .slice as2 v3.1.length cs2), (6, .int .i64 v3.2.1), (8, .int .i64 endx1), (9, .int .i64 i1), (10, .pointer (some ⟨b2, 0, none⟩)), (11, .int .i64 (ex1.Text.length : Int)), (110, .bool v23)]) ?_ ?_
                    · rintro a wx22 ⟨rfl, hax18⟩
                      refine rw_apply hax18 ?_
                      refine r_nil ?_
                      refine q_then ?_
                      rcases cond_some hm with ⟨hb35, hm⟩ | ⟨hb35, hm⟩
                      · refine c_lit 110 rfl hb35 ?_
                        refine c_true rfl ?_
                        refine c_seq ?_
                        refine c_region ?_
                        refine r_assign rfl rfl rfl ?_
                        refine r_nil ?_
                        refine q_then ?_
                        refine c_ret ?_
                        refine q_then_ret ?_
                        refine q_block_ret ?_
                        refine q_then_ret ?_
                        refine q_then_ret ?_
                        refine q_block_ret ?_
                        refine q_then_ret ?_
                        refine b_ret1 rfl rfl ?_
                        obtain rfl := Option.some.inj hm
                        exact ⟨_, _, _, rfl, hx6.pick [] (by decide) rfl, rfl, rfl⟩
                      · refine c_lit 110 rfl hb35 ?_
                        refine c_false rfl ?_
                        refine c_skip ?_
                        refine q_then ?_
                        refine c_seq ?_
                        refine c_seq ?_
                        refine c_region ?_
                        refine r_move rfl rfl rfl ?_
                        refine r_move rfl rfl rfl ?_
                        refine r_fieldAddr fa32_3 rfl rfl rfl ?_
                        refine r_loadB1 ag3 rfl rfl hx6 rfl (i := 0) rfl rfl ?_
                        obtain ⟨t5, hc6, hm⟩ := bind_some hm
                        refine r_ssl_lh u9 rfl rfl rfl rfl rfl hc6 ?_
                        obtain ⟨v24, hv8, hm⟩ := bind_some hm
                        refine r_callP0 ent15 rfl rfl rfl rfl (law06_idle_ok _ _ _ hv8) ?_
                        refine r_not rfl rfl rfl ?_
                        refine r_nil ?_
                        refine q_then ?_
                        rcases cond_some hm with ⟨hb36, hm⟩ | ⟨hb36, hm⟩
                        · refine c_lit 117 rfl hb36 ?_
                          refine c_true rfl ?_
                          refine c_seq ?_
                          refine c_region ?_
                          refine r_assign rfl rfl rfl ?_
                          refine r_nil ?_
                          refine q_then ?_
                          refine c_ret ?_
                          refine q_then_ret ?_
                          refine q_block_ret ?_
                          refine q_then_ret ?_
                          refine q_then_ret ?_
                          refine q_block_ret ?_
                          refine q_then_ret ?_
                          refine b_ret1 rfl rfl ?_
                          obtain rfl := Option.some.inj hm
                          exact ⟨_, _, _, rfl, hx6.pick [] (by decide) rfl, rfl, rfl⟩
                        · refine c_lit 117 rfl hb36 ?_
                          refine c_false rfl ?_
                          refine c_skip ?_
                          refine q_then ?_
                          refine c_region ?_
                          refine r_fieldAddr fa32_3 rfl rfl rfl ?_
                          refine r_loadB1 ag3 rfl rfl hx6 rfl (i := 0) rfl rfl ?_
                          refine r_move rfl rfl rfl ?_
                          refine r_bin rfl rfl rfl rfl rfl ?_
                          refine r_assign rfl rfl rfl ?_
                          refine r_nil ?_
                          refine q_block ?_
                          refine q_then ?_
                          refine c_region ?_
                          refine r_move rfl rfl rfl ?_
                          refine r_bin rfl rfl rfl rfl rfl ?_
                          refine r_assign rfl rfl rfl ?_
                          refine r_nil ?_
                          refine q_next (fun a ha => ihx1 ((iadd .i64 ex1.Pos (ex1.Text.length : Int)), (iadd .i64 i1 1)) a _ hm ?_)
                          exact ⟨_, hF3, hx6.pick [] (by decide) rfl, ha.cut (l := [3, 4, 5, 6, 8, 9]) rfl⟩
                    · clear hm
                      rcases cond_some hb34 with ⟨hb37, hb34⟩ | ⟨hb37, hb34⟩
                      · refine r_lit 100 rfl hb37 ?_
                        refine r_off rfl (by decide) rfl ?_
                        refine r_off rfl (by decide) rfl ?_
                        refine r_off rfl (by decide) rfl ?_
                        refine r_off rfl (by decide) rfl ?_
                        refine r_off rfl (by decide) rfl ?_
                        refine r_off rfl (by decide) rfl ?_
                        refine r_off rfl (by decide) rfl ?_
                        refine r_off rfl (by decide) rfl ?_
                        refine r_off rfl (by decide) rfl ?_
                        refine r_pick_true rfl rfl rfl rfl ?_
                        refine r_nil ?_
                        refine q_next (fun a ha => ?_)
                        cases hb34
                        exact ⟨rfl, ha.cut (l := [3, 4, 5, 6, 8, 9, 10, 11, 110]) rfl⟩
                      · refine r_lit 100 rfl hb37 ?_
                        refine r_fieldAddr fa32_0 rfl rfl rfl ?_
                        refine r_loadB1 ag3 rfl rfl hx6 rfl (i := 0) rfl rfl ?_
                        refine r_bin rfl rfl rfl rfl rfl ?_
                        refine r_move rfl rfl rfl ?_
                        obtain ⟨v25, hb38, hb34⟩ := bind_some hb34
                        refine r_mid 5 (fun a w' => wx10 = w' ∧ Has 133 a [(3, .bool v1), (4, vs v2), (5, .slice as2 v3.1.length cs2), (6, .int .i64 v3.2.1), (8, .int .i64 endx1), (9, .int .i64 i1), (10, .pointer (some ⟨b2, 0, none⟩)), (11, .int .i64 (ex1.Text.length : Int)), (100, .bool false), (109, .bool v25)]) ?_ ?_
                        · rintro a wx23 ⟨rfl, hax19⟩
                          refine rw_apply hax19 ?_
                          refine r_pick_false rfl rfl rfl rfl ?_
                          refine r_nil ?_
                          refine q_next (fun a ha => ?_)
                          cases hb34
                          exact ⟨rfl, ha.cut (l := [3, 4, 5, 6, 8, 9, 10, 11, 110]) rfl⟩
                        · clear hb34
                          rcases cond_some hb38 with ⟨hb39, hb38⟩ | ⟨hb39, hb38⟩
                          · refine r_lit 104 rfl hb39 ?_
                            refine r_move rfl rfl rfl ?_
                            refine r_fieldAddr fa32_1 rfl rfl rfl ?_
                            refine r_loadB1 ag9 rfl rfl hx6 rfl (i := 0) rfl rfl ?_
                            refine r_str rfl rfl rfl rfl rfl ?_
                            refine r_pick_true rfl rfl rfl rfl ?_
                            refine r_nil ?_
                            refine q_next (fun a ha => ?_)
                            cases hb38
                            exact ⟨rfl, ha.cut (l := [3, 4, 5, 6, 8, 9, 10, 11, 100, 109]) rfl⟩
                          · refine r_lit 104 rfl hb39 ?_
                            refine r_off rfl (by decide) rfl ?_
                            refine r_off rfl (by decide) rfl ?_
                            refine r_off rfl (by decide) rfl ?_
                            refine r_off rfl (by decide) rfl ?_
                            refine r_pick_false rfl rfl rfl rfl ?_
                            refine r_nil ?_
                            refine q_next (fun a ha => ?_)
                            cases hb38
                            exact ⟨rfl, ha.cut (l := [3, 4, 5, 6, 8, 9, 10, 11, 100, 109]) rfl⟩
                  · clear hm
                    rcases cond_some hb33 with ⟨hb40, hb33⟩ | ⟨hb40, hb33⟩
                    · refine r_lit 93 rfl hb40 ?_
                      refine r_move rfl rfl rfl ?_
                      refine r_fieldAddr fa32_1 rfl rfl rfl ?_
                      refine r_loadB1 ag9 rfl rfl hx6 rfl (i := 0) rfl rfl ?_
                      obtain ⟨v26, hv9, hb33⟩ := bind_some hb33
                      refine r_callP0 ent14 rfl rfl rfl rfl (ref06_Escaped_ok _ _ _ hv9) ?_
                      refine r_str rfl rfl rfl rfl rfl ?_
                      refine r_pick_true rfl rfl rfl rfl ?_
                      refine r_nil ?_
                      refine q_next (fun a ha => ?_)
                      cases hb33
                      exact ⟨rfl, ha.cut (l := [3, 4, 5, 6, 8, 9, 10, 11, 12, 99]) rfl⟩
                    · refine r_lit 93 rfl hb40 ?_
                      refine r_off rfl (by decide) rfl ?_
                      refine r_off rfl (by decide) rfl ?_
                      refine r_off rfl (by decide) rfl ?_
                      refine r_off rfl (by decide) rfl ?_
                      refine r_off rfl (by decide) rfl ?_
                      refine r_pick_false rfl rfl rfl rfl ?_
                      refine r_nil ?_
                      refine q_next (fun a ha => ?_)
                      cases hb33
                      exact ⟨rfl, ha.cut (l := [3, 4, 5, 6, 8, 9, 10, 11, 12, 99]) rfl⟩
              · clear hm
                rcases cond_some hb31 with ⟨hb41, hb31⟩ | ⟨hb41, hb31⟩
                · refine r_lit 78 rfl hb41 ?_
                  refine r_off rfl (by decide) rfl ?_
                  refine r_off rfl (by decide) rfl ?_
                  refine r_pick_true rfl rfl rfl rfl ?_
                  refine r_nil ?_
                  refine q_next (fun a ha => ?_)
                  cases hb31
                  exact ⟨rfl, ha.cut (l := [3, 4, 5, 6, 8, 9, 10, 11, 81]) rfl⟩
                · refine r_lit 78 rfl hb41 ?_
                  refine r_move rfl rfl rfl ?_
                  refine r_bin rfl rfl rfl rfl rfl ?_
                  refine r_pick_false rfl rfl rfl rfl ?_
                  refine r_nil ?_
                  refine q_next (fun a ha => ?_)
                  cases hb31
                  exact ⟨rfl, ha.cut (l := [3, 4, 5, 6, 8, 9, 10, 11, 81]) rfl⟩
            · clear hm
              rcases cond_some hb30 with ⟨hb42, hb30⟩ | ⟨hb42, hb30⟩
              · refine r_lit 68 rfl hb42 ?_
                refine r_off rfl (by decide) rfl ?_
                refine r_off rfl (by decide) rfl ?_
                refine r_off rfl (by decide) rfl ?_
                refine r_off rfl (by decide) rfl ?_
                refine r_off rfl (by decide) rfl ?_
                refine r_off rfl (by decide) rfl ?_
                refine r_off rfl (by decide) rfl ?_
                refine r_off rfl (by decide) rfl ?_
                refine r_pick_true rfl rfl rfl rfl ?_
                refine r_nil ?_
                refine q_next (fun a ha => ?_)
                cases hb30
                exact ⟨rfl, ha.cut (l := [3, 4, 5, 6, 8, 9, 10, 11, 77]) rfl⟩
              · refine r_lit 68 rfl hb42 ?_
                refine r_fieldAddr fa32_0 rfl rfl rfl ?_
                refine r_loadB1 ag3 rfl rfl hx6 rfl (i := 0) rfl rfl ?_
                refine r_bin rfl rfl rfl rfl rfl ?_
                refine r_move rfl rfl rfl ?_
                obtain ⟨v27, hb43, hb30⟩ := bind_some hb30
                refine r_mid 4 (fun a w' => wx10 = w' ∧ Has 133 a [(3, .bool v1), (4, vs v2), (5, .slice as2 v3.1.length cs2), (6, .int .i64 v3.2.1), (8, .int .i64 endx1), (9, .int .i64 i1), (10, .pointer (some ⟨b2, 0, none⟩)), (11, .int .i64 (ex1.Text.length : Int)), (68, .bool false), (76, .bool v27)]) ?_ ?_
                · rintro a wx24 ⟨rfl, hax20⟩
                  refine rw_apply hax20 ?_
                  refine r_pick_false rfl rfl rfl rfl ?_
                  refine r_nil ?_
                  refine q_next (fun a ha => ?_)
                  cases hb30
                  exact ⟨rfl, ha.cut (l := [3, 4, 5, 6, 8, 9, 10, 11, 77]) rfl⟩
                · clear hb30
                  rcases cond_some hb43 with ⟨hb44, hb43⟩ | ⟨hb44, hb43⟩
                  · refine r_lit 72 rfl hb44 ?_
                    refine r_fieldAddr fa32_2 rfl rfl rfl ?_
                    refine r_loadB1 ag3 rfl rfl hx6 rfl (i := 0) rfl rfl ?_
                    refine r_bin rfl rfl rfl rfl rfl ?_
                    refine r_pick_true rfl rfl rfl rfl ?_
                    refine r_nil ?_
                    refine q_next (fun a ha => ?_)
                    cases hb43
                    exact ⟨rfl, ha.cut (l := [3, 4, 5, 6, 8, 9, 10, 11, 68, 76]) rfl⟩
                  · refine r_lit 72 rfl hb44 ?_
                    refine r_off rfl (by decide) rfl ?_
                    refine r_off rfl (by decide) rfl ?_
                    refine r_off rfl (by decide) rfl ?_
                    refine r_pick_false rfl rfl rfl rfl ?_
                    refine r_nil ?_
                    refine q_next (fun a ha => ?_)
                    cases hb43
                    exact ⟨rfl, ha.cut (l := [3, 4, 5, 6, 8, 9, 10, 11, 68, 76]) rfl⟩
          · clear hm
            rcases cond_some hb29 with ⟨hb45, hb29⟩ | ⟨hb45, hb29⟩
            · refine r_lit 59 rfl hb45 ?_
              refine r_off rfl (by decide) rfl ?_
              refine r_off rfl (by decide) rfl ?_
              refine r_off rfl (by decide) rfl ?_
              refine r_off rfl (by decide) rfl ?_
              refine r_off rfl (by decide) rfl ?_
              refine r_off rfl (by decide) rfl ?_
              refine r_off rfl (by decide) rfl ?_
              refine r_pick_true rfl rfl rfl rfl ?_
              refine r_nil ?_
              refine q_next (fun a ha => ?_)
              cases hb29
              exact ⟨rfl, ha.cut (l := [3, 4, 5, 6, 8, 9, 10, 11, 67]) rfl⟩
            · refine r_lit 59 rfl hb45 ?_
              refine r_fieldAddr fa32_3 rfl rfl rfl ?_
              refine r_loadB1 ag3 rfl rfl hx6 rfl (i := 0) rfl rfl ?_
              refine r_move rfl rfl rfl ?_
              refine r_slen u9 rfl rfl rfl ?_
              refine r_move rfl rfl rfl ?_
              refine r_bin rfl rfl rfl rfl rfl ?_
              refine r_bin rfl rfl rfl rfl rfl ?_
              refine r_pick_false rfl rfl rfl rfl ?_
              refine r_nil ?_
              refine q_next (fun a ha => ?_)
              cases hb29
              exact ⟨rfl, ha.cut (l := [3, 4, 5, 6, 8, 9, 10, 11, 67]) rfl⟩
      · refine c_lit 38 rfl hb10 ?_
        refine c_false rfl ?_
        refine c_exit ?_
        refine q_then_exit ?_
        refine q_then_exit ?_
        refine fun a ha => hk1 endx1 a _ hm ?_
        exact ⟨_, hF3, hx3.pick [] (by decide) rfl, ha.cut (l := [3, 4, 6, 8]) rfl⟩


end Go.Proofs.YtaibejlploombaaDoor.M
