/- Several texts in one, for TariffTells.card: what the theorem leans on. -/
import Derived.Test.YtpihabofmnnbbaaGreatDoorRows
import Derived.Test.YtpihabofmnnbbaaGreatDoorPt3
namespace Go.Proofs.YtpihabofmnnbbaaGreatDoor.M
open Go Go.RowKit Rt
def ref06_Blank (_n : Nat) (c1 : Int) : Option Bool :=
 (bif c1 == 9 then
  some true
 else
  some (c1 == 10)).bind fun v1 =>
 (bif v1 then
  some true
 else
  some (c1 == 32)).bind fun v2 =>
 some v2
set_option maxHeartbeats 1000000 in
set_option maxRecDepth 1000000 in
theorem ref06_Blank_ok (n : Nat) (c1 : Int) (r : Bool) (hm : ref06_Blank n c1 = some r) {w : World}  :
  Calls Tryz.prog 57 #[.int .u8 c1] w fun e w' => e = .returned (.bool r) ∧ w' = w := by
 unfold ref06_Blank at hm
 refine calls_of 13 Tryz.func57 rfl rfl rfl ?_
 refine c_seq (c_region (r_assign rfl rfl rfl (r_nil (q_then (c_seq (c_region (r_move rfl rfl rfl ?_)))))))
 refine r_bin rfl rfl rfl rfl rfl ?_
 refine r_move rfl rfl rfl ?_
 obtain ⟨v1, hb1, hm⟩ := bind_some hm
 refine r_mid 3 (fun a w' => w = w' ∧ Has 13 a [(0, .int .u8 c1), (8, .bool v1)]) ?_ ?_
 ·rintro a wx1 ⟨rfl, hax1⟩
  refine rw_apply hax1 ?_
  refine r_move rfl rfl rfl ?_
  obtain ⟨v2, hb2, hm⟩ := bind_some hm
  refine r_mid 3 (fun a w' => w = w' ∧ Has 13 a [(12, .bool v2)]) ?_ ?_
  ·rintro a wx2 ⟨rfl, hax2⟩
   refine rw_apply hax2 ?_
   refine r_assign rfl rfl rfl (r_nil (q_then (c_ret ?_)))
   refine b_ret1 rfl rfl ?_
   obtain rfl := Option.some.inj hm
   exact ⟨rfl, rfl⟩
  ·clear hm
   rcases cond_some hb2 with ⟨hb3, hb2⟩ | ⟨hb3, hb2⟩
   ·refine r_lit 9 rfl hb3 ?_
    refine r_off rfl (by decide) rfl (r_off rfl (by decide) rfl (r_pick_true rfl rfl rfl rfl (r_nil ?_)))
    refine q_next (fun a ha => ?_)
    cases hb2
    exact ⟨rfl, ha.cut (l := [12]) rfl⟩
   ·refine r_lit 9 rfl hb3 ?_
    refine r_move rfl rfl rfl ?_
    refine r_bin rfl rfl rfl rfl rfl ?_
    refine r_pick_false rfl rfl rfl rfl (r_nil ?_)
    refine q_next (fun a ha => ?_)
    cases hb2
    exact ⟨rfl, ha.cut (l := [12]) rfl⟩
 ·clear hm
  rcases cond_some hb1 with ⟨hb4, hb1⟩ | ⟨hb4, hb1⟩
  ·refine r_lit 5 rfl hb4 ?_
   refine r_off rfl (by decide) rfl (r_off rfl (by decide) rfl (r_pick_true rfl rfl rfl rfl (r_nil ?_)))
   refine q_next (fun a ha => ?_)
   cases hb1
   exact ⟨rfl, ha.cut (l := [0, 8]) rfl⟩
  ·refine r_lit 5 rfl hb4 ?_
   refine r_move rfl rfl rfl ?_
   refine r_bin rfl rfl rfl rfl rfl ?_
   refine r_pick_false rfl rfl rfl rfl (r_nil ?_)
   refine q_next (fun a ha => ?_)
   cases hb1
   exact ⟨rfl, ha.cut (l := [0, 8]) rfl⟩
def ref06_letter (_n : Nat) (c1 : Int) : Option Bool :=
 (bif decide (97 ≤ c1) then
  some (decide (c1 ≤ 122))
 else
  some false).bind fun v1 =>
 (bif v1 then
  some true
 else
  (bif decide (65 ≤ c1) then
   some (decide (c1 ≤ 90))
  else
   some false).bind fun v3 =>
  some v3).bind fun v2 =>
 some v2
set_option maxHeartbeats 1000000 in
set_option maxRecDepth 1000000 in
theorem ref06_letter_ok (n : Nat) (c1 : Int) (r : Bool) (hm : ref06_letter n c1 = some r) {w : World}  :
  Calls Tryz.prog 83 #[.int .u8 c1] w fun e w' => e = .returned (.bool r) ∧ w' = w := by
 unfold ref06_letter at hm
 refine calls_of 17 Tryz.func83 rfl rfl rfl ?_
 refine c_seq (c_region (r_assign rfl rfl rfl (r_nil (q_then (c_seq (c_region (r_move rfl rfl rfl ?_)))))))
 refine r_bin rfl rfl rfl rfl rfl ?_
 refine r_move rfl rfl rfl ?_
 obtain ⟨v1, hb1, hm⟩ := bind_some hm
 refine r_mid 3 (fun a w' => w = w' ∧ Has 17 a [(0, .int .u8 c1), (8, .bool v1)]) ?_ ?_
 ·rintro a wx1 ⟨rfl, hax1⟩
  refine rw_apply hax1 ?_
  refine r_move rfl rfl rfl ?_
  obtain ⟨v2, hb2, hm⟩ := bind_some hm
  refine r_mid 7 (fun a w' => w = w' ∧ Has 17 a [(16, .bool v2)]) ?_ ?_
  ·rintro a wx2 ⟨rfl, hax2⟩
   refine rw_apply hax2 ?_
   refine r_assign rfl rfl rfl (r_nil (q_then (c_ret ?_)))
   refine b_ret1 rfl rfl ?_
   obtain rfl := Option.some.inj hm
   exact ⟨rfl, rfl⟩
  ·clear hm
   rcases cond_some hb2 with ⟨hb3, hb2⟩ | ⟨hb3, hb2⟩
   ·refine r_lit 9 rfl hb3 ?_
    refine r_off rfl (by decide) rfl (r_off rfl (by decide) rfl (r_off rfl (by decide) rfl (r_off rfl (by decide) rfl (r_off rfl (by decide) rfl (r_off rfl (by decide) rfl (r_pick_true rfl rfl rfl rfl (r_nil ?_)))))))
    refine q_next (fun a ha => ?_)
    cases hb2
    exact ⟨rfl, ha.cut (l := [16]) rfl⟩
   ·refine r_lit 9 rfl hb3 ?_
    refine r_move rfl rfl rfl ?_
    refine r_bin rfl rfl rfl rfl rfl ?_
    refine r_move rfl rfl rfl ?_
    obtain ⟨v3, hb4, hb2⟩ := bind_some hb2
    refine r_mid 3 (fun a w' => w = w' ∧ Has 17 a [(9, .bool false), (15, .bool v3)]) ?_ ?_
    ·rintro a wx3 ⟨rfl, hax3⟩
     refine rw_apply hax3 ?_
     refine r_pick_false rfl rfl rfl rfl (r_nil ?_)
     refine q_next (fun a ha => ?_)
     cases hb2
     exact ⟨rfl, ha.cut (l := [16]) rfl⟩
    ·clear hb2
     rcases cond_some hb4 with ⟨hb5, hb4⟩ | ⟨hb5, hb4⟩
     ·refine r_lit 12 rfl hb5 ?_
      refine r_move rfl rfl rfl ?_
      refine r_bin rfl rfl rfl rfl rfl ?_
      refine r_pick_true rfl rfl rfl rfl (r_nil ?_)
      refine q_next (fun a ha => ?_)
      cases hb4
      exact ⟨rfl, ha.cut (l := [9, 15]) rfl⟩
     ·refine r_lit 12 rfl hb5 ?_
      refine r_off rfl (by decide) rfl (r_off rfl (by decide) rfl (r_pick_false rfl rfl rfl rfl (r_nil ?_)))
      refine q_next (fun a ha => ?_)
      cases hb4
      exact ⟨rfl, ha.cut (l := [9, 15]) rfl⟩
 ·clear hm
  rcases cond_some hb1 with ⟨hb6, hb1⟩ | ⟨hb6, hb1⟩
  ·refine r_lit 5 rfl hb6 ?_
   refine r_move rfl rfl rfl ?_
   refine r_bin rfl rfl rfl rfl rfl ?_
   refine r_pick_true rfl rfl rfl rfl (r_nil ?_)
   refine q_next (fun a ha => ?_)
   cases hb1
   exact ⟨rfl, ha.cut (l := [0, 8]) rfl⟩
  ·refine r_lit 5 rfl hb6 ?_
   refine r_off rfl (by decide) rfl (r_off rfl (by decide) rfl (r_pick_false rfl rfl rfl rfl (r_nil ?_)))
   refine q_next (fun a ha => ?_)
   cases hb1
   exact ⟨rfl, ha.cut (l := [0, 8]) rfl⟩
def ref06_digit (_n : Nat) (c1 : Int) : Option Bool :=
 (bif decide (48 ≤ c1) then
  some (decide (c1 ≤ 57))
 else
  some false).bind fun v1 =>
 some v1
set_option maxHeartbeats 1000000 in
set_option maxRecDepth 1000000 in
theorem ref06_digit_ok (n : Nat) (c1 : Int) (r : Bool) (hm : ref06_digit n c1 = some r) {w : World}  :
  Calls Tryz.prog 84 #[.int .u8 c1] w fun e w' => e = .returned (.bool r) ∧ w' = w := by
 unfold ref06_digit at hm
 refine calls_of 9 Tryz.func84 rfl rfl rfl ?_
 refine c_seq (c_region (r_assign rfl rfl rfl (r_nil (q_then (c_seq (c_region (r_move rfl rfl rfl ?_)))))))
 refine r_bin rfl rfl rfl rfl rfl ?_
 refine r_move rfl rfl rfl ?_
 obtain ⟨v1, hb1, hm⟩ := bind_some hm
 refine r_mid 3 (fun a w' => w = w' ∧ Has 9 a [(8, .bool v1)]) ?_ ?_
 ·rintro a wx1 ⟨rfl, hax1⟩
  refine rw_apply hax1 ?_
  refine r_assign rfl rfl rfl (r_nil (q_then (c_ret ?_)))
  refine b_ret1 rfl rfl ?_
  obtain rfl := Option.some.inj hm
  exact ⟨rfl, rfl⟩
 ·clear hm
  rcases cond_some hb1 with ⟨hb2, hb1⟩ | ⟨hb2, hb1⟩
  ·refine r_lit 5 rfl hb2 ?_
   refine r_move rfl rfl rfl ?_
   refine r_bin rfl rfl rfl rfl rfl ?_
   refine r_pick_true rfl rfl rfl rfl (r_nil ?_)
   refine q_next (fun a ha => ?_)
   cases hb1
   exact ⟨rfl, ha.cut (l := [8]) rfl⟩
  ·refine r_lit 5 rfl hb2 ?_
   refine r_off rfl (by decide) rfl (r_off rfl (by decide) rfl (r_pick_false rfl rfl rfl rfl (r_nil ?_)))
   refine q_next (fun a ha => ?_)
   cases hb1
   exact ⟨rfl, ha.cut (l := [8]) rfl⟩
def ref06_Value_L1 (n : Nat) (s1 : Bs) (kont1 : Option Bool) : Nat → Int → Option Bool
 | 0, _ => none
 | mx1 + 1, i1 =>
  bif decide (i1 < (s1.length : Int)) then
   (sidx s1 i1).bind fun c1 =>
   (bif decide (c1 < 32) then
    some true
   else
    (sidx s1 i1).bind fun c2 =>
    some (decide (126 < c2))).bind fun v1 =>
   bif v1 then
    some false
   else
    ref06_Value_L1 n s1 kont1 mx1 (iadd .i64 i1 1)
  else
   kont1
theorem ref06_Value_L1_s (n : Nat) (s1 : Bs) (kont1 : Option Bool) (mx1 : Nat) (i1 : Int) : ref06_Value_L1 n s1 kont1 (mx1 + 1) i1 =
  bif decide (i1 < (s1.length : Int)) then
   (sidx s1 i1).bind fun c1 =>
   (bif decide (c1 < 32) then
    some true
   else
    (sidx s1 i1).bind fun c2 =>
    some (decide (126 < c2))).bind fun v1 =>
   bif v1 then
    some false
   else
    ref06_Value_L1 n s1 kont1 mx1 (iadd .i64 i1 1)
  else
   kont1 := rfl
def ref06_Value (n : Nat) (s1 : Bs) : Option Bool :=
 ref06_Value_L1 n s1 (
  some (decide ((s1.length : Int) ≤ 400))) n 0
set_option maxHeartbeats 1000000 in
set_option maxRecDepth 1000000 in
theorem ref06_Value_ok (n : Nat) (s1 : Bs) (r : Bool) (hm : ref06_Value n s1 = some r) {w : World}  :
  Calls Tryz.prog 100 #[vs s1] w fun e w' => e = .returned (.bool r) ∧ w' = w := by
 unfold ref06_Value at hm
 refine calls_of 23 Tryz.func100 rfl rfl rfl ?_
 refine c_seq (c_region (r_assign rfl rfl rfl (r_nil (q_then (c_seq (c_seq (c_region (r_assign rfl rfl rfl (r_nil (q_then (c_block ?_)))))))))))
 intro a hax4
 obtain ⟨kont1, hkont1⟩ : ∃ kont1 : Option Bool, kont1 = (
       some (decide ((s1.length : Int) ≤ 400))) := ⟨_, rfl⟩
 replace hm : (fun m (s : Int) => ref06_Value_L1 n s1 kont1 m s) n 0 = some r := by rw [hkont1]; exact hm
 refine loopX (id := 0) (fun m (s : Int) => ref06_Value_L1 n s1 kont1 m s) (fun (y : Unit) => kont1) r (fun (s : Int) a w' => w = w' ∧ Has 23 a [(0, vs s1), (3, .int .i64 s)]) (fun (y : Unit) a w' => w = w' ∧ Has 23 a [(0, vs s1)]) (fun _ => rfl) ?_ ?_ hm ⟨rfl, hax4.cut (l := [0, 3]) rfl⟩
 ·clear hm; rintro _u a wx1 hm ⟨rfl, hax1⟩
  rw [hkont1] at hm
  refine qw_apply (e := .exit 0) hax1 ?_
  refine q_block_hit (q_then (c_seq (c_region (r_move rfl rfl rfl ?_))))
  refine r_slen u9 rfl rfl rfl ?_
  refine r_bin rfl rfl rfl rfl rfl ?_
  refine r_assign rfl rfl rfl (r_nil (q_then (c_ret ?_)))
  refine b_ret1 rfl rfl ?_
  obtain rfl := Option.some.inj hm
  exact ⟨rfl, rfl⟩
 ·clear hm hkont1; intro hk1 mx1 K ihx1
  rintro i1 a wx2 hm ⟨rfl, hax2⟩
  simp only [ref06_Value_L1_s] at hm
  refine cw_apply hax2 ?_
  refine c_seq (c_seq (c_region (r_move rfl rfl rfl (r_move rfl rfl rfl ?_))))
  refine r_slen u9 rfl rfl rfl ?_
  refine r_bin rfl rfl rfl rfl rfl ?_
  refine r_nil (q_then ?_)
  rcases cond_some hm with ⟨hb1, hm⟩ | ⟨hb1, hm⟩
  ·refine c_lit 7 rfl hb1 ?_
   refine c_true rfl (c_skip (q_then (c_seq (c_block (c_seq (c_region (r_move rfl rfl rfl (r_move rfl rfl rfl ?_))))))))
   obtain ⟨c1, hc1, hm⟩ := bind_some hm
   refine r_sidx u9 rfl rfl rfl rfl hc1 ?_
   refine r_bin rfl rfl rfl rfl rfl ?_
   refine r_move rfl rfl rfl ?_
   obtain ⟨v1, hb2, hm⟩ := bind_some hm
   refine r_mid 5 (fun a w' => w = w' ∧ Has 23 a [(0, vs s1), (3, .int .i64 i1), (19, .bool v1)]) ?_ ?_
   ·rintro a wx3 ⟨rfl, hax3⟩
    refine rw_apply hax3 ?_
    refine r_nil (q_then ?_)
    rcases cond_some hm with ⟨hb3, hm⟩ | ⟨hb3, hm⟩
    ·refine c_lit 19 rfl hb3 ?_
     refine c_true rfl (c_seq (c_region (r_assign rfl rfl rfl (r_nil (q_then (c_ret (q_block_ret (q_then_ret (q_then_ret (q_block_ret (q_then_ret ?_)))))))))))
     refine b_ret1 rfl rfl ?_
     obtain rfl := Option.some.inj hm
     exact ⟨rfl, rfl⟩
    ·refine c_lit 19 rfl hb3 ?_
     refine c_false rfl (c_skip (q_block (q_then (c_region (r_move rfl rfl rfl ?_)))))
     refine r_bin rfl rfl rfl rfl rfl ?_
     refine r_assign rfl rfl rfl (r_nil ?_)
     refine q_next (fun a ha => ihx1 (iadd .i64 i1 1) a _ hm ?_)
     exact ⟨rfl, ha.cut (l := [0, 3]) rfl⟩
   ·clear hm
    rcases cond_some hb2 with ⟨hb4, hb2⟩ | ⟨hb4, hb2⟩
    ·refine r_lit 14 rfl hb4 ?_
     refine r_off rfl (by decide) rfl (r_off rfl (by decide) rfl (r_off rfl (by decide) rfl (r_off rfl (by decide) rfl (r_pick_true rfl rfl rfl rfl (r_nil ?_)))))
     refine q_next (fun a ha => ?_)
     cases hb2
     exact ⟨rfl, ha.cut (l := [0, 3, 19]) rfl⟩
    ·refine r_lit 14 rfl hb4 ?_
     refine r_move rfl rfl rfl (r_move rfl rfl rfl ?_)
     obtain ⟨c2, hc2, hb2⟩ := bind_some hb2
     refine r_sidx u9 rfl rfl rfl rfl hc2 ?_
     refine r_bin rfl rfl rfl rfl rfl ?_
     refine r_pick_false rfl rfl rfl rfl (r_nil ?_)
     refine q_next (fun a ha => ?_)
     cases hb2
     exact ⟨rfl, ha.cut (l := [0, 3, 19]) rfl⟩
  ·refine c_lit 7 rfl hb1 ?_
   refine c_false rfl (c_exit (q_then_exit (q_then_exit ?_)))
   refine fun a ha => hk1 () a _ hm ?_
   exact ⟨rfl, ha.cut (l := [0]) rfl⟩
theorem ent83 : Ent Tryz.prog 83 := fun _ _ => by kernel_rfl
theorem ent84 : Ent Tryz.prog 84 := fun _ _ => by kernel_rfl
def ref06_Name_L1 (n : Nat) (s1 : Bs) (kont1 : Option Bool) : Nat → Int → Option Bool
 | 0, _ => none
 | mx1 + 1, i1 =>
  bif decide (i1 < (s1.length : Int)) then
   (sidx s1 i1).bind fun c1 =>
   (ref06_letter n c1).bind fun v3 =>
   (bif !v3 then
    (sidx s1 i1).bind fun c3 =>
    (ref06_digit n c3).bind fun v6 =>
    some (!v6)
   else
    some false).bind fun v4 =>
   (bif v4 then
    (sidx s1 i1).bind fun c2 =>
    some (c2 != 95)
   else
    some false).bind fun v5 =>
   bif v5 then
    some false
   else
    ref06_Name_L1 n s1 kont1 mx1 (iadd .i64 i1 1)
  else
   kont1
theorem ref06_Name_L1_s (n : Nat) (s1 : Bs) (kont1 : Option Bool) (mx1 : Nat) (i1 : Int) : ref06_Name_L1 n s1 kont1 (mx1 + 1) i1 =
  bif decide (i1 < (s1.length : Int)) then
   (sidx s1 i1).bind fun c1 =>
   (ref06_letter n c1).bind fun v3 =>
   (bif !v3 then
    (sidx s1 i1).bind fun c3 =>
    (ref06_digit n c3).bind fun v6 =>
    some (!v6)
   else
    some false).bind fun v4 =>
   (bif v4 then
    (sidx s1 i1).bind fun c2 =>
    some (c2 != 95)
   else
    some false).bind fun v5 =>
   bif v5 then
    some false
   else
    ref06_Name_L1 n s1 kont1 mx1 (iadd .i64 i1 1)
  else
   kont1 := rfl
def ref06_Name (n : Nat) (s1 : Bs) : Option Bool :=
 (bif decide ((s1.length : Int) < 1) then
  some true
 else
  some (decide (20 < (s1.length : Int)))).bind fun v1 =>
 (bif v1 then
  some true
 else
  (sidx s1 0).bind fun c4 =>
  (ref06_letter n c4).bind fun v7 =>
  some (!v7)).bind fun v2 =>
 bif v2 then
  some false
 else
  ref06_Name_L1 n s1 (
   some true) n 1
set_option maxHeartbeats 1000000 in
set_option maxRecDepth 1000000 in
theorem ref06_Name_ok (n : Nat) (s1 : Bs) (r : Bool) (hm : ref06_Name n s1 = some r) {w : World}  :
  Calls Tryz.prog 64 #[vs s1] w fun e w' => e = .returned (.bool r) ∧ w' = w := by
 unfold ref06_Name at hm
 refine calls_of 42 Tryz.func64 rfl rfl rfl ?_
 refine c_seq (c_region (r_assign rfl rfl rfl (r_nil (q_then (c_seq (c_seq (c_region (r_move rfl rfl rfl ?_))))))))
 refine r_slen u9 rfl rfl rfl ?_
 refine r_bin rfl rfl rfl rfl rfl ?_
 refine r_move rfl rfl rfl ?_
 obtain ⟨v1, hb1, hm⟩ := bind_some hm
 refine r_mid 4 (fun a w' => w = w' ∧ Has 42 a [(0, vs s1), (11, .bool v1)]) ?_ ?_
 ·rintro a wx1 ⟨rfl, hax1⟩
  refine rw_apply hax1 ?_
  refine r_move rfl rfl rfl ?_
  obtain ⟨v2, hb2, hm⟩ := bind_some hm
  refine r_mid 5 (fun a w' => w = w' ∧ Has 42 a [(0, vs s1), (17, .bool v2)]) ?_ ?_
  ·rintro a wx2 ⟨rfl, hax2⟩
   refine rw_apply hax2 ?_
   refine r_nil (q_then ?_)
   rcases cond_some hm with ⟨hb3, hm⟩ | ⟨hb3, hm⟩
   ·refine c_lit 17 rfl hb3 ?_
    refine c_true rfl (c_seq (c_region (r_assign rfl rfl rfl (r_nil (q_then (c_ret (q_then_ret ?_)))))))
    refine b_ret1 rfl rfl ?_
    obtain rfl := Option.some.inj hm
    exact ⟨rfl, rfl⟩
   ·refine c_lit 17 rfl hb3 ?_
    refine c_false rfl (c_skip (q_then (c_seq (c_seq (c_region (r_assign rfl rfl rfl (r_nil (q_then (c_block ?_)))))))))
    intro a hax7
    obtain ⟨kont1, hkont1⟩ : ∃ kont1 : Option Bool, kont1 = (
       some true) := ⟨_, rfl⟩
    replace hm : (fun m (s : Int) => ref06_Name_L1 n s1 kont1 m s) n 1 = some r := by rw [hkont1]; exact hm
    refine loopX (id := 0) (fun m (s : Int) => ref06_Name_L1 n s1 kont1 m s) (fun (y : Unit) => kont1) r (fun (s : Int) a w' => w = w' ∧ Has 42 a [(0, vs s1), (3, .int .i64 s)]) (fun (y : Unit) a w' => w = w' ∧ Has 42 a []) (fun _ => rfl) ?_ ?_ hm ⟨rfl, hax7.cut (l := [0, 3]) rfl⟩
    ·clear hm; rintro _u a wx3 hm ⟨rfl, hax3⟩
     rw [hkont1] at hm
     refine qw_apply (e := .exit 0) hax3 ?_
     refine q_block_hit (q_then (c_seq (c_region (r_assign rfl rfl rfl (r_nil (q_then (c_ret ?_)))))))
     refine b_ret1 rfl rfl ?_
     obtain rfl := Option.some.inj hm
     exact ⟨rfl, rfl⟩
    ·clear hm hkont1; intro hk1 mx1 K ihx1
     rintro i1 a wx4 hm ⟨rfl, hax4⟩
     simp only [ref06_Name_L1_s] at hm
     refine cw_apply hax4 ?_
     refine c_seq (c_seq (c_region (r_move rfl rfl rfl (r_move rfl rfl rfl ?_))))
     refine r_slen u9 rfl rfl rfl ?_
     refine r_bin rfl rfl rfl rfl rfl ?_
     refine r_nil (q_then ?_)
     rcases cond_some hm with ⟨hb4, hm⟩ | ⟨hb4, hm⟩
     ·refine c_lit 21 rfl hb4 ?_
      refine c_true rfl (c_skip (q_then (c_seq (c_block (c_seq (c_region (r_move rfl rfl rfl (r_move rfl rfl rfl ?_))))))))
      obtain ⟨c1, hc1, hm⟩ := bind_some hm
      refine r_sidx u9 rfl rfl rfl rfl hc1 ?_
      obtain ⟨v3, hv1, hm⟩ := bind_some hm
      refine r_callP0 ent83 rfl rfl rfl rfl (ref06_letter_ok _ _ _ hv1) ?_
      refine r_not rfl rfl rfl (r_move rfl rfl rfl ?_)
      obtain ⟨v4, hb5, hm⟩ := bind_some hm
      refine r_mid 6 (fun a w' => w = w' ∧ Has 42 a [(0, vs s1), (3, .int .i64 i1), (35, .bool v4)]) ?_ ?_
      ·rintro a wx5 ⟨rfl, hax5⟩
       refine rw_apply hax5 ?_
       refine r_move rfl rfl rfl ?_
       obtain ⟨v5, hb6, hm⟩ := bind_some hm
       refine r_mid 5 (fun a w' => w = w' ∧ Has 42 a [(0, vs s1), (3, .int .i64 i1), (41, .bool v5)]) ?_ ?_
       ·rintro a wx6 ⟨rfl, hax6⟩
        refine rw_apply hax6 ?_
        refine r_nil (q_then ?_)
        rcases cond_some hm with ⟨hb7, hm⟩ | ⟨hb7, hm⟩
        ·refine c_lit 41 rfl hb7 ?_
         refine c_true rfl (c_seq (c_region (r_assign rfl rfl rfl (r_nil (q_then (c_ret (q_block_ret (q_then_ret (q_then_ret (q_block_ret (q_then_ret ?_)))))))))))
         refine b_ret1 rfl rfl ?_
         obtain rfl := Option.some.inj hm
         exact ⟨rfl, rfl⟩
        ·refine c_lit 41 rfl hb7 ?_
         refine c_false rfl (c_skip (q_block (q_then (c_region (r_move rfl rfl rfl ?_)))))
         refine r_bin rfl rfl rfl rfl rfl ?_
         refine r_assign rfl rfl rfl (r_nil ?_)
         refine q_next (fun a ha => ihx1 (iadd .i64 i1 1) a _ hm ?_)
         exact ⟨rfl, ha.cut (l := [0, 3]) rfl⟩
       ·clear hm
        rcases cond_some hb6 with ⟨hb8, hb6⟩ | ⟨hb8, hb6⟩
        ·refine r_lit 36 rfl hb8 ?_
         refine r_move rfl rfl rfl (r_move rfl rfl rfl ?_)
         obtain ⟨c2, hc2, hb6⟩ := bind_some hb6
         refine r_sidx u9 rfl rfl rfl rfl hc2 ?_
         refine r_bin rfl rfl rfl rfl rfl ?_
         refine r_pick_true rfl rfl rfl rfl (r_nil ?_)
         refine q_next (fun a ha => ?_)
         cases hb6
         exact ⟨rfl, ha.cut (l := [0, 3, 41]) rfl⟩
        ·refine r_lit 36 rfl hb8 ?_
         refine r_off rfl (by decide) rfl (r_off rfl (by decide) rfl (r_off rfl (by decide) rfl (r_off rfl (by decide) rfl (r_pick_false rfl rfl rfl rfl (r_nil ?_)))))
         refine q_next (fun a ha => ?_)
         cases hb6
         exact ⟨rfl, ha.cut (l := [0, 3, 41]) rfl⟩
      ·clear hm
       rcases cond_some hb5 with ⟨hb9, hb5⟩ | ⟨hb9, hb5⟩
       ·refine r_lit 29 rfl hb9 ?_
        refine r_move rfl rfl rfl (r_move rfl rfl rfl ?_)
        obtain ⟨c3, hc3, hb5⟩ := bind_some hb5
        refine r_sidx u9 rfl rfl rfl rfl hc3 ?_
        obtain ⟨v6, hv2, hb5⟩ := bind_some hb5
        refine r_callP0 ent84 rfl rfl rfl rfl (ref06_digit_ok _ _ _ hv2) ?_
        refine r_not rfl rfl rfl (r_pick_true rfl rfl rfl rfl (r_nil ?_))
        refine q_next (fun a ha => ?_)
        cases hb5
        exact ⟨rfl, ha.cut (l := [0, 3, 35]) rfl⟩
       ·refine r_lit 29 rfl hb9 ?_
        refine r_off rfl (by decide) rfl (r_off rfl (by decide) rfl (r_off rfl (by decide) rfl (r_off rfl (by decide) rfl (r_off rfl (by decide) rfl (r_pick_false rfl rfl rfl rfl (r_nil ?_))))))
        refine q_next (fun a ha => ?_)
        cases hb5
        exact ⟨rfl, ha.cut (l := [0, 3, 35]) rfl⟩
     ·refine c_lit 21 rfl hb4 ?_
      refine c_false rfl (c_exit (q_then_exit (q_then_exit ?_)))
      refine fun a ha => hk1 () a _ hm ?_
      exact ⟨rfl, ha.cut (l := []) rfl⟩
  ·clear hm
   rcases cond_some hb2 with ⟨hb10, hb2⟩ | ⟨hb10, hb2⟩
   ·refine r_lit 12 rfl hb10 ?_
    refine r_off rfl (by decide) rfl (r_off rfl (by decide) rfl (r_off rfl (by decide) rfl (r_off rfl (by decide) rfl (r_pick_true rfl rfl rfl rfl (r_nil ?_)))))
    refine q_next (fun a ha => ?_)
    cases hb2
    exact ⟨rfl, ha.cut (l := [0, 17]) rfl⟩
   ·refine r_lit 12 rfl hb10 ?_
    refine r_move rfl rfl rfl ?_
    obtain ⟨c4, hc4, hb2⟩ := bind_some hb2
    refine r_sidx u9 rfl rfl rfl rfl hc4 ?_
    obtain ⟨v7, hv3, hb2⟩ := bind_some hb2
    refine r_callP0 ent83 rfl rfl rfl rfl (ref06_letter_ok _ _ _ hv3) ?_
    refine r_not rfl rfl rfl (r_pick_false rfl rfl rfl rfl (r_nil ?_))
    refine q_next (fun a ha => ?_)
    cases hb2
    exact ⟨rfl, ha.cut (l := [0, 17]) rfl⟩
 ·clear hm
  rcases cond_some hb1 with ⟨hb11, hb1⟩ | ⟨hb11, hb1⟩
  ·refine r_lit 7 rfl hb11 ?_
   refine r_off rfl (by decide) rfl (r_off rfl (by decide) rfl (r_off rfl (by decide) rfl (r_pick_true rfl rfl rfl rfl (r_nil ?_))))
   refine q_next (fun a ha => ?_)
   cases hb1
   exact ⟨rfl, ha.cut (l := [0, 11]) rfl⟩
  ·refine r_lit 7 rfl hb11 ?_
   refine r_move rfl rfl rfl ?_
   refine r_slen u9 rfl rfl rfl ?_
   refine r_bin rfl rfl rfl rfl rfl ?_
   refine r_pick_false rfl rfl rfl rfl (r_nil ?_)
   refine q_next (fun a ha => ?_)
   cases hb1
   exact ⟨rfl, ha.cut (l := [0, 11]) rfl⟩
def ref06_Number_L1 (n : Nat) (s1 : Bs) (kont1 : Int → Option (Int × Bool)) : Nat → Int → Int → Option (Int × Bool)
 | 0, _, _ => none
 | mx1 + 1, nx1, i1 =>
  bif decide (i1 < (s1.length : Int)) then
   (sidx s1 i1).bind fun c2 =>
   (ref06_digit n c2).bind fun v4 =>
   (bif !v4 then
    some true
   else
    some (decide (1099511627776 < nx1))).bind fun v5 =>
   bif v5 then
    some (0, false)
   else
    (sidx s1 i1).bind fun c3 =>
    ref06_Number_L1 n s1 kont1 mx1 (isub .i64 (iadd .i64 (imul .i64 10 nx1) (IntKind.i64.wrap c3)) 48) (iadd .i64 i1 1)
  else
   kont1 nx1
theorem ref06_Number_L1_s (n : Nat) (s1 : Bs) (kont1 : Int → Option (Int × Bool)) (mx1 : Nat) (nx1 : Int) (i1 : Int) : ref06_Number_L1 n s1 kont1 (mx1 + 1) nx1 i1 =
  bif decide (i1 < (s1.length : Int)) then
   (sidx s1 i1).bind fun c2 =>
   (ref06_digit n c2).bind fun v4 =>
   (bif !v4 then
    some true
   else
    some (decide (1099511627776 < nx1))).bind fun v5 =>
   bif v5 then
    some (0, false)
   else
    (sidx s1 i1).bind fun c3 =>
    ref06_Number_L1 n s1 kont1 mx1 (isub .i64 (iadd .i64 (imul .i64 10 nx1) (IntKind.i64.wrap c3)) 48) (iadd .i64 i1 1)
  else
   kont1 nx1 := rfl
def ref06_Number (n : Nat) (s1 : Bs) : Option (Int × Bool) :=
 ref06_Number_L1 n s1 (fun (nx2 : Int) =>
  (bif decide ((s1.length : Int) < 1) then
   some true
  else
   (bif decide (1 < (s1.length : Int)) then
    (sidx s1 0).bind fun c1 =>
    some (c1 == 48)
   else
    some false).bind fun v3 =>
   some v3).bind fun v1 =>
  (bif v1 then
   some true
  else
   some (decide (1099511627776 < nx2))).bind fun v2 =>
  bif v2 then
   some (0, false)
  else
   some (nx2, true)) n 0 0
set_option maxHeartbeats 1000000 in
set_option maxRecDepth 1000000 in
theorem ref06_Number_ok (n : Nat) (s1 : Bs) (r : (Int × Bool)) (hm : ref06_Number n s1 = some r) {w : World}  :
  Calls Tryz.prog 85 #[vs s1] w fun e w' => e = .returned (.tuple #[.int .i64 r.1, .bool r.2]) ∧ w' = w := by
 unfold ref06_Number at hm
 refine calls_of 47 Tryz.func85 rfl rfl rfl ?_
 refine c_seq (c_region (r_assign rfl rfl rfl (r_assign rfl rfl rfl (r_nil (q_then (c_seq (c_region (r_assign rfl rfl rfl (r_nil (q_then (c_seq (c_seq (c_region (r_assign rfl rfl rfl (r_nil (q_then (c_block ?_)))))))))))))))))
 intro a hax7
 obtain ⟨kont1, hkont1⟩ : ∃ kont1 : Int → Option (Int × Bool), kont1 = (fun (nx2 : Int) =>
       (bif decide ((s1.length : Int) < 1) then
        some true
       else
        (bif decide (1 < (s1.length : Int)) then
         (sidx s1 0).bind fun c1 =>
         some (c1 == 48)
        else
         some false).bind fun v3 =>
        some v3).bind fun v1 =>
       (bif v1 then
        some true
       else
        some (decide (1099511627776 < nx2))).bind fun v2 =>
       bif v2 then
        some (0, false)
       else
        some (nx2, true)) := ⟨_, rfl⟩
 replace hm : (fun m (s : Int × Int) => ref06_Number_L1 n s1 kont1 m s.1 s.2) n (0, 0) = some r := by rw [hkont1]; exact hm
 refine loopX (id := 0) (fun m (s : Int × Int) => ref06_Number_L1 n s1 kont1 m s.1 s.2) (fun (y : Int) => kont1 y) r (fun (s : Int × Int) a w' => w = w' ∧ Has 47 a [(0, vs s1), (4, .int .i64 s.1), (5, .int .i64 s.2)]) (fun (y : Int) a w' => w = w' ∧ Has 47 a [(0, vs s1), (4, .int .i64 y)]) (fun _ => rfl) ?_ ?_ hm ⟨rfl, hax7.cut (l := [0, 4, 5]) rfl⟩
 ·clear hm; rintro nx2 a wx1 hm ⟨rfl, hax1⟩
  rw [hkont1] at hm
  replace hm := hm
  refine qw_apply (e := .exit 0) hax1 ?_
  refine q_block_hit (q_then (c_seq (c_seq (c_region (r_move rfl rfl rfl ?_)))))
  refine r_slen u9 rfl rfl rfl ?_
  refine r_bin rfl rfl rfl rfl rfl ?_
  refine r_move rfl rfl rfl ?_
  obtain ⟨v1, hb1, hm⟩ := bind_some hm
  refine r_mid 9 (fun a w' => w = w' ∧ Has 47 a [(4, .int .i64 nx2), (41, .bool v1)]) ?_ ?_
  ·rintro a wx2 ⟨rfl, hax2⟩
   refine rw_apply hax2 ?_
   refine r_move rfl rfl rfl ?_
   obtain ⟨v2, hb2, hm⟩ := bind_some hm
   refine r_mid 3 (fun a w' => w = w' ∧ Has 47 a [(4, .int .i64 nx2), (45, .bool v2)]) ?_ ?_
   ·rintro a wx3 ⟨rfl, hax3⟩
    refine rw_apply hax3 ?_
    refine r_nil (q_then ?_)
    rcases cond_some hm with ⟨hb3, hm⟩ | ⟨hb3, hm⟩
    ·refine c_lit 45 rfl hb3 ?_
     refine c_true rfl (c_seq (c_region (r_assign rfl rfl rfl (r_assign rfl rfl rfl (r_nil (q_then (c_ret (q_then_ret ?_))))))))
     refine b_retA (vl := [.int .i64 0, .bool false]) rfl ⟨v_tmp rfl, v_tmp rfl, trivial⟩ (by simp) ?_
     obtain rfl := Option.some.inj hm
     exact ⟨rfl, rfl⟩
    ·refine c_lit 45 rfl hb3 ?_
     refine c_false rfl (c_skip (q_then (c_seq (c_region (r_move rfl rfl rfl (r_assign rfl rfl rfl (r_assign rfl rfl rfl (r_nil (q_then (c_ret ?_))))))))))
     refine b_retA (vl := [.int .i64 nx2, .bool true]) rfl ⟨v_tmp rfl, v_tmp rfl, trivial⟩ (by simp) ?_
     obtain rfl := Option.some.inj hm
     exact ⟨rfl, rfl⟩
   ·clear hm
    rcases cond_some hb2 with ⟨hb4, hb2⟩ | ⟨hb4, hb2⟩
    ·refine r_lit 42 rfl hb4 ?_
     refine r_off rfl (by decide) rfl (r_off rfl (by decide) rfl (r_pick_true rfl rfl rfl rfl (r_nil ?_)))
     refine q_next (fun a ha => ?_)
     cases hb2
     exact ⟨rfl, ha.cut (l := [4, 45]) rfl⟩
    ·refine r_lit 42 rfl hb4 ?_
     refine r_move rfl rfl rfl ?_
     refine r_bin rfl rfl rfl rfl rfl ?_
     refine r_pick_false rfl rfl rfl rfl (r_nil ?_)
     refine q_next (fun a ha => ?_)
     cases hb2
     exact ⟨rfl, ha.cut (l := [4, 45]) rfl⟩
  ·clear hm
   rcases cond_some hb1 with ⟨hb5, hb1⟩ | ⟨hb5, hb1⟩
   ·refine r_lit 32 rfl hb5 ?_
    refine r_off rfl (by decide) rfl (r_off rfl (by decide) rfl (r_off rfl (by decide) rfl (r_off rfl (by decide) rfl (r_off rfl (by decide) rfl (r_off rfl (by decide) rfl (r_off rfl (by decide) rfl (r_off rfl (by decide) rfl (r_pick_true rfl rfl rfl rfl (r_nil ?_)))))))))
    refine q_next (fun a ha => ?_)
    cases hb1
    exact ⟨rfl, ha.cut (l := [4, 41]) rfl⟩
   ·refine r_lit 32 rfl hb5 ?_
    refine r_move rfl rfl rfl ?_
    refine r_slen u9 rfl rfl rfl ?_
    refine r_bin rfl rfl rfl rfl rfl ?_
    refine r_move rfl rfl rfl ?_
    obtain ⟨v3, hb6, hb1⟩ := bind_some hb1
    refine r_mid 4 (fun a w' => w = w' ∧ Has 47 a [(4, .int .i64 nx2), (32, .bool false), (40, .bool v3)]) ?_ ?_
    ·rintro a wx4 ⟨rfl, hax4⟩
     refine rw_apply hax4 ?_
     refine r_pick_false rfl rfl rfl rfl (r_nil ?_)
     refine q_next (fun a ha => ?_)
     cases hb1
     exact ⟨rfl, ha.cut (l := [4, 41]) rfl⟩
    ·clear hb1
     rcases cond_some hb6 with ⟨hb7, hb6⟩ | ⟨hb7, hb6⟩
     ·refine r_lit 36 rfl hb7 ?_
      refine r_move rfl rfl rfl ?_
      obtain ⟨c1, hc1, hb6⟩ := bind_some hb6
      refine r_sidx u9 rfl rfl rfl rfl hc1 ?_
      refine r_bin rfl rfl rfl rfl rfl ?_
      refine r_pick_true rfl rfl rfl rfl (r_nil ?_)
      refine q_next (fun a ha => ?_)
      cases hb6
      exact ⟨rfl, ha.cut (l := [4, 32, 40]) rfl⟩
     ·refine r_lit 36 rfl hb7 ?_
      refine r_off rfl (by decide) rfl (r_off rfl (by decide) rfl (r_off rfl (by decide) rfl (r_pick_false rfl rfl rfl rfl (r_nil ?_))))
      refine q_next (fun a ha => ?_)
      cases hb6
      exact ⟨rfl, ha.cut (l := [4, 32, 40]) rfl⟩
 ·clear hm hkont1; intro hk1 mx1 K ihx1
  rintro ⟨nx1, i1⟩ a wx5 hm ⟨rfl, hax5⟩
  simp only [ref06_Number_L1_s] at hm
  refine cw_apply hax5 ?_
  refine c_seq (c_seq (c_region (r_move rfl rfl rfl (r_move rfl rfl rfl ?_))))
  refine r_slen u9 rfl rfl rfl ?_
  refine r_bin rfl rfl rfl rfl rfl ?_
  refine r_nil (q_then ?_)
  rcases cond_some hm with ⟨hb8, hm⟩ | ⟨hb8, hm⟩
  ·refine c_lit 9 rfl hb8 ?_
   refine c_true rfl (c_skip (q_then (c_seq (c_block (c_seq (c_seq (c_region (r_move rfl rfl rfl (r_move rfl rfl rfl ?_)))))))))
   obtain ⟨c2, hc2, hm⟩ := bind_some hm
   refine r_sidx u9 rfl rfl rfl rfl hc2 ?_
   obtain ⟨v4, hv1, hm⟩ := bind_some hm
   refine r_callP0 ent84 rfl rfl rfl rfl (ref06_digit_ok _ _ _ hv1) ?_
   refine r_not rfl rfl rfl (r_move rfl rfl rfl ?_)
   obtain ⟨v5, hb9, hm⟩ := bind_some hm
   refine r_mid 3 (fun a w' => w = w' ∧ Has 47 a [(0, vs s1), (4, .int .i64 nx1), (5, .int .i64 i1), (20, .bool v5)]) ?_ ?_
   ·rintro a wx6 ⟨rfl, hax6⟩
    refine rw_apply hax6 ?_
    refine r_nil (q_then ?_)
    rcases cond_some hm with ⟨hb10, hm⟩ | ⟨hb10, hm⟩
    ·refine c_lit 20 rfl hb10 ?_
     refine c_true rfl (c_seq (c_region (r_assign rfl rfl rfl (r_assign rfl rfl rfl (r_nil (q_then (c_ret (q_then_ret (q_block_ret (q_then_ret (q_then_ret (q_block_ret (q_then_ret ?_)))))))))))))
     refine b_retA (vl := [.int .i64 0, .bool false]) rfl ⟨v_tmp rfl, v_tmp rfl, trivial⟩ (by simp) ?_
     obtain rfl := Option.some.inj hm
     exact ⟨rfl, rfl⟩
    ·refine c_lit 20 rfl hb10 ?_
     refine c_false rfl (c_skip (q_then (c_region (r_move rfl rfl rfl ?_))))
     refine r_bin rfl rfl rfl rfl rfl ?_
     refine r_move rfl rfl rfl (r_move rfl rfl rfl ?_)
     obtain ⟨c3, hc3, hm⟩ := bind_some hm
     refine r_sidx u9 rfl rfl rfl rfl hc3 ?_
     refine r_conv u5 u3 rfl rfl rfl ?_
     refine r_bin rfl rfl rfl rfl rfl ?_
     refine r_bin rfl rfl rfl rfl rfl ?_
     refine r_assign rfl rfl rfl (r_nil (q_block (q_then (c_region (r_move rfl rfl rfl ?_)))))
     refine r_bin rfl rfl rfl rfl rfl ?_
     refine r_assign rfl rfl rfl (r_nil ?_)
     refine q_next (fun a ha => ihx1 ((isub .i64 (iadd .i64 (imul .i64 10 nx1) (IntKind.i64.wrap c3)) 48), (iadd .i64 i1 1)) a _ hm ?_)
     exact ⟨rfl, ha.cut (l := [0, 4, 5]) rfl⟩
   ·clear hm
    rcases cond_some hb9 with ⟨hb11, hb9⟩ | ⟨hb11, hb9⟩
    ·refine r_lit 17 rfl hb11 ?_
     refine r_off rfl (by decide) rfl (r_off rfl (by decide) rfl (r_pick_true rfl rfl rfl rfl (r_nil ?_)))
     refine q_next (fun a ha => ?_)
     cases hb9
     exact ⟨rfl, ha.cut (l := [0, 4, 5, 20]) rfl⟩
    ·refine r_lit 17 rfl hb11 ?_
     refine r_move rfl rfl rfl ?_
     refine r_bin rfl rfl rfl rfl rfl ?_
     refine r_pick_false rfl rfl rfl rfl (r_nil ?_)
     refine q_next (fun a ha => ?_)
     cases hb9
     exact ⟨rfl, ha.cut (l := [0, 4, 5, 20]) rfl⟩
  ·refine c_lit 9 rfl hb8 ?_
   refine c_false rfl (c_exit (q_then_exit (q_then_exit ?_)))
   refine fun a ha => hk1 nx1 a _ hm ?_
   exact ⟨rfl, ha.cut (l := [0, 4]) rfl⟩
theorem ent100 : Ent Tryz.prog 100 := fun _ _ => by kernel_rfl
def ref06_quoted_L1 (n : Nat) (s1 : Bs) (kont1 : Bs → Int → Option (Bs × Int × Bool)) : Nat → Bs → Int → Option (Bs × Int × Bool)
 | 0, _, _ => none
 | mx1 + 1, value1, i1 =>
  (bif decide (i1 < (s1.length : Int)) then
   (sidx s1 i1).bind fun c4 =>
   some (c4 != 34)
  else
   some false).bind fun v3 =>
  bif v3 then
   (sidx s1 i1).bind fun c1 =>
   bif c1 == 92 then
    (bif decide ((s1.length : Int) ≤ (iadd .i64 i1 1)) then
     some true
    else
     (sidx s1 (iadd .i64 i1 1)).bind fun c2 =>
     (bif c2 != 34 then
      (sidx s1 (iadd .i64 i1 1)).bind fun c3 =>
      some (c3 != 92)
     else
      some false).bind fun v5 =>
     some v5).bind fun v4 =>
    bif v4 then
     some ([], 0, false)
    else
     (ssl s1 (iadd .i64 i1 1) (iadd .i64 (iadd .i64 i1 1) 1)).bind fun t1 =>
     (scat value1 t1).bind fun t2 =>
     ref06_quoted_L1 n s1 kont1 mx1 t2 (iadd .i64 (iadd .i64 i1 1) 1)
   else
    (ssl s1 i1 (iadd .i64 i1 1)).bind fun t3 =>
    (scat value1 t3).bind fun t4 =>
    ref06_quoted_L1 n s1 kont1 mx1 t4 (iadd .i64 i1 1)
  else
   kont1 value1 i1
theorem ref06_quoted_L1_s (n : Nat) (s1 : Bs) (kont1 : Bs → Int → Option (Bs × Int × Bool)) (mx1 : Nat) (value1 : Bs) (i1 : Int) : ref06_quoted_L1 n s1 kont1 (mx1 + 1) value1 i1 =
  (bif decide (i1 < (s1.length : Int)) then
   (sidx s1 i1).bind fun c4 =>
   some (c4 != 34)
  else
   some false).bind fun v3 =>
  bif v3 then
   (sidx s1 i1).bind fun c1 =>
   bif c1 == 92 then
    (bif decide ((s1.length : Int) ≤ (iadd .i64 i1 1)) then
     some true
    else
     (sidx s1 (iadd .i64 i1 1)).bind fun c2 =>
     (bif c2 != 34 then
      (sidx s1 (iadd .i64 i1 1)).bind fun c3 =>
      some (c3 != 92)
     else
      some false).bind fun v5 =>
     some v5).bind fun v4 =>
    bif v4 then
     some ([], 0, false)
    else
     (ssl s1 (iadd .i64 i1 1) (iadd .i64 (iadd .i64 i1 1) 1)).bind fun t1 =>
     (scat value1 t1).bind fun t2 =>
     ref06_quoted_L1 n s1 kont1 mx1 t2 (iadd .i64 (iadd .i64 i1 1) 1)
   else
    (ssl s1 i1 (iadd .i64 i1 1)).bind fun t3 =>
    (scat value1 t3).bind fun t4 =>
    ref06_quoted_L1 n s1 kont1 mx1 t4 (iadd .i64 i1 1)
  else
   kont1 value1 i1 := rfl
def ref06_quoted (n : Nat) (s1 : Bs) (atx1 : Int) : Option (Bs × Int × Bool) :=
 ref06_quoted_L1 n s1 (fun (value2 : Bs) (i2 : Int) =>
  (bif decide ((s1.length : Int) ≤ i2) then
   some true
  else
   (ref06_Value n value2).bind fun v2 =>
   some (!v2)).bind fun v1 =>
  bif v1 then
   some ([], 0, false)
  else
   some (value2, iadd .i64 i2 1, true)) n [] (iadd .i64 atx1 1)
set_option maxHeartbeats 1000000 in
set_option maxRecDepth 1000000 in
theorem ref06_quoted_ok (n : Nat) (s1 : Bs) (atx1 : Int) (r : (Bs × Int × Bool)) (hm : ref06_quoted n s1 atx1 = some r) {w : World}  :
  Calls Tryz.prog 86 #[vs s1, .int .i64 atx1] w fun e w' => e = .returned (.tuple #[vs r.1, .int .i64 r.2.1, .bool r.2.2]) ∧ w' = w := by
 unfold ref06_quoted at hm
 refine calls_of 64 Tryz.func86 rfl rfl rfl ?_
 refine c_seq (c_region (r_assign rfl rfl rfl (r_assign rfl rfl rfl (r_assign rfl rfl rfl (r_nil (q_then (c_seq (c_region (r_assign rfl rfl rfl (r_nil (q_then (c_seq (c_region (r_move rfl rfl rfl ?_))))))))))))))
 refine r_bin rfl rfl rfl rfl rfl ?_
 refine r_assign rfl rfl rfl (r_nil (q_then (c_seq (c_block ?_))))
 intro a hax7
 obtain ⟨kont1, hkont1⟩ : ∃ kont1 : Bs → Int → Option (Bs × Int × Bool), kont1 = (fun (value2 : Bs) (i2 : Int) =>
       (bif decide ((s1.length : Int) ≤ i2) then
        some true
       else
        (ref06_Value n value2).bind fun v2 =>
        some (!v2)).bind fun v1 =>
       bif v1 then
        some ([], 0, false)
       else
        some (value2, iadd .i64 i2 1, true)) := ⟨_, rfl⟩
 replace hm : (fun m (s : Bs × Int) => ref06_quoted_L1 n s1 kont1 m s.1 s.2) n ([], (iadd .i64 atx1 1)) = some r := by rw [hkont1]; exact hm
 refine loopX (id := 0) (fun m (s : Bs × Int) => ref06_quoted_L1 n s1 kont1 m s.1 s.2) (fun (y : Bs × Int) => kont1 y.1 y.2) r (fun (s : Bs × Int) a w' => w = w' ∧ Has 64 a [(0, vs s1), (7, vs s.1), (8, .int .i64 s.2)]) (fun (y : Bs × Int) a w' => w = w' ∧ Has 64 a [(0, vs s1), (7, vs y.1), (8, .int .i64 y.2)]) (fun _ => rfl) ?_ ?_ hm ⟨rfl, hax7.cut (l := [0, 7, 8]) rfl⟩
 ·clear hm; rintro ⟨value2, i2⟩ a wx1 hm ⟨rfl, hax1⟩
  rw [hkont1] at hm
  replace hm := hm
  refine qw_apply (e := .exit 0) hax1 ?_
  refine q_block_hit (q_then (c_seq (c_seq (c_region (r_move rfl rfl rfl (r_move rfl rfl rfl ?_))))))
  refine r_slen u9 rfl rfl rfl ?_
  refine r_bin rfl rfl rfl rfl rfl ?_
  refine r_move rfl rfl rfl ?_
  obtain ⟨v1, hb1, hm⟩ := bind_some hm
  refine r_mid 4 (fun a w' => w = w' ∧ Has 64 a [(7, vs value2), (8, .int .i64 i2), (60, .bool v1)]) ?_ ?_
  ·rintro a wx2 ⟨rfl, hax2⟩
   refine rw_apply hax2 ?_
   refine r_nil (q_then ?_)
   rcases cond_some hm with ⟨hb2, hm⟩ | ⟨hb2, hm⟩
   ·refine c_lit 60 rfl hb2 ?_
    refine c_true rfl (c_seq (c_region (r_assign rfl rfl rfl (r_assign rfl rfl rfl (r_assign rfl rfl rfl (r_nil (q_then (c_ret (q_then_ret ?_)))))))))
    refine b_retA (vl := [vs [], .int .i64 0, .bool false]) rfl ⟨v_tmp rfl, v_tmp rfl, v_tmp rfl, trivial⟩ (by simp) ?_
    obtain rfl := Option.some.inj hm
    exact ⟨rfl, rfl⟩
   ·refine c_lit 60 rfl hb2 ?_
    refine c_false rfl (c_skip (q_then (c_seq (c_region (r_move rfl rfl rfl (r_move rfl rfl rfl ?_))))))
    refine r_bin rfl rfl rfl rfl rfl ?_
    refine r_assign rfl rfl rfl (r_assign rfl rfl rfl (r_assign rfl rfl rfl (r_nil (q_then (c_ret ?_)))))
    refine b_retA (vl := [vs value2, .int .i64 (iadd .i64 i2 1), .bool true]) rfl ⟨v_tmp rfl, v_tmp rfl, v_tmp rfl, trivial⟩ (by simp) ?_
    obtain rfl := Option.some.inj hm
    exact ⟨rfl, rfl⟩
  ·clear hm
   rcases cond_some hb1 with ⟨hb3, hb1⟩ | ⟨hb3, hb1⟩
   ·refine r_lit 56 rfl hb3 ?_
    refine r_off rfl (by decide) rfl (r_off rfl (by decide) rfl (r_off rfl (by decide) rfl (r_pick_true rfl rfl rfl rfl (r_nil ?_))))
    refine q_next (fun a ha => ?_)
    cases hb1
    exact ⟨rfl, ha.cut (l := [7, 8, 60]) rfl⟩
   ·refine r_lit 56 rfl hb3 ?_
    refine r_move rfl rfl rfl ?_
    obtain ⟨v2, hv1, hb1⟩ := bind_some hb1
    refine r_callP0 ent100 rfl rfl rfl rfl (ref06_Value_ok _ _ _ hv1) ?_
    refine r_not rfl rfl rfl (r_pick_false rfl rfl rfl rfl (r_nil ?_))
    refine q_next (fun a ha => ?_)
    cases hb1
    exact ⟨rfl, ha.cut (l := [7, 8, 60]) rfl⟩
 ·clear hm hkont1; intro hk1 mx1 K ihx1
  rintro ⟨value1, i1⟩ a wx3 hm ⟨rfl, hax3⟩
  simp only [ref06_quoted_L1_s] at hm
  refine cw_apply hax3 ?_
  refine c_seq (c_seq (c_region (r_move rfl rfl rfl (r_move rfl rfl rfl ?_))))
  refine r_slen u9 rfl rfl rfl ?_
  refine r_bin rfl rfl rfl rfl rfl ?_
  refine r_move rfl rfl rfl ?_
  obtain ⟨v3, hb4, hm⟩ := bind_some hm
  refine r_mid 5 (fun a w' => w = w' ∧ Has 64 a [(0, vs s1), (7, vs value1), (8, .int .i64 i1), (20, .bool v3)]) ?_ ?_
  ·rintro a wx4 ⟨rfl, hax4⟩
   refine rw_apply hax4 ?_
   refine r_nil (q_then ?_)
   rcases cond_some hm with ⟨hb5, hm⟩ | ⟨hb5, hm⟩
   ·refine c_lit 20 rfl hb5 ?_
    refine c_true rfl (c_skip (q_then (c_block (c_seq (c_seq (c_region (r_move rfl rfl rfl (r_move rfl rfl rfl ?_))))))))
    obtain ⟨c1, hc1, hm⟩ := bind_some hm
    refine r_sidx u9 rfl rfl rfl rfl hc1 ?_
    refine r_bin rfl rfl rfl rfl rfl ?_
    refine r_nil (q_then ?_)
    rcases cond_some hm with ⟨hb6, hm⟩ | ⟨hb6, hm⟩
    ·refine c_lit 24 rfl hb6 ?_
     refine c_true rfl (c_seq (c_region (r_move rfl rfl rfl ?_)))
     refine r_bin rfl rfl rfl rfl rfl ?_
     refine r_assign rfl rfl rfl (r_nil (q_then (c_seq (c_region (r_move rfl rfl rfl (r_move rfl rfl rfl ?_))))))
     refine r_slen u9 rfl rfl rfl ?_
     refine r_bin rfl rfl rfl rfl rfl ?_
     refine r_move rfl rfl rfl ?_
     obtain ⟨v4, hb7, hm⟩ := bind_some hm
     refine r_mid 11 (fun a w' => w = w' ∧ Has 64 a [(0, vs s1), (7, vs value1), (8, .int .i64 (iadd .i64 i1 1)), (42, .bool v4)]) ?_ ?_
     ·rintro a wx5 ⟨rfl, hax5⟩
      refine rw_apply hax5 ?_
      refine r_nil (q_then ?_)
      rcases cond_some hm with ⟨hb8, hm⟩ | ⟨hb8, hm⟩
      ·refine c_lit 42 rfl hb8 ?_
       refine c_true rfl (c_seq (c_region (r_assign rfl rfl rfl (r_assign rfl rfl rfl (r_assign rfl rfl rfl (r_nil (q_then (c_ret (q_then_ret (q_block_ret (q_then_ret (q_block_ret (q_then_ret ?_)))))))))))))
       refine b_retA (vl := [vs [], .int .i64 0, .bool false]) rfl ⟨v_tmp rfl, v_tmp rfl, v_tmp rfl, trivial⟩ (by simp) ?_
       obtain rfl := Option.some.inj hm
       exact ⟨rfl, rfl⟩
      ·refine c_lit 42 rfl hb8 ?_
       refine c_false rfl (c_skip (q_then (c_seq (c_region (r_move rfl rfl rfl (r_move rfl rfl rfl (r_move rfl rfl rfl (r_move rfl rfl rfl ?_))))))))
       refine r_bin rfl rfl rfl rfl rfl ?_
       obtain ⟨t1, hc2, hm⟩ := bind_some hm
       refine r_ssl_lh u9 rfl rfl rfl rfl rfl hc2 ?_
       obtain ⟨t2, hq1, hm⟩ := bind_some hm
       refine r_cat rfl rfl rfl rfl hq1 ?_
       refine r_assign rfl rfl rfl (r_nil (q_then (c_region (r_move rfl rfl rfl ?_))))
       refine r_bin rfl rfl rfl rfl rfl ?_
       refine r_assign rfl rfl rfl (r_nil (q_block ?_))
       refine q_next (fun a ha => ihx1 (t2, (iadd .i64 (iadd .i64 i1 1) 1)) a _ hm ?_)
       exact ⟨rfl, ha.cut (l := [0, 7, 8]) rfl⟩
     ·clear hm
      rcases cond_some hb7 with ⟨hb9, hb7⟩ | ⟨hb9, hb7⟩
      ·refine r_lit 31 rfl hb9 ?_
       refine r_off rfl (by decide) rfl (r_off rfl (by decide) rfl (r_off rfl (by decide) rfl (r_off rfl (by decide) rfl (r_off rfl (by decide) rfl (r_off rfl (by decide) rfl (r_off rfl (by decide) rfl (r_off rfl (by decide) rfl (r_off rfl (by decide) rfl (r_off rfl (by decide) rfl (r_pick_true rfl rfl rfl rfl (r_nil ?_)))))))))))
       refine q_next (fun a ha => ?_)
       cases hb7
       exact ⟨rfl, ha.cut (l := [0, 7, 8, 42]) rfl⟩
      ·refine r_lit 31 rfl hb9 ?_
       refine r_move rfl rfl rfl (r_move rfl rfl rfl ?_)
       obtain ⟨c2, hc3, hb7⟩ := bind_some hb7
       refine r_sidx u9 rfl rfl rfl rfl hc3 ?_
       refine r_bin rfl rfl rfl rfl rfl ?_
       refine r_move rfl rfl rfl ?_
       obtain ⟨v5, hb10, hb7⟩ := bind_some hb7
       refine r_mid 5 (fun a w' => w = w' ∧ Has 64 a [(0, vs s1), (7, vs value1), (8, .int .i64 (iadd .i64 i1 1)), (31, .bool false), (41, .bool v5)]) ?_ ?_
       ·rintro a wx6 ⟨rfl, hax6⟩
        refine rw_apply hax6 ?_
        refine r_pick_false rfl rfl rfl rfl (r_nil ?_)
        refine q_next (fun a ha => ?_)
        cases hb7
        exact ⟨rfl, ha.cut (l := [0, 7, 8, 42]) rfl⟩
       ·clear hb7
        rcases cond_some hb10 with ⟨hb11, hb10⟩ | ⟨hb11, hb10⟩
        ·refine r_lit 36 rfl hb11 ?_
         refine r_move rfl rfl rfl (r_move rfl rfl rfl ?_)
         obtain ⟨c3, hc4, hb10⟩ := bind_some hb10
         refine r_sidx u9 rfl rfl rfl rfl hc4 ?_
         refine r_bin rfl rfl rfl rfl rfl ?_
         refine r_pick_true rfl rfl rfl rfl (r_nil ?_)
         refine q_next (fun a ha => ?_)
         cases hb10
         exact ⟨rfl, ha.cut (l := [0, 7, 8, 31, 41]) rfl⟩
        ·refine r_lit 36 rfl hb11 ?_
         refine r_off rfl (by decide) rfl (r_off rfl (by decide) rfl (r_off rfl (by decide) rfl (r_off rfl (by decide) rfl (r_pick_false rfl rfl rfl rfl (r_nil ?_)))))
         refine q_next (fun a ha => ?_)
         cases hb10
         exact ⟨rfl, ha.cut (l := [0, 7, 8, 31, 41]) rfl⟩
    ·refine c_lit 24 rfl hb6 ?_
     refine c_false rfl (c_skip (q_then (c_seq (c_region (r_move rfl rfl rfl (r_move rfl rfl rfl (r_move rfl rfl rfl (r_move rfl rfl rfl ?_))))))))
     refine r_bin rfl rfl rfl rfl rfl ?_
     obtain ⟨t3, hc5, hm⟩ := bind_some hm
     refine r_ssl_lh u9 rfl rfl rfl rfl rfl hc5 ?_
     obtain ⟨t4, hq2, hm⟩ := bind_some hm
     refine r_cat rfl rfl rfl rfl hq2 ?_
     refine r_assign rfl rfl rfl (r_nil (q_then (c_region (r_move rfl rfl rfl ?_))))
     refine r_bin rfl rfl rfl rfl rfl ?_
     refine r_assign rfl rfl rfl (r_nil (q_block ?_))
     refine q_next (fun a ha => ihx1 (t4, (iadd .i64 i1 1)) a _ hm ?_)
     exact ⟨rfl, ha.cut (l := [0, 7, 8]) rfl⟩
   ·refine c_lit 20 rfl hb5 ?_
    refine c_false rfl (c_exit (q_then_exit (q_then_exit ?_)))
    refine fun a ha => hk1 (value1, i1) a _ hm ?_
    exact ⟨rfl, ha.cut (l := [0, 7, 8]) rfl⟩
  ·clear hm
   rcases cond_some hb4 with ⟨hb12, hb4⟩ | ⟨hb12, hb4⟩
   ·refine r_lit 15 rfl hb12 ?_
    refine r_move rfl rfl rfl (r_move rfl rfl rfl ?_)
    obtain ⟨c4, hc6, hb4⟩ := bind_some hb4
    refine r_sidx u9 rfl rfl rfl rfl hc6 ?_
    refine r_bin rfl rfl rfl rfl rfl ?_
    refine r_pick_true rfl rfl rfl rfl (r_nil ?_)
    refine q_next (fun a ha => ?_)
    cases hb4
    exact ⟨rfl, ha.cut (l := [0, 7, 8, 20]) rfl⟩
   ·refine r_lit 15 rfl hb12 ?_
    refine r_off rfl (by decide) rfl (r_off rfl (by decide) rfl (r_off rfl (by decide) rfl (r_off rfl (by decide) rfl (r_pick_false rfl rfl rfl rfl (r_nil ?_)))))
    refine q_next (fun a ha => ?_)
    cases hb4
    exact ⟨rfl, ha.cut (l := [0, 7, 8, 20]) rfl⟩
def ref06_sign_L1 (n : Nat) (c1 : Int) (kont1 : Option Bool) : Nat → Int → Option Bool
 | 0, _ => none
 | mx1 + 1, i1 =>
  bif decide (i1 < ([40, 41, 44, 59, 58, 61, 60, 43, 45, 42, 47, 123, 125].length : Int)) then
   (sidx [40, 41, 44, 59, 58, 61, 60, 43, 45, 42, 47, 123, 125] i1).bind fun c2 =>
   bif c2 == c1 then
    some true
   else
    ref06_sign_L1 n c1 kont1 mx1 (iadd .i64 i1 1)
  else
   kont1
theorem ref06_sign_L1_s (n : Nat) (c1 : Int) (kont1 : Option Bool) (mx1 : Nat) (i1 : Int) : ref06_sign_L1 n c1 kont1 (mx1 + 1) i1 =
  bif decide (i1 < ([40, 41, 44, 59, 58, 61, 60, 43, 45, 42, 47, 123, 125].length : Int)) then
   (sidx [40, 41, 44, 59, 58, 61, 60, 43, 45, 42, 47, 123, 125] i1).bind fun c2 =>
   bif c2 == c1 then
    some true
   else
    ref06_sign_L1 n c1 kont1 mx1 (iadd .i64 i1 1)
  else
   kont1 := rfl
def ref06_sign (n : Nat) (c1 : Int) : Option Bool :=
 ref06_sign_L1 n c1 (
  some false) n 0
set_option maxHeartbeats 1000000 in
set_option maxRecDepth 1000000 in
theorem ref06_sign_ok (n : Nat) (c1 : Int) (r : Bool) (hm : ref06_sign n c1 = some r) {w : World}  :
  Calls Tryz.prog 87 #[.int .u8 c1] w fun e w' => e = .returned (.bool r) ∧ w' = w := by
 unfold ref06_sign at hm
 refine calls_of 16 Tryz.func87 rfl rfl rfl ?_
 refine c_seq (c_region (r_assign rfl rfl rfl (r_nil (q_then (c_seq (c_region (r_assign rfl rfl rfl (r_nil (q_then (c_seq (c_seq (c_region (r_assign rfl rfl rfl (r_nil (q_then (c_block ?_))))))))))))))))
 intro a hax3
 obtain ⟨kont1, hkont1⟩ : ∃ kont1 : Option Bool, kont1 = (
       some false) := ⟨_, rfl⟩
 replace hm : (fun m (s : Int) => ref06_sign_L1 n c1 kont1 m s) n 0 = some r := by rw [hkont1]; exact hm
 refine loopX (id := 0) (fun m (s : Int) => ref06_sign_L1 n c1 kont1 m s) (fun (y : Unit) => kont1) r (fun (s : Int) a w' => w = w' ∧ Has 16 a [(0, .int .u8 c1), (3, vs [40, 41, 44, 59, 58, 61, 60, 43, 45, 42, 47, 123, 125]), (4, .int .i64 s)]) (fun (y : Unit) a w' => w = w' ∧ Has 16 a []) (fun _ => rfl) ?_ ?_ hm ⟨rfl, hax3.cut (l := [0, 3, 4]) rfl⟩
 ·clear hm; rintro _u a wx1 hm ⟨rfl, hax1⟩
  rw [hkont1] at hm
  refine qw_apply (e := .exit 0) hax1 ?_
  refine q_block_hit (q_then (c_seq (c_region (r_assign rfl rfl rfl (r_nil (q_then (c_ret ?_)))))))
  refine b_ret1 rfl rfl ?_
  obtain rfl := Option.some.inj hm
  exact ⟨rfl, rfl⟩
 ·clear hm hkont1; intro hk1 mx1 K ihx1
  rintro i1 a wx2 hm ⟨rfl, hax2⟩
  simp only [ref06_sign_L1_s] at hm
  refine cw_apply hax2 ?_
  refine c_seq (c_seq (c_region (r_move rfl rfl rfl (r_move rfl rfl rfl ?_))))
  refine r_slen u9 rfl rfl rfl ?_
  refine r_bin rfl rfl rfl rfl rfl ?_
  refine r_nil (q_then ?_)
  rcases cond_some hm with ⟨hb1, hm⟩ | ⟨hb1, hm⟩
  ·refine c_lit 8 rfl hb1 ?_
   refine c_true rfl (c_skip (q_then (c_seq (c_block (c_seq (c_region (r_move rfl rfl rfl (r_move rfl rfl rfl ?_))))))))
   obtain ⟨c2, hc1, hm⟩ := bind_some hm
   refine r_sidx u9 rfl rfl rfl rfl hc1 ?_
   refine r_move rfl rfl rfl ?_
   refine r_bin rfl rfl rfl rfl rfl ?_
   refine r_nil (q_then ?_)
   rcases cond_some hm with ⟨hb2, hm⟩ | ⟨hb2, hm⟩
   ·refine c_lit 15 rfl hb2 ?_
    refine c_true rfl (c_seq (c_region (r_assign rfl rfl rfl (r_nil (q_then (c_ret (q_block_ret (q_then_ret (q_then_ret (q_block_ret (q_then_ret ?_)))))))))))
    refine b_ret1 rfl rfl ?_
    obtain rfl := Option.some.inj hm
    exact ⟨rfl, rfl⟩
   ·refine c_lit 15 rfl hb2 ?_
    refine c_false rfl (c_skip (q_block (q_then (c_region (r_move rfl rfl rfl ?_)))))
    refine r_bin rfl rfl rfl rfl rfl ?_
    refine r_assign rfl rfl rfl (r_nil ?_)
    refine q_next (fun a ha => ihx1 (iadd .i64 i1 1) a _ hm ?_)
    exact ⟨rfl, ha.cut (l := [0, 3, 4]) rfl⟩
  ·refine c_lit 8 rfl hb1 ?_
   refine c_false rfl (c_exit (q_then_exit (q_then_exit ?_)))
   refine fun a ha => hk1 () a _ hm ?_
   exact ⟨rfl, ha.cut (l := []) rfl⟩
theorem ent64 : Ent Tryz.prog 64 := fun _ _ => by kernel_rfl
theorem ent85 : Ent Tryz.prog 85 := fun _ _ => by kernel_rfl
theorem ent86 : Ent Tryz.prog 86 := fun _ _ => by kernel_rfl
theorem ent87 : Ent Tryz.prog 87 := fun _ _ => by kernel_rfl
def ref06_token_L1 (n : Nat) (s1 : Bs) (kont1 : Int → Option (Token × Int × Int)) : Nat → Int → Option (Token × Int × Int)
 | 0, _ => none
 | mx1 + 1, endx1 =>
  (bif decide (endx1 < (s1.length : Int)) then
   (sidx s1 endx1).bind fun c2 =>
   (ref06_letter n c2).bind fun v4 =>
   (bif v4 then
    some true
   else
    (sidx s1 endx1).bind fun c4 =>
    (ref06_digit n c4).bind fun v7 =>
    some v7).bind fun v5 =>
   (bif v5 then
    some true
   else
    (sidx s1 endx1).bind fun c3 =>
    some (c3 == 95)).bind fun v6 =>
   some v6
  else
   some false).bind fun v3 =>
  bif v3 then
   ref06_token_L1 n s1 kont1 mx1 (iadd .i64 endx1 1)
  else
   kont1 endx1
theorem ref06_token_L1_s (n : Nat) (s1 : Bs) (kont1 : Int → Option (Token × Int × Int)) (mx1 : Nat) (endx1 : Int) : ref06_token_L1 n s1 kont1 (mx1 + 1) endx1 =
  (bif decide (endx1 < (s1.length : Int)) then
   (sidx s1 endx1).bind fun c2 =>
   (ref06_letter n c2).bind fun v4 =>
   (bif v4 then
    some true
   else
    (sidx s1 endx1).bind fun c4 =>
    (ref06_digit n c4).bind fun v7 =>
    some v7).bind fun v5 =>
   (bif v5 then
    some true
   else
    (sidx s1 endx1).bind fun c3 =>
    some (c3 == 95)).bind fun v6 =>
   some v6
  else
   some false).bind fun v3 =>
  bif v3 then
   ref06_token_L1 n s1 kont1 mx1 (iadd .i64 endx1 1)
  else
   kont1 endx1 := rfl
def ref06_token_L2 (n : Nat) (s1 : Bs) (kont2 : Int → Option (Token × Int × Int)) : Nat → Int → Option (Token × Int × Int)
 | 0, _ => none
 | mx2 + 1, endx3 =>
  (bif decide (endx3 < (s1.length : Int)) then
   (sidx s1 endx3).bind fun c6 =>
   (ref06_digit n c6).bind fun v11 =>
   some v11
  else
   some false).bind fun v10 =>
  bif v10 then
   ref06_token_L2 n s1 kont2 mx2 (iadd .i64 endx3 1)
  else
   kont2 endx3
theorem ref06_token_L2_s (n : Nat) (s1 : Bs) (kont2 : Int → Option (Token × Int × Int)) (mx2 : Nat) (endx3 : Int) : ref06_token_L2 n s1 kont2 (mx2 + 1) endx3 =
  (bif decide (endx3 < (s1.length : Int)) then
   (sidx s1 endx3).bind fun c6 =>
   (ref06_digit n c6).bind fun v11 =>
   some v11
  else
   some false).bind fun v10 =>
  bif v10 then
   ref06_token_L2 n s1 kont2 mx2 (iadd .i64 endx3 1)
  else
   kont2 endx3 := rfl
def ref06_token (n : Nat) (s1 : Bs) (atx1 : Int) : Option (Token × Int × Int) :=
 (sidx s1 atx1).bind fun c1 =>
 (ref06_letter n c1).bind fun v1 =>
 bif v1 then
  ref06_token_L1 n s1 (fun (endx2 : Int) =>
   (ssl s1 atx1 endx2).bind fun t1 =>
   (ref06_Name n t1).bind fun v2 =>
   bif !v2 then
    some ((⟨0, [], 0, 0⟩ : Token), 0, 3)
   else
    (ssl s1 atx1 endx2).bind fun t2 =>
    some ((⟨0, t2, 0, atx1⟩ : Token), endx2, 0)) n (iadd .i64 atx1 1)
 else
  (sidx s1 atx1).bind fun c5 =>
  (ref06_digit n c5).bind fun v8 =>
  bif v8 then
   ref06_token_L2 n s1 (fun (endx4 : Int) =>
    (ssl s1 atx1 endx4).bind fun t3 =>
    (ref06_Number n t3).bind fun v9 =>
    bif !v9.2 then
     some ((⟨0, [], 0, 0⟩ : Token), 0, 3)
    else
     (ssl s1 atx1 endx4).bind fun t4 =>
     some ((⟨1, t4, v9.1, atx1⟩ : Token), endx4, 0)) n (iadd .i64 atx1 1)
  else
   (sidx s1 atx1).bind fun c7 =>
   bif c7 == 34 then
    (ref06_quoted n s1 atx1).bind fun v12 =>
    bif !v12.2.2 then
     some ((⟨0, [], 0, 0⟩ : Token), 0, 2)
    else
     some ((⟨2, v12.1, 0, atx1⟩ : Token), v12.2.1, 0)
   else
    (sidx s1 atx1).bind fun c8 =>
    (ref06_sign n c8).bind fun v13 =>
    bif !v13 then
     some ((⟨0, [], 0, 0⟩ : Token), 0, 10)
    else
     (ssl s1 atx1 (iadd .i64 atx1 1)).bind fun t5 =>
     some ((⟨3, t5, 0, atx1⟩ : Token), iadd .i64 atx1 1, 0)
set_option maxHeartbeats 1000000 in
set_option maxRecDepth 1000000 in
theorem ref06_token_ok (n : Nat) (s1 : Bs) (atx1 : Int) (r : (Token × Int × Int)) (hm : ref06_token n s1 atx1 = some r) {w : World} {F : Frz} (hs : Sat F w)  :
  Calls Tryz.prog 58 #[vs s1, .int .i64 atx1] w fun e w' => ∃ v F' O', e = .returned v ∧ HS F w [] F' O' w' ∧ (v = .tuple #[.agg #[.int .i64 r.1.Kind, vs r.1.Text, .int .i64 r.1.N, .int .i64 r.1.Pos], .int .i64 r.2.1, .int .i64 r.2.2] ∧ O' = []) := by
 unfold ref06_token at hm
 have h := HS.init hs
 refine calls_of 123 Tryz.func58 rfl rfl rfl ?_
 refine c_seq (c_region ?_)
 refine r_alloc ze53 rfl rfl rfl h ?_
 intro b1 wx1 hx1
 refine r_assign rfl rfl rfl (r_assign rfl rfl rfl (r_nil (q_then (c_seq (c_region (r_move rfl rfl rfl ?_))))))
 refine r_bin rfl rfl rfl rfl rfl ?_
 refine r_assign rfl rfl rfl (r_nil (q_then (c_seq (c_seq (c_region (r_move rfl rfl rfl (r_move rfl rfl rfl ?_)))))))
 obtain ⟨c1, hc1, hm⟩ := bind_some hm
 refine r_sidx u9 rfl rfl rfl rfl hc1 ?_
 obtain ⟨v1, hv1, hm⟩ := bind_some hm
 refine r_callP0 ent83 rfl rfl rfl rfl (ref06_letter_ok _ _ _ hv1) ?_
 refine r_nil (q_then ?_)
 rcases cond_some hm with ⟨hb1, hm⟩ | ⟨hb1, hm⟩
 ·refine c_lit 18 rfl hb1 ?_
  refine c_true rfl (c_seq (c_block ?_))
  intro a hax6
  obtain ⟨kont1, hkont1⟩ : ∃ kont1 : Int → Option (Token × Int × Int), kont1 = (fun (endx2 : Int) =>
       (ssl s1 atx1 endx2).bind fun t1 =>
       (ref06_Name n t1).bind fun v2 =>
       bif !v2 then
        some ((⟨0, [], 0, 0⟩ : Token), 0, 3)
       else
        (ssl s1 atx1 endx2).bind fun t2 =>
        some ((⟨0, t2, 0, atx1⟩ : Token), endx2, 0)) := ⟨_, rfl⟩
  replace hm : (fun m (s : Int) => ref06_token_L1 n s1 kont1 m s) n (iadd .i64 atx1 1) = some r := by rw [hkont1]; exact hm
  refine loopX (id := 0) (fun m (s : Int) => ref06_token_L1 n s1 kont1 m s) (fun (y : Int) => kont1 y) r (fun (s : Int) a w' => wx1 = w' ∧ Has 123 a [(0, vs s1), (1, .int .i64 atx1), (4, .pointer (some ⟨b1, 0, none⟩)), (7, .int .i64 s)]) (fun (y : Int) a w' => wx1 = w' ∧ Has 123 a [(0, vs s1), (1, .int .i64 atx1), (4, .pointer (some ⟨b1, 0, none⟩)), (7, .int .i64 y)]) (fun _ => rfl) ?_ ?_ hm ⟨rfl, hax6.cut (l := [0, 1, 4, 7]) rfl⟩
  ·clear hm; rintro endx2 a wx2 hm ⟨rfl, hax1⟩
   rw [hkont1] at hm
   replace hm := hm
   refine qw_apply (e := .exit 0) hax1 ?_
   refine q_block_hit (q_then (c_seq (c_seq (c_region (r_move rfl rfl rfl (r_move rfl rfl rfl (r_move rfl rfl rfl ?_)))))))
   obtain ⟨t1, hc2, hm⟩ := bind_some hm
   refine r_ssl_lh u9 rfl rfl rfl rfl rfl hc2 ?_
   obtain ⟨v2, hv2, hm⟩ := bind_some hm
   refine r_callP0 ent64 rfl rfl rfl rfl (ref06_Name_ok _ _ _ hv2) ?_
   refine r_not rfl rfl rfl (r_nil (q_then ?_))
   rcases cond_some hm with ⟨hb2, hm⟩ | ⟨hb2, hm⟩
   ·refine c_lit 48 rfl hb2 ?_
    refine c_true rfl (c_seq (c_region ?_))
    refine r_build (v := .agg #[.int .i64 0, vs [], .int .i64 0, .int .i64 0]) rfl rfl rfl (fun _ => by kernel_rfl) ?_
    refine r_store sz53 rfl hx1 rfl rfl rfl rfl (i := 0) rfl rfl rfl rfl ?_
    intro wx3 hx2
    refine r_assign rfl rfl rfl (r_assign rfl rfl rfl (r_nil (q_then (c_ret (q_then_ret (q_then_ret ?_))))))
    refine b_retA (vl := [.agg #[.int .i64 0, vs [], .int .i64 0, .int .i64 0], .int .i64 0, .int .i64 3]) rfl ⟨v_cell ag53 sz53 rfl hx2 rfl (i := 0) rfl, v_tmp rfl, v_tmp rfl, trivial⟩ (by simp) ?_
    obtain rfl := Option.some.inj hm
    exact ⟨_, _, _, rfl, hx2.pick [] (by decide) rfl, rfl, rfl⟩
   ·refine c_lit 48 rfl hb2 ?_
    refine c_false rfl (c_skip (q_then (c_seq (c_region (r_move rfl rfl rfl (r_move rfl rfl rfl (r_move rfl rfl rfl ?_)))))))
    obtain ⟨t2, hc3, hm⟩ := bind_some hm
    refine r_ssl_lh u9 rfl rfl rfl rfl rfl hc3 ?_
    refine r_move rfl rfl rfl ?_
    refine r_build (v := .agg #[.int .i64 0, vs t2, .int .i64 0, .int .i64 atx1]) rfl rfl rfl (fun _ => by kernel_rfl) ?_
    refine r_move rfl rfl rfl ?_
    refine r_store sz53 rfl hx1 rfl rfl rfl rfl (i := 0) rfl rfl rfl rfl ?_
    intro wx4 hx3
    refine r_assign rfl rfl rfl (r_assign rfl rfl rfl (r_nil (q_then (c_ret (q_then_ret ?_)))))
    refine b_retA (vl := [.agg #[.int .i64 0, vs t2, .int .i64 0, .int .i64 atx1], .int .i64 endx2, .int .i64 0]) rfl ⟨v_cell ag53 sz53 rfl hx3 rfl (i := 0) rfl, v_tmp rfl, v_tmp rfl, trivial⟩ (by simp) ?_
    obtain rfl := Option.some.inj hm
    exact ⟨_, _, _, rfl, hx3.pick [] (by decide) rfl, rfl, rfl⟩
  ·clear hm hkont1; intro hk1 mx1 K ihx1
   rintro endx1 a wx5 hm ⟨rfl, hax2⟩
   simp only [ref06_token_L1_s] at hm
   refine cw_apply hax2 ?_
   refine c_seq (c_seq (c_region (r_move rfl rfl rfl (r_move rfl rfl rfl ?_))))
   refine r_slen u9 rfl rfl rfl ?_
   refine r_bin rfl rfl rfl rfl rfl ?_
   refine r_move rfl rfl rfl ?_
   obtain ⟨v3, hb3, hm⟩ := bind_some hm
   refine r_mid 17 (fun a w' => wx1 = w' ∧ Has 123 a [(0, vs s1), (1, .int .i64 atx1), (4, .pointer (some ⟨b1, 0, none⟩)), (7, .int .i64 endx1), (40, .bool v3)]) ?_ ?_
   ·rintro a wx6 ⟨rfl, hax3⟩
    refine rw_apply hax3 ?_
    refine r_nil (q_then ?_)
    rcases cond_some hm with ⟨hb4, hm⟩ | ⟨hb4, hm⟩
    ·refine c_lit 40 rfl hb4 ?_
     refine c_true rfl (c_skip (q_then (c_block (c_region (r_move rfl rfl rfl ?_)))))
     refine r_bin rfl rfl rfl rfl rfl ?_
     refine r_assign rfl rfl rfl (r_nil (q_block ?_))
     refine q_next (fun a ha => ihx1 (iadd .i64 endx1 1) a _ hm ?_)
     exact ⟨rfl, ha.cut (l := [0, 1, 4, 7]) rfl⟩
    ·refine c_lit 40 rfl hb4 ?_
     refine c_false rfl (c_exit (q_then_exit (q_then_exit ?_)))
     refine fun a ha => hk1 endx1 a _ hm ?_
     exact ⟨rfl, ha.cut (l := [0, 1, 4, 7]) rfl⟩
   ·clear hm
    rcases cond_some hb3 with ⟨hb5, hb3⟩ | ⟨hb5, hb3⟩
    ·refine r_lit 23 rfl hb5 ?_
     refine r_move rfl rfl rfl (r_move rfl rfl rfl ?_)
     obtain ⟨c2, hc4, hb3⟩ := bind_some hb3
     refine r_sidx u9 rfl rfl rfl rfl hc4 ?_
     obtain ⟨v4, hv3, hb3⟩ := bind_some hb3
     refine r_callP0 ent83 rfl rfl rfl rfl (ref06_letter_ok _ _ _ hv3) ?_
     refine r_move rfl rfl rfl ?_
     obtain ⟨v5, hb6, hb3⟩ := bind_some hb3
     refine r_mid 5 (fun a w' => wx1 = w' ∧ Has 123 a [(0, vs s1), (1, .int .i64 atx1), (4, .pointer (some ⟨b1, 0, none⟩)), (7, .int .i64 endx1), (23, .bool true), (33, .bool v5)]) ?_ ?_
     ·rintro a wx7 ⟨rfl, hax4⟩
      refine rw_apply hax4 ?_
      refine r_move rfl rfl rfl ?_
      obtain ⟨v6, hb7, hb3⟩ := bind_some hb3
      refine r_mid 5 (fun a w' => wx1 = w' ∧ Has 123 a [(0, vs s1), (1, .int .i64 atx1), (4, .pointer (some ⟨b1, 0, none⟩)), (7, .int .i64 endx1), (23, .bool true), (39, .bool v6)]) ?_ ?_
      ·rintro a wx8 ⟨rfl, hax5⟩
       refine rw_apply hax5 ?_
       refine r_pick_true rfl rfl rfl rfl (r_nil ?_)
       refine q_next (fun a ha => ?_)
       cases hb3
       exact ⟨rfl, ha.cut (l := [0, 1, 4, 7, 40]) rfl⟩
      ·clear hb3
       rcases cond_some hb7 with ⟨hb8, hb7⟩ | ⟨hb8, hb7⟩
       ·refine r_lit 34 rfl hb8 ?_
        refine r_off rfl (by decide) rfl (r_off rfl (by decide) rfl (r_off rfl (by decide) rfl (r_off rfl (by decide) rfl (r_pick_true rfl rfl rfl rfl (r_nil ?_)))))
        refine q_next (fun a ha => ?_)
        cases hb7
        exact ⟨rfl, ha.cut (l := [0, 1, 4, 7, 23, 39]) rfl⟩
       ·refine r_lit 34 rfl hb8 ?_
        refine r_move rfl rfl rfl (r_move rfl rfl rfl ?_)
        obtain ⟨c3, hc5, hb7⟩ := bind_some hb7
        refine r_sidx u9 rfl rfl rfl rfl hc5 ?_
        refine r_bin rfl rfl rfl rfl rfl ?_
        refine r_pick_false rfl rfl rfl rfl (r_nil ?_)
        refine q_next (fun a ha => ?_)
        cases hb7
        exact ⟨rfl, ha.cut (l := [0, 1, 4, 7, 23, 39]) rfl⟩
     ·clear hb3
      rcases cond_some hb6 with ⟨hb9, hb6⟩ | ⟨hb9, hb6⟩
      ·refine r_lit 28 rfl hb9 ?_
       refine r_off rfl (by decide) rfl (r_off rfl (by decide) rfl (r_off rfl (by decide) rfl (r_off rfl (by decide) rfl (r_pick_true rfl rfl rfl rfl (r_nil ?_)))))
       refine q_next (fun a ha => ?_)
       cases hb6
       exact ⟨rfl, ha.cut (l := [0, 1, 4, 7, 23, 33]) rfl⟩
      ·refine r_lit 28 rfl hb9 ?_
       refine r_move rfl rfl rfl (r_move rfl rfl rfl ?_)
       obtain ⟨c4, hc6, hb6⟩ := bind_some hb6
       refine r_sidx u9 rfl rfl rfl rfl hc6 ?_
       obtain ⟨v7, hv4, hb6⟩ := bind_some hb6
       refine r_callP0 ent84 rfl rfl rfl rfl (ref06_digit_ok _ _ _ hv4) ?_
       refine r_pick_false rfl rfl rfl rfl (r_nil ?_)
       refine q_next (fun a ha => ?_)
       cases hb6
       exact ⟨rfl, ha.cut (l := [0, 1, 4, 7, 23, 33]) rfl⟩
    ·refine r_lit 23 rfl hb5 ?_
     refine r_off rfl (by decide) rfl (r_off rfl (by decide) rfl (r_off rfl (by decide) rfl (r_off rfl (by decide) rfl (r_off rfl (by decide) rfl (r_off rfl (by decide) rfl (r_off rfl (by decide) rfl (r_off rfl (by decide) rfl (r_off rfl (by decide) rfl (r_off rfl (by decide) rfl (r_off rfl (by decide) rfl (r_off rfl (by decide) rfl (r_off rfl (by decide) rfl (r_off rfl (by decide) rfl (r_off rfl (by decide) rfl (r_off rfl (by decide) rfl (r_pick_false rfl rfl rfl rfl (r_nil ?_)))))))))))))))))
     refine q_next (fun a ha => ?_)
     cases hb3
     exact ⟨rfl, ha.cut (l := [0, 1, 4, 7, 40]) rfl⟩
 ·refine c_lit 18 rfl hb1 ?_
  refine c_false rfl (c_skip (q_then (c_seq (c_seq (c_region (r_move rfl rfl rfl (r_move rfl rfl rfl ?_)))))))
  obtain ⟨c5, hc7, hm⟩ := bind_some hm
  refine r_sidx u9 rfl rfl rfl rfl hc7 ?_
  obtain ⟨v8, hv5, hm⟩ := bind_some hm
  refine r_callP0 ent84 rfl rfl rfl rfl (ref06_digit_ok _ _ _ hv5) ?_
  refine r_nil (q_then ?_)
  rcases cond_some hm with ⟨hb10, hm⟩ | ⟨hb10, hm⟩
  ·refine c_lit 60 rfl hb10 ?_
   refine c_true rfl (c_seq (c_block ?_))
   intro a hax10
   obtain ⟨kont2, hkont2⟩ : ∃ kont2 : Int → Option (Token × Int × Int), kont2 = (fun (endx4 : Int) =>
       (ssl s1 atx1 endx4).bind fun t3 =>
       (ref06_Number n t3).bind fun v9 =>
       bif !v9.2 then
        some ((⟨0, [], 0, 0⟩ : Token), 0, 3)
       else
        (ssl s1 atx1 endx4).bind fun t4 =>
        some ((⟨1, t4, v9.1, atx1⟩ : Token), endx4, 0)) := ⟨_, rfl⟩
   replace hm : (fun m (s : Int) => ref06_token_L2 n s1 kont2 m s) n (iadd .i64 atx1 1) = some r := by rw [hkont2]; exact hm
   refine loopX (id := 2) (fun m (s : Int) => ref06_token_L2 n s1 kont2 m s) (fun (y : Int) => kont2 y) r (fun (s : Int) a w' => wx1 = w' ∧ Has 123 a [(0, vs s1), (1, .int .i64 atx1), (4, .pointer (some ⟨b1, 0, none⟩)), (7, .int .i64 s)]) (fun (y : Int) a w' => wx1 = w' ∧ Has 123 a [(0, vs s1), (1, .int .i64 atx1), (4, .pointer (some ⟨b1, 0, none⟩)), (7, .int .i64 y)]) (fun _ => rfl) ?_ ?_ hm ⟨rfl, hax10.cut (l := [0, 1, 4, 7]) rfl⟩
   ·clear hm; rintro endx4 a wx9 hm ⟨rfl, hax7⟩
    rw [hkont2] at hm
    replace hm := hm
    refine qw_apply (e := .exit 2) hax7 ?_
    refine q_block_hit (q_then (c_seq (c_region (r_move rfl rfl rfl (r_move rfl rfl rfl (r_move rfl rfl rfl ?_))))))
    obtain ⟨t3, hc8, hm⟩ := bind_some hm
    refine r_ssl_lh u9 rfl rfl rfl rfl rfl hc8 ?_
    obtain ⟨v9, hv6, hm⟩ := bind_some hm
    refine r_callP0 ent85 rfl rfl rfl rfl (ref06_Number_ok _ _ _ hv6) ?_
    refine r_move rfl rfl rfl (r_extract rfl rfl rfl rfl (r_extract rfl rfl rfl rfl (r_assign rfl rfl rfl (r_assign rfl rfl rfl (r_nil (q_then (c_seq (c_seq (c_region (r_move rfl rfl rfl (r_not rfl rfl rfl (r_nil (q_then ?_)))))))))))))
    rcases cond_some hm with ⟨hb11, hm⟩ | ⟨hb11, hm⟩
    ·refine c_lit 82 rfl hb11 ?_
     refine c_true rfl (c_seq (c_region ?_))
     refine r_build (v := .agg #[.int .i64 0, vs [], .int .i64 0, .int .i64 0]) rfl rfl rfl (fun _ => by kernel_rfl) ?_
     refine r_store sz53 rfl hx1 rfl rfl rfl rfl (i := 0) rfl rfl rfl rfl ?_
     intro wx10 hx4
     refine r_assign rfl rfl rfl (r_assign rfl rfl rfl (r_nil (q_then (c_ret (q_then_ret (q_then_ret ?_))))))
     refine b_retA (vl := [.agg #[.int .i64 0, vs [], .int .i64 0, .int .i64 0], .int .i64 0, .int .i64 3]) rfl ⟨v_cell ag53 sz53 rfl hx4 rfl (i := 0) rfl, v_tmp rfl, v_tmp rfl, trivial⟩ (by simp) ?_
     obtain rfl := Option.some.inj hm
     exact ⟨_, _, _, rfl, hx4.pick [] (by decide) rfl, rfl, rfl⟩
    ·refine c_lit 82 rfl hb11 ?_
     refine c_false rfl (c_skip (q_then (c_seq (c_region (r_move rfl rfl rfl (r_move rfl rfl rfl (r_move rfl rfl rfl ?_)))))))
     obtain ⟨t4, hc9, hm⟩ := bind_some hm
     refine r_ssl_lh u9 rfl rfl rfl rfl rfl hc9 ?_
     refine r_move rfl rfl rfl (r_move rfl rfl rfl ?_)
     refine r_build (v := .agg #[.int .i64 1, vs t4, .int .i64 v9.1, .int .i64 atx1]) rfl rfl rfl (fun _ => by kernel_rfl) ?_
     refine r_move rfl rfl rfl ?_
     refine r_store sz53 rfl hx1 rfl rfl rfl rfl (i := 0) rfl rfl rfl rfl ?_
     intro wx11 hx5
     refine r_assign rfl rfl rfl (r_assign rfl rfl rfl (r_nil (q_then (c_ret (q_then_ret ?_)))))
     refine b_retA (vl := [.agg #[.int .i64 1, vs t4, .int .i64 v9.1, .int .i64 atx1], .int .i64 endx4, .int .i64 0]) rfl ⟨v_cell ag53 sz53 rfl hx5 rfl (i := 0) rfl, v_tmp rfl, v_tmp rfl, trivial⟩ (by simp) ?_
     obtain rfl := Option.some.inj hm
     exact ⟨_, _, _, rfl, hx5.pick [] (by decide) rfl, rfl, rfl⟩
   ·clear hm hkont2; intro hk2 mx2 K ihx2
    rintro endx3 a wx12 hm ⟨rfl, hax8⟩
    simp only [ref06_token_L2_s] at hm
    refine cw_apply hax8 ?_
    refine c_seq (c_seq (c_region (r_move rfl rfl rfl (r_move rfl rfl rfl ?_))))
    refine r_slen u9 rfl rfl rfl ?_
    refine r_bin rfl rfl rfl rfl rfl ?_
    refine r_move rfl rfl rfl ?_
    obtain ⟨v10, hb12, hm⟩ := bind_some hm
    refine r_mid 5 (fun a w' => wx1 = w' ∧ Has 123 a [(0, vs s1), (1, .int .i64 atx1), (4, .pointer (some ⟨b1, 0, none⟩)), (7, .int .i64 endx3), (70, .bool v10)]) ?_ ?_
    ·rintro a wx13 ⟨rfl, hax9⟩
     refine rw_apply hax9 ?_
     refine r_nil (q_then ?_)
     rcases cond_some hm with ⟨hb13, hm⟩ | ⟨hb13, hm⟩
     ·refine c_lit 70 rfl hb13 ?_
      refine c_true rfl (c_skip (q_then (c_block (c_region (r_move rfl rfl rfl ?_)))))
      refine r_bin rfl rfl rfl rfl rfl ?_
      refine r_assign rfl rfl rfl (r_nil (q_block ?_))
      refine q_next (fun a ha => ihx2 (iadd .i64 endx3 1) a _ hm ?_)
      exact ⟨rfl, ha.cut (l := [0, 1, 4, 7]) rfl⟩
     ·refine c_lit 70 rfl hb13 ?_
      refine c_false rfl (c_exit (q_then_exit (q_then_exit ?_)))
      refine fun a ha => hk2 endx3 a _ hm ?_
      exact ⟨rfl, ha.cut (l := [0, 1, 4, 7]) rfl⟩
    ·clear hm
     rcases cond_some hb12 with ⟨hb14, hb12⟩ | ⟨hb14, hb12⟩
     ·refine r_lit 65 rfl hb14 ?_
      refine r_move rfl rfl rfl (r_move rfl rfl rfl ?_)
      obtain ⟨c6, hc10, hb12⟩ := bind_some hb12
      refine r_sidx u9 rfl rfl rfl rfl hc10 ?_
      obtain ⟨v11, hv7, hb12⟩ := bind_some hb12
      refine r_callP0 ent84 rfl rfl rfl rfl (ref06_digit_ok _ _ _ hv7) ?_
      refine r_pick_true rfl rfl rfl rfl (r_nil ?_)
      refine q_next (fun a ha => ?_)
      cases hb12
      exact ⟨rfl, ha.cut (l := [0, 1, 4, 7, 70]) rfl⟩
     ·refine r_lit 65 rfl hb14 ?_
      refine r_off rfl (by decide) rfl (r_off rfl (by decide) rfl (r_off rfl (by decide) rfl (r_off rfl (by decide) rfl (r_pick_false rfl rfl rfl rfl (r_nil ?_)))))
      refine q_next (fun a ha => ?_)
      cases hb12
      exact ⟨rfl, ha.cut (l := [0, 1, 4, 7, 70]) rfl⟩
  ·refine c_lit 60 rfl hb10 ?_
   refine c_false rfl (c_skip (q_then (c_seq (c_seq (c_region (r_move rfl rfl rfl (r_move rfl rfl rfl ?_)))))))
   obtain ⟨c7, hc11, hm⟩ := bind_some hm
   refine r_sidx u9 rfl rfl rfl rfl hc11 ?_
   refine r_bin rfl rfl rfl rfl rfl ?_
   refine r_nil (q_then ?_)
   rcases cond_some hm with ⟨hb15, hm⟩ | ⟨hb15, hm⟩
   ·refine c_lit 95 rfl hb15 ?_
    refine c_true rfl (c_seq (c_region (r_move rfl rfl rfl (r_move rfl rfl rfl ?_))))
    obtain ⟨v12, hv8, hm⟩ := bind_some hm
    refine r_callP0 ent86 rfl rfl rfl rfl (ref06_quoted_ok _ _ _ _ hv8) ?_
    refine r_move rfl rfl rfl (r_extract rfl rfl rfl rfl (r_extract rfl rfl rfl rfl (r_extract rfl rfl rfl rfl (r_assign rfl rfl rfl (r_assign rfl rfl rfl (r_assign rfl rfl rfl (r_nil (q_then (c_seq (c_seq (c_region (r_move rfl rfl rfl (r_not rfl rfl rfl (r_nil (q_then ?_)))))))))))))))
    rcases cond_some hm with ⟨hb16, hm⟩ | ⟨hb16, hm⟩
    ·refine c_lit 104 rfl hb16 ?_
     refine c_true rfl (c_seq (c_region ?_))
     refine r_build (v := .agg #[.int .i64 0, vs [], .int .i64 0, .int .i64 0]) rfl rfl rfl (fun _ => by kernel_rfl) ?_
     refine r_store sz53 rfl hx1 rfl rfl rfl rfl (i := 0) rfl rfl rfl rfl ?_
     intro wx14 hx6
     refine r_assign rfl rfl rfl (r_assign rfl rfl rfl (r_nil (q_then (c_ret (q_then_ret (q_then_ret ?_))))))
     refine b_retA (vl := [.agg #[.int .i64 0, vs [], .int .i64 0, .int .i64 0], .int .i64 0, .int .i64 2]) rfl ⟨v_cell ag53 sz53 rfl hx6 rfl (i := 0) rfl, v_tmp rfl, v_tmp rfl, trivial⟩ (by simp) ?_
     obtain rfl := Option.some.inj hm
     exact ⟨_, _, _, rfl, hx6.pick [] (by decide) rfl, rfl, rfl⟩
    ·refine c_lit 104 rfl hb16 ?_
     refine c_false rfl (c_skip (q_then (c_seq (c_region (r_move rfl rfl rfl (r_move rfl rfl rfl ?_))))))
     refine r_build (v := .agg #[.int .i64 2, vs v12.1, .int .i64 0, .int .i64 atx1]) rfl rfl rfl (fun _ => by kernel_rfl) ?_
     refine r_move rfl rfl rfl ?_
     refine r_store sz53 rfl hx1 rfl rfl rfl rfl (i := 0) rfl rfl rfl rfl ?_
     intro wx15 hx7
     refine r_assign rfl rfl rfl (r_assign rfl rfl rfl (r_nil (q_then (c_ret (q_then_ret ?_)))))
     refine b_retA (vl := [.agg #[.int .i64 2, vs v12.1, .int .i64 0, .int .i64 atx1], .int .i64 v12.2.1, .int .i64 0]) rfl ⟨v_cell ag53 sz53 rfl hx7 rfl (i := 0) rfl, v_tmp rfl, v_tmp rfl, trivial⟩ (by simp) ?_
     obtain rfl := Option.some.inj hm
     exact ⟨_, _, _, rfl, hx7.pick [] (by decide) rfl, rfl, rfl⟩
   ·refine c_lit 95 rfl hb15 ?_
    refine c_false rfl (c_skip (q_then (c_seq (c_seq (c_region (r_move rfl rfl rfl (r_move rfl rfl rfl ?_)))))))
    obtain ⟨c8, hc12, hm⟩ := bind_some hm
    refine r_sidx u9 rfl rfl rfl rfl hc12 ?_
    obtain ⟨v13, hv9, hm⟩ := bind_some hm
    refine r_callP0 ent87 rfl rfl rfl rfl (ref06_sign_ok _ _ _ hv9) ?_
    refine r_not rfl rfl rfl (r_nil (q_then ?_))
    rcases cond_some hm with ⟨hb17, hm⟩ | ⟨hb17, hm⟩
    ·refine c_lit 114 rfl hb17 ?_
     refine c_true rfl (c_seq (c_region ?_))
     refine r_build (v := .agg #[.int .i64 0, vs [], .int .i64 0, .int .i64 0]) rfl rfl rfl (fun _ => by kernel_rfl) ?_
     refine r_store sz53 rfl hx1 rfl rfl rfl rfl (i := 0) rfl rfl rfl rfl ?_
     intro wx16 hx8
     refine r_assign rfl rfl rfl (r_assign rfl rfl rfl (r_nil (q_then (c_ret (q_then_ret ?_)))))
     refine b_retA (vl := [.agg #[.int .i64 0, vs [], .int .i64 0, .int .i64 0], .int .i64 0, .int .i64 10]) rfl ⟨v_cell ag53 sz53 rfl hx8 rfl (i := 0) rfl, v_tmp rfl, v_tmp rfl, trivial⟩ (by simp) ?_
     obtain rfl := Option.some.inj hm
     exact ⟨_, _, _, rfl, hx8.pick [] (by decide) rfl, rfl, rfl⟩
    ·refine c_lit 114 rfl hb17 ?_
     refine c_false rfl (c_skip (q_then (c_seq (c_region (r_move rfl rfl rfl (r_move rfl rfl rfl (r_move rfl rfl rfl ?_)))))))
     obtain ⟨t5, hc13, hm⟩ := bind_some hm
     refine r_ssl_lh u9 rfl rfl rfl rfl rfl hc13 ?_
     refine r_move rfl rfl rfl ?_
     refine r_build (v := .agg #[.int .i64 3, vs t5, .int .i64 0, .int .i64 atx1]) rfl rfl rfl (fun _ => by kernel_rfl) ?_
     refine r_move rfl rfl rfl ?_
     refine r_store sz53 rfl hx1 rfl rfl rfl rfl (i := 0) rfl rfl rfl rfl ?_
     intro wx17 hx9
     refine r_assign rfl rfl rfl (r_assign rfl rfl rfl (r_nil (q_then (c_ret ?_))))
     refine b_retA (vl := [.agg #[.int .i64 3, vs t5, .int .i64 0, .int .i64 atx1], .int .i64 (iadd .i64 atx1 1), .int .i64 0]) rfl ⟨v_cell ag53 sz53 rfl hx9 rfl (i := 0) rfl, v_tmp rfl, v_tmp rfl, trivial⟩ (by simp) ?_
     obtain rfl := Option.some.inj hm
     exact ⟨_, _, _, rfl, hx9.pick [] (by decide) rfl, rfl, rfl⟩
theorem ent58 : Ent Tryz.prog 58 := fun _ _ => by kernel_rfl
theorem ent57 : Ent Tryz.prog 57 := fun _ _ => by kernel_rfl
def ref06_Scan_L1 (n : Nat) (s1 : Bs) (kont1 : (List Token) → Option ((List Token) × Int × Int)) : Nat → Int → Bool → (List Token) → Option ((List Token) × Int × Int)
 | 0, _, _, _ => none
 | mx1 + 1, atx1, comment1, l1 =>
  bif decide (atx1 < (s1.length : Int)) then
   (sidx s1 atx1).bind fun c1 =>
   (bif c1 == 10 then
    some false
   else
    some comment1).bind fun comment2 =>
   (bif comment2 then
    some true
   else
    (sidx s1 atx1).bind fun c3 =>
    (ref06_Blank n c3).bind fun v3 =>
    some v3).bind fun v1 =>
   bif v1 then
    ref06_Scan_L1 n s1 kont1 mx1 (iadd .i64 atx1 1) comment2 l1
   else
    (sidx s1 atx1).bind fun c2 =>
    bif c2 == 35 then
     ref06_Scan_L1 n s1 kont1 mx1 atx1 true l1
    else
     (ref06_token n s1 atx1).bind fun v2 =>
     bif v2.2.2 != 0 then
      some ([], atx1, v2.2.2)
     else
      (app 40 l1 [v2.1]).bind fun l3 =>
      ref06_Scan_L1 n s1 kont1 mx1 v2.2.1 comment2 l3
  else
   kont1 l1
theorem ref06_Scan_L1_s (n : Nat) (s1 : Bs) (kont1 : (List Token) → Option ((List Token) × Int × Int)) (mx1 : Nat) (atx1 : Int) (comment1 : Bool) (l1 : List Token) : ref06_Scan_L1 n s1 kont1 (mx1 + 1) atx1 comment1 l1 =
  bif decide (atx1 < (s1.length : Int)) then
   (sidx s1 atx1).bind fun c1 =>
   (bif c1 == 10 then
    some false
   else
    some comment1).bind fun comment2 =>
   (bif comment2 then
    some true
   else
    (sidx s1 atx1).bind fun c3 =>
    (ref06_Blank n c3).bind fun v3 =>
    some v3).bind fun v1 =>
   bif v1 then
    ref06_Scan_L1 n s1 kont1 mx1 (iadd .i64 atx1 1) comment2 l1
   else
    (sidx s1 atx1).bind fun c2 =>
    bif c2 == 35 then
     ref06_Scan_L1 n s1 kont1 mx1 atx1 true l1
    else
     (ref06_token n s1 atx1).bind fun v2 =>
     bif v2.2.2 != 0 then
      some ([], atx1, v2.2.2)
     else
      (app 40 l1 [v2.1]).bind fun l3 =>
      ref06_Scan_L1 n s1 kont1 mx1 v2.2.1 comment2 l3
  else
   kont1 l1 := rfl
def ref06_Scan (n : Nat) (s1 : Bs) : Option ((List Token) × Int × Int) :=
 bif decide (4000 < (s1.length : Int)) then
  some ([], 0, 6)
 else
  ref06_Scan_L1 n s1 (fun (l2 : List Token) =>
   some (l2, 0, 0)) n 0 false ([] : List Token)
set_option maxHeartbeats 1000000 in
set_option maxRecDepth 1000000 in
theorem ref06_Scan_ok (n : Nat) (s1 : Bs) (r : ((List Token) × Int × Int)) (hm : ref06_Scan n s1 = some r) {w : World} {F : Frz} (hs : Sat F w)  :
  Calls Tryz.prog 28 #[vs s1] w fun e w' => ∃ v F' O', e = .returned v ∧ HS F w [] F' O' w' ∧ (∃ (a0_0 : Option Addr) (n0_0 : Nat) (c0_0 : Nat), v = .tuple #[.slice a0_0 n0_0 c0_0, .int .i64 r.2.1, .int .i64 r.2.2] ∧ O' = [] ∧ SlR rp_Token F' a0_0 n0_0 c0_0 r.1) := by
 unfold ref06_Scan at hm
 have h := HS.init hs
 refine calls_of 52 Tryz.func28 rfl rfl rfl ?_
 refine c_seq (c_region (r_assign rfl rfl rfl (r_assign rfl rfl rfl (r_assign rfl rfl rfl (r_nil (q_then (c_seq (c_seq (c_region (r_move rfl rfl rfl ?_))))))))))
 refine r_slen u9 rfl rfl rfl ?_
 refine r_bin rfl rfl rfl rfl rfl ?_
 refine r_nil (q_then ?_)
 rcases cond_some hm with ⟨hb1, hm⟩ | ⟨hb1, hm⟩
 ·refine c_lit 13 rfl hb1 ?_
  refine c_true rfl (c_seq (c_region (r_assign rfl rfl rfl (r_assign rfl rfl rfl (r_assign rfl rfl rfl (r_nil (q_then (c_ret (q_then_ret ?_)))))))))
  refine b_retA (vl := [.slice none 0 0, .int .i64 0, .int .i64 6]) rfl ⟨v_tmp rfl, v_tmp rfl, v_tmp rfl, trivial⟩ (by simp) ?_
  obtain rfl := Option.some.inj hm
  exact ⟨_, _, _, rfl, h.pick [] (by decide) rfl, none, 0, 0, rfl, rfl, SlR.nil _ _⟩
 ·refine c_lit 13 rfl hb1 ?_
  refine c_false rfl (c_skip (q_then (c_seq (c_region (r_assign rfl rfl rfl (r_nil (q_then (c_seq (c_region (r_assign rfl rfl rfl (r_nil (q_then (c_seq (c_region (r_assign rfl rfl rfl (r_nil (q_then (c_seq (c_block ?_)))))))))))))))))))
  have hx1 := h.nilRow 53 4
  intro a hax5
  obtain ⟨kont1, hkont1⟩ : ∃ kont1 : (List Token) → Option ((List Token) × Int × Int), kont1 = (fun (l2 : List Token) =>
       some (l2, 0, 0)) := ⟨_, rfl⟩
  replace hm : (fun m (s : Int × Bool × List Token) => ref06_Scan_L1 n s1 kont1 m s.1 s.2.1 s.2.2) n (0, false, ([] : List Token)) = some r := by rw [hkont1]; exact hm
  refine loopX (id := 0) (fun m (s : Int × Bool × List Token) => ref06_Scan_L1 n s1 kont1 m s.1 s.2.1 s.2.2) (fun (y : List Token) => kont1 y) r (fun (s : Int × Bool × List Token) a w' => ∃ (Fx1 : Frz) (as2 : Option Addr) (ns2 : Nat) (cs2 : Nat) (xss2 : List Value), Frz.le F Fx1 ∧ HS F w [] Fx1 [.row 53 4 as2 ns2 cs2 xss2] w' ∧ (RowN rp_Token Fx1 ns2 xss2 s.2.2) ∧ Has 52 a [(0, vs s1), (5, .slice as2 ns2 cs2), (6, .int .i64 s.1), (7, .bool s.2.1)]) (fun (y : List Token) a w' => ∃ (Fx2 : Frz) (as3 : Option Addr) (ns3 : Nat) (cs3 : Nat) (xss3 : List Value), Frz.le F Fx2 ∧ HS F w [] Fx2 [.row 53 4 as3 ns3 cs3 xss3] w' ∧ (RowN rp_Token Fx2 ns3 xss3 y) ∧ Has 52 a [(5, .slice as3 ns3 cs3)]) (fun _ => rfl) ?_ ?_ hm ⟨_, none, 0, 0, [], Frz.refl _, hx1.pick [0] (by decide) rfl, ((show RowN rp_Token _ 0 [] [] from ⟨rfl, rfl⟩)), hax5.cut (l := [0, 5, 6, 7]) rfl⟩
  ·clear hm; rintro l2 a wx1 hm ⟨Fx2, as3, ns3, cs3, xss3, hF2, hx3, hs3, hax1⟩
   rw [hkont1] at hm
   replace hm := hm
   refine qw_apply (e := .exit 0) hax1 ?_
   refine q_block_hit (q_then (c_seq (c_region (r_move rfl rfl rfl (r_assign rfl rfl rfl (r_assign rfl rfl rfl (r_assign rfl rfl rfl (r_nil (q_then (c_ret ?_))))))))))
   obtain ⟨Fx3, hF3, hx4, hsx1⟩ := freezeRow hx3 (i := 0) rfl hs3
   refine b_retA (vl := [.slice as3 ns3 cs3, .int .i64 0, .int .i64 0]) rfl ⟨v_tmp rfl, v_tmp rfl, v_tmp rfl, trivial⟩ (by simp) ?_
   obtain rfl := Option.some.inj hm
   exact ⟨_, _, _, rfl, hx4.pick [] (by decide) rfl, as3, ns3, cs3, rfl, rfl, hsx1⟩
  ·clear hm hkont1; intro hk1 mx1 K ihx1
   rintro ⟨atx1, comment1, l1⟩ a wx2 hm ⟨Fx1, as2, ns2, cs2, xss2, hF1, hx2, hs2, hax2⟩
   simp only [ref06_Scan_L1_s] at hm
   refine cw_apply hax2 ?_
   refine c_seq (c_seq (c_region (r_move rfl rfl rfl (r_move rfl rfl rfl ?_))))
   refine r_slen u9 rfl rfl rfl ?_
   refine r_bin rfl rfl rfl rfl rfl ?_
   refine r_nil (q_then ?_)
   rcases cond_some hm with ⟨hb2, hm⟩ | ⟨hb2, hm⟩
   ·refine c_lit 17 rfl hb2 ?_
    refine c_true rfl (c_skip (q_then (c_block (c_seq (c_seq (c_region (r_move rfl rfl rfl (r_move rfl rfl rfl ?_))))))))
    obtain ⟨c1, hc1, hm⟩ := bind_some hm
    refine r_sidx u9 rfl rfl rfl rfl hc1 ?_
    refine r_bin rfl rfl rfl rfl rfl ?_
    refine r_nil (q_then ?_)
    obtain ⟨comment2, hb3, hm⟩ := bind_some hm
    refine c_midT (fun a w' => wx2 = w' ∧ Has 52 a [(0, vs s1), (5, .slice as2 ns2 cs2), (6, .int .i64 atx1), (7, .bool comment2)]) ?_ ?_
    ·rintro a wx3 ⟨rfl, hax3⟩
     refine cw_apply hax3 ?_
     refine c_seq (c_seq (c_region (r_move rfl rfl rfl (r_move rfl rfl rfl ?_))))
     obtain ⟨v1, hb4, hm⟩ := bind_some hm
     refine r_mid 5 (fun a w' => wx2 = w' ∧ Has 52 a [(0, vs s1), (5, .slice as2 ns2 cs2), (6, .int .i64 atx1), (7, .bool comment2), (28, .bool v1)]) ?_ ?_
     ·rintro a wx4 ⟨rfl, hax4⟩
      refine rw_apply hax4 ?_
      refine r_nil (q_then ?_)
      rcases cond_some hm with ⟨hb5, hm⟩ | ⟨hb5, hm⟩
      ·refine c_lit 28 rfl hb5 ?_
       refine c_true rfl (c_seq (c_region (r_move rfl rfl rfl ?_)))
       refine r_bin rfl rfl rfl rfl rfl ?_
       refine r_assign rfl rfl rfl (r_nil (q_then (c_exit (q_then_exit (q_block_hit ?_)))))
       refine q_next (fun a ha => ihx1 ((iadd .i64 atx1 1), comment2, l1) a _ hm ?_)
       exact ⟨_, as2, ns2, cs2, xss2, hF1, hx2.pick [0] (by decide) rfl, hs2, ha.cut (l := [0, 5, 6, 7]) rfl⟩
      ·refine c_lit 28 rfl hb5 ?_
       refine c_false rfl (c_skip (q_then (c_seq (c_seq (c_region (r_move rfl rfl rfl (r_move rfl rfl rfl ?_)))))))
       obtain ⟨c2, hc2, hm⟩ := bind_some hm
       refine r_sidx u9 rfl rfl rfl rfl hc2 ?_
       refine r_bin rfl rfl rfl rfl rfl ?_
       refine r_nil (q_then ?_)
       rcases cond_some hm with ⟨hb6, hm⟩ | ⟨hb6, hm⟩
       ·refine c_lit 34 rfl hb6 ?_
        refine c_true rfl (c_seq (c_region (r_assign rfl rfl rfl (r_nil (q_then (c_exit (q_then_exit (q_block_hit ?_))))))))
        refine q_next (fun a ha => ihx1 (atx1, true, l1) a _ hm ?_)
        exact ⟨_, as2, ns2, cs2, xss2, hF1, hx2.pick [0] (by decide) rfl, hs2, ha.cut (l := [0, 5, 6, 7]) rfl⟩
       ·refine c_lit 34 rfl hb6 ?_
        refine c_false rfl (c_skip (q_then (c_seq (c_region (r_move rfl rfl rfl (r_move rfl rfl rfl ?_))))))
        obtain ⟨v2, hv1, hm⟩ := bind_some hm
        refine r_callG0 ent58 rfl rfl rfl rfl hx2 (ref06_token_ok _ _ _ _ hv1 hx2.sat) ?_
        rintro _ Fx4 _ wx5 hF4 hx5 ⟨rfl, rfl⟩
        refine r_move rfl rfl rfl (r_extract rfl rfl rfl rfl (r_extract rfl rfl rfl rfl (r_extract rfl rfl rfl rfl ?_)))
        refine r_alloc ze53 rfl rfl rfl hx5 ?_
        intro b1 wx6 hx6
        refine r_store sz53 rfl hx6 rfl rfl rfl rfl (i := 0) rfl rfl rfl rfl ?_
        intro wx7 hx7
        refine r_assign rfl rfl rfl (r_assign rfl rfl rfl (r_nil (q_then (c_seq (c_seq (c_region (r_move rfl rfl rfl ?_)))))))
        refine r_bin rfl rfl rfl rfl rfl ?_
        refine r_nil (q_then ?_)
        rcases cond_some hm with ⟨hb7, hm⟩ | ⟨hb7, hm⟩
        ·refine c_lit 43 rfl hb7 ?_
         refine c_true rfl (c_seq (c_region (r_move rfl rfl rfl (r_move rfl rfl rfl (r_assign rfl rfl rfl (r_assign rfl rfl rfl (r_assign rfl rfl rfl (r_nil (q_then (c_ret (q_then_ret (q_block_ret (q_then_ret (q_block_ret (q_then_ret ?_)))))))))))))))
         refine b_retA (vl := [.slice none 0 0, .int .i64 atx1, .int .i64 v2.2.2]) rfl ⟨v_tmp rfl, v_tmp rfl, v_tmp rfl, trivial⟩ (by simp) ?_
         obtain rfl := Option.some.inj hm
         exact ⟨_, _, _, rfl, hx7.pick [] (by decide) rfl, none, 0, 0, rfl, rfl, SlR.nil _ _⟩
        ·refine c_lit 43 rfl hb7 ?_
         refine c_false rfl (c_skip (q_then (c_seq (c_region (r_move rfl rfl rfl ?_)))))
         refine r_loadBW ag53 sz53 rfl rfl hx7 rfl (i := 0) rfl rfl ?_
         refine r_buildSlice (e := 53) (cs := [.int .i64 v2.1.Kind, vs v2.1.Text, .int .i64 v2.1.N, .int .i64 v2.1.Pos]) (q := 4) rfl rfl hx7 rfl (fun _ => by kernel_rfl) rfl rfl ?_
         intro b2 wx8 hx8
         obtain ⟨l3, hr1, hm⟩ := bind_some hm
         refine r_appendN (r := rp_Token) ap45 rfl rfl hx8 rfl rfl (i := 2) (j := 0) rfl rfl (hs2.mono hF4) ((show RowN rp_Token Fx4 1 [.int .i64 v2.1.Kind, vs v2.1.Text, .int .i64 v2.1.N, .int .i64 v2.1.Pos] [v2.1] from ⟨rfl, ⟨_, _, rfl, rfl, (rfl : RowR rp_Token _ [] [])⟩⟩)) hr1 ?_
         intro as4 cs4 wx9 hx9 hs4
         refine r_assign rfl rfl rfl (r_nil (q_then (c_region (r_move rfl rfl rfl (r_assign rfl rfl rfl (r_nil (q_block ?_)))))))
         refine q_next (fun a ha => ihx1 (v2.2.1, comment2, l3) a _ hm ?_)
         exact ⟨_, as4, (ns2 + 1), cs4, (xss2 ++ [.int .i64 v2.1.Kind, vs v2.1.Text, .int .i64 v2.1.N, .int .i64 v2.1.Pos]), (hF1.trans hF4), hx9.pick [2] (by decide) rfl, hs4, ha.cut (l := [0, 5, 6, 7]) rfl⟩
     ·clear hm
      rcases cond_some hb4 with ⟨hb8, hb4⟩ | ⟨hb8, hb4⟩
      ·refine r_lit 23 rfl hb8 ?_
       refine r_off rfl (by decide) rfl (r_off rfl (by decide) rfl (r_off rfl (by decide) rfl (r_off rfl (by decide) rfl (r_pick_true rfl rfl rfl rfl (r_nil ?_)))))
       refine q_next (fun a ha => ?_)
       cases hb4
       exact ⟨rfl, ha.cut (l := [0, 5, 6, 7, 28]) rfl⟩
      ·refine r_lit 23 rfl hb8 ?_
       refine r_move rfl rfl rfl (r_move rfl rfl rfl ?_)
       obtain ⟨c3, hc3, hb4⟩ := bind_some hb4
       refine r_sidx u9 rfl rfl rfl rfl hc3 ?_
       obtain ⟨v3, hv2, hb4⟩ := bind_some hb4
       refine r_callP0 ent57 rfl rfl rfl rfl (ref06_Blank_ok _ _ _ hv2) ?_
       refine r_pick_false rfl rfl rfl rfl (r_nil ?_)
       refine q_next (fun a ha => ?_)
       cases hb4
       exact ⟨rfl, ha.cut (l := [0, 5, 6, 7, 28]) rfl⟩
    ·clear hm
     rcases cond_some hb3 with ⟨hb9, hb3⟩ | ⟨hb9, hb3⟩
     ·refine c_lit 21 rfl hb9 ?_
      refine c_true rfl (c_region (r_assign rfl rfl rfl (r_nil ?_)))
      refine q_next (fun a ha => ?_)
      cases hb3
      exact ⟨rfl, ha.cut (l := [0, 5, 6, 7]) rfl⟩
     ·refine c_lit 21 rfl hb9 ?_
      refine c_false rfl (c_skip ?_)
      refine q_next (fun a ha => ?_)
      cases hb3
      exact ⟨rfl, ha.cut (l := [0, 5, 6, 7]) rfl⟩
   ·refine c_lit 17 rfl hb2 ?_
    refine c_false rfl (c_exit (q_then_exit (q_then_exit ?_)))
    refine fun a ha => hk1 l1 a _ hm ?_
    exact ⟨_, as2, ns2, cs2, xss2, hF1, hx2.pick [0] (by decide) rfl, hs2, ha.cut (l := [5]) rfl⟩
theorem ent68 : Ent Tryz.prog 68 := fun _ _ => by kernel_rfl
def ref06_Print_L1 (n : Nat) (l1 : (List Token)) (kont1 : Bs → Option Bs) : Nat → Bs → Int → Option Bs
 | 0, _, _ => none
 | mx1 + 1, s2, i1 =>
  bif decide (i1 < (l1.length : Int)) then
   (bif decide (0 < i1) then
    (scat s2 [32]).bind fun t3 =>
    some t3
   else
    some s2).bind fun s4 =>
   (ix l1 i1).bind fun ex1 =>
   bif ex1.Kind == 2 then
    (ix l1 i1).bind fun ex2 =>
    (ref06_Escaped n ex2.Text).bind fun v1 =>
    (scat s4 v1).bind fun t1 =>
    ref06_Print_L1 n l1 kont1 mx1 t1 (iadd .i64 i1 1)
   else
    (ix l1 i1).bind fun ex3 =>
    (scat s4 ex3.Text).bind fun t2 =>
    ref06_Print_L1 n l1 kont1 mx1 t2 (iadd .i64 i1 1)
  else
   kont1 s2
theorem ref06_Print_L1_s (n : Nat) (l1 : (List Token)) (kont1 : Bs → Option Bs) (mx1 : Nat) (s2 : Bs) (i1 : Int) : ref06_Print_L1 n l1 kont1 (mx1 + 1) s2 i1 =
  bif decide (i1 < (l1.length : Int)) then
   (bif decide (0 < i1) then
    (scat s2 [32]).bind fun t3 =>
    some t3
   else
    some s2).bind fun s4 =>
   (ix l1 i1).bind fun ex1 =>
   bif ex1.Kind == 2 then
    (ix l1 i1).bind fun ex2 =>
    (ref06_Escaped n ex2.Text).bind fun v1 =>
    (scat s4 v1).bind fun t1 =>
    ref06_Print_L1 n l1 kont1 mx1 t1 (iadd .i64 i1 1)
   else
    (ix l1 i1).bind fun ex3 =>
    (scat s4 ex3.Text).bind fun t2 =>
    ref06_Print_L1 n l1 kont1 mx1 t2 (iadd .i64 i1 1)
  else
   kont1 s2 := rfl
def ref06_Print (n : Nat) (l1 : (List Token)) : Option Bs :=
 ref06_Print_L1 n l1 (fun (s3 : Bs) =>
  some s3) n [] 0
set_option maxHeartbeats 1000000 in
set_option maxRecDepth 1000000 in
theorem ref06_Print_ok (n : Nat) (l1 : (List Token)) (r : Bs) (hm : ref06_Print n l1 = some r) {w : World} {F : Frz} (hs : Sat F w) {as1 : Option Addr} {ns1 : Nat} {cs1 : Nat} (hs1 : SlR rp_Token F as1 ns1 cs1 l1) :
  Calls Tryz.prog 43 #[.slice as1 ns1 cs1] w fun e w' => ∃ v F' O', e = .returned v ∧ HS F w [] F' O' w' ∧ (v = vs r ∧ O' = []) := by
 unfold ref06_Print at hm
 have h := HS.init hs
 refine calls_of 37 Tryz.func43 rfl rfl rfl ?_
 refine c_seq (c_region (r_assign rfl rfl rfl (r_nil (q_then (c_seq (c_region (r_assign rfl rfl rfl (r_nil (q_then (c_seq (c_seq (c_region (r_assign rfl rfl rfl (r_nil (q_then (c_block ?_))))))))))))))))
 intro a hax4
 obtain ⟨kont1, hkont1⟩ : ∃ kont1 : Bs → Option Bs, kont1 = (fun (s3 : Bs) =>
       some s3) := ⟨_, rfl⟩
 replace hm : (fun m (s : Bs × Int) => ref06_Print_L1 n l1 kont1 m s.1 s.2) n ([], 0) = some r := by rw [hkont1]; exact hm
 refine loopX (id := 0) (fun m (s : Bs × Int) => ref06_Print_L1 n l1 kont1 m s.1 s.2) (fun (y : Bs) => kont1 y) r (fun (s : Bs × Int) a w' => ∃ (Fx1 : Frz), Frz.le F Fx1 ∧ HS F w [] Fx1 [] w' ∧ Has 37 a [(0, .slice as1 ns1 cs1), (3, vs s.1), (4, .int .i64 s.2)]) (fun (y : Bs) a w' => ∃ (Fx2 : Frz), Frz.le F Fx2 ∧ HS F w [] Fx2 [] w' ∧ Has 37 a [(3, vs y)]) (fun _ => rfl) ?_ ?_ hm ⟨_, Frz.refl _, h.pick [] (by decide) rfl, hax4.cut (l := [0, 3, 4]) rfl⟩
 ·clear hm; rintro s3 a wx1 hm ⟨Fx2, hF2, hx2, hax1⟩
  rw [hkont1] at hm
  replace hm := hm
  refine qw_apply (e := .exit 0) hax1 ?_
  refine q_block_hit (q_then (c_seq (c_region (r_move rfl rfl rfl (r_assign rfl rfl rfl (r_nil (q_then (c_ret ?_))))))))
  refine b_ret1 rfl rfl ?_
  obtain rfl := Option.some.inj hm
  exact ⟨_, _, _, rfl, hx2.pick [] (by decide) rfl, rfl, rfl⟩
 ·clear hm hkont1; intro hk1 mx1 K ihx1
  rintro ⟨s2, i1⟩ a wx2 hm ⟨Fx1, hF1, hx1, hax2⟩
  simp only [ref06_Print_L1_s] at hm
  refine cw_apply hax2 ?_
  refine c_seq (c_seq (c_region (r_move rfl rfl rfl (r_move rfl rfl rfl ?_))))
  refine r_lenS hs1.len u45 rfl rfl rfl ?_
  refine r_bin rfl rfl rfl rfl rfl ?_
  refine r_nil (q_then ?_)
  rcases cond_some hm with ⟨hb1, hm⟩ | ⟨hb1, hm⟩
  ·refine c_lit 8 rfl hb1 ?_
   refine c_true rfl (c_skip (q_then (c_seq (c_block (c_seq (c_seq (c_region (r_move rfl rfl rfl ?_))))))))
   refine r_bin rfl rfl rfl rfl rfl ?_
   refine r_nil (q_then ?_)
   obtain ⟨s4, hb2, hm⟩ := bind_some hm
   refine c_midT (fun a w' => wx2 = w' ∧ Has 37 a [(0, .slice as1 ns1 cs1), (3, vs s4), (4, .int .i64 i1)]) ?_ ?_
   ·rintro a wx3 ⟨rfl, hax3⟩
    refine cw_apply hax3 ?_
    refine c_seq (c_region (r_move rfl rfl rfl (r_move rfl rfl rfl ?_)))
    obtain ⟨ex1, he1, hm⟩ := bind_some hm
    refine r_findex (r := rp_Token) u45 sz53 rfl rfl rfl rfl (hs1.mono hF1) he1 ?_
    intro b1 o1 cs1 hf1 hr1
    have hc1 : cs1 = [.int .i64 ex1.Kind, vs ex1.Text, .int .i64 ex1.N, .int .i64 ex1.Pos] := hr1
    subst hc1
    refine r_fieldAddr fa53_0 rfl rfl rfl ?_
    refine r_loadF1 (j := 0) ag3 rfl rfl hx1 hf1 rfl rfl ?_
    refine r_bin rfl rfl rfl rfl rfl ?_
    refine r_nil (q_then ?_)
    rcases cond_some hm with ⟨hb3, hm⟩ | ⟨hb3, hm⟩
    ·refine c_lit 20 rfl hb3 ?_
     refine c_true rfl (c_region (r_move rfl rfl rfl (r_move rfl rfl rfl (r_move rfl rfl rfl ?_))))
     obtain ⟨ex2, he2, hm⟩ := bind_some hm
     refine r_findex (r := rp_Token) u45 sz53 rfl rfl rfl rfl (hs1.mono hF1) he2 ?_
     intro b2 o2 cs2 hf2 hr2
     have hc2 : cs2 = [.int .i64 ex2.Kind, vs ex2.Text, .int .i64 ex2.N, .int .i64 ex2.Pos] := hr2
     subst hc2
     refine r_fieldAddr fa53_1 rfl rfl rfl ?_
     refine r_loadF1 (j := 1) ag9 rfl rfl hx1 hf2 rfl rfl ?_
     obtain ⟨v1, hv1, hm⟩ := bind_some hm
     refine r_callG0 ent68 rfl rfl rfl rfl hx1 (ref06_Escaped_ok _ _ _ hv1 hx1.sat) ?_
     rintro _ Fx3 _ wx4 hF3 hx3 ⟨rfl, rfl⟩
     obtain ⟨t1, hq1, hm⟩ := bind_some hm
     refine r_cat rfl rfl rfl rfl hq1 ?_
     refine r_assign rfl rfl rfl (r_nil (q_block (q_then (c_region (r_move rfl rfl rfl ?_)))))
     refine r_bin rfl rfl rfl rfl rfl ?_
     refine r_assign rfl rfl rfl (r_nil ?_)
     refine q_next (fun a ha => ihx1 (t1, (iadd .i64 i1 1)) a _ hm ?_)
     exact ⟨_, (hF1.trans hF3), hx3.pick [] (by decide) rfl, ha.cut (l := [0, 3, 4]) rfl⟩
    ·refine c_lit 20 rfl hb3 ?_
     refine c_false rfl (c_region (r_move rfl rfl rfl (r_move rfl rfl rfl (r_move rfl rfl rfl ?_))))
     obtain ⟨ex3, he3, hm⟩ := bind_some hm
     refine r_findex (r := rp_Token) u45 sz53 rfl rfl rfl rfl (hs1.mono hF1) he3 ?_
     intro b3 o3 cs3 hf3 hr3
     have hc3 : cs3 = [.int .i64 ex3.Kind, vs ex3.Text, .int .i64 ex3.N, .int .i64 ex3.Pos] := hr3
     subst hc3
     refine r_fieldAddr fa53_1 rfl rfl rfl ?_
     refine r_loadF1 (j := 1) ag9 rfl rfl hx1 hf3 rfl rfl ?_
     obtain ⟨t2, hq2, hm⟩ := bind_some hm
     refine r_cat rfl rfl rfl rfl hq2 ?_
     refine r_assign rfl rfl rfl (r_nil (q_block (q_then (c_region (r_move rfl rfl rfl ?_)))))
     refine r_bin rfl rfl rfl rfl rfl ?_
     refine r_assign rfl rfl rfl (r_nil ?_)
     refine q_next (fun a ha => ihx1 (t2, (iadd .i64 i1 1)) a _ hm ?_)
     exact ⟨_, hF1, hx1.pick [] (by decide) rfl, ha.cut (l := [0, 3, 4]) rfl⟩
   ·clear hm
    rcases cond_some hb2 with ⟨hb4, hb2⟩ | ⟨hb4, hb2⟩
    ·refine c_lit 12 rfl hb4 ?_
     refine c_true rfl (c_region (r_move rfl rfl rfl ?_))
     obtain ⟨t3, hq3, hb2⟩ := bind_some hb2
     refine r_cat rfl rfl rfl rfl hq3 ?_
     refine r_assign rfl rfl rfl (r_nil ?_)
     refine q_next (fun a ha => ?_)
     cases hb2
     exact ⟨rfl, ha.cut (l := [0, 3, 4]) rfl⟩
    ·refine c_lit 12 rfl hb4 ?_
     refine c_false rfl (c_skip ?_)
     refine q_next (fun a ha => ?_)
     cases hb2
     exact ⟨rfl, ha.cut (l := [0, 3, 4]) rfl⟩
  ·refine c_lit 8 rfl hb1 ?_
   refine c_false rfl (c_exit (q_then_exit (q_then_exit ?_)))
   refine fun a ha => hk1 s2 a _ hm ?_
   exact ⟨_, hF1, hx1.pick [] (by decide) rfl, ha.cut (l := [3]) rfl⟩
end Go.Proofs.YtpihabofmnnbbaaGreatDoor.M

