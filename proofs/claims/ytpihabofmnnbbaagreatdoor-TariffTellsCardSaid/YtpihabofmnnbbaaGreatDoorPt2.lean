/- Several texts in one, for TariffTells.card: what the theorem leans on. -/
import Derived.Test.YtpihabofmnnbbaaGreatDoorRows
import Derived.Test.YtpihabofmnnbbaaGreatDoorPt1
namespace Go.Proofs.YtpihabofmnnbbaaGreatDoor.M
open Go Go.RowKit Rt
def lexer_blank (_n : Nat) (c1 : Int) : Option Bool :=
 (bif c1 == 32 then
  some true
 else
  some (c1 == 9)).bind fun v1 =>
 (bif v1 then
  some true
 else
  some (c1 == 10)).bind fun v2 =>
 some v2
set_option maxHeartbeats 1000000 in
set_option maxRecDepth 1000000 in
theorem lexer_blank_ok (n : Nat) (c1 : Int) (r : Bool) (hm : lexer_blank n c1 = some r) {w : World}  :
  Calls Tryz.prog 77 #[.int .u8 c1] w fun e w' => e = .returned (.bool r) ∧ w' = w := by
 unfold lexer_blank at hm
 refine calls_of 13 Tryz.func77 rfl rfl rfl ?_
 refine c_seq (c_region (r_assign rfl rfl rfl (r_nil (q_then (c_seq (c_region (r_move rfl rfl rfl ?_)))))))
 refine r_bin rfl rfl rfl rfl rfl ?_
 refine r_move rfl rfl rfl ?_
 obtain ⟨v1, hb1, hm⟩ := bind_some hm
 refine r_mid 3 (fun a w' => w = w' ∧ Has 13 a [(0, .int .u8 c1), (8, .bool v1)]) ?_ ?_
 ·rintro a wx1 ⟨rfl, hax1⟩
  refine rw_apply hax1 ?_
  refine r_move rfl rfl rfl ?_
  obtain ⟨v2, hb2, hm⟩ := bind_some hm
  refine r_mid 3 (fun a w' => w = w' ∧ Has 13 a [(12, .bool v2)]) ?_ ?_
  ·rintro a wx2 ⟨rfl, hax2⟩
   refine rw_apply hax2 ?_
   refine r_assign rfl rfl rfl (r_nil (q_then (c_ret ?_)))
   refine b_ret1 rfl rfl ?_
   obtain rfl := Option.some.inj hm
   exact ⟨rfl, rfl⟩
  ·clear hm
   rcases cond_some hb2 with ⟨hb3, hb2⟩ | ⟨hb3, hb2⟩
   ·refine r_lit 9 rfl hb3 ?_
    refine r_off rfl (by decide) rfl (r_off rfl (by decide) rfl (r_pick_true rfl rfl rfl rfl (r_nil ?_)))
    refine q_next (fun a ha => ?_)
    cases hb2
    exact ⟨rfl, ha.cut (l := [12]) rfl⟩
   ·refine r_lit 9 rfl hb3 ?_
    refine r_move rfl rfl rfl ?_
    refine r_bin rfl rfl rfl rfl rfl ?_
    refine r_pick_false rfl rfl rfl rfl (r_nil ?_)
    refine q_next (fun a ha => ?_)
    cases hb2
    exact ⟨rfl, ha.cut (l := [12]) rfl⟩
 ·clear hm
  rcases cond_some hb1 with ⟨hb4, hb1⟩ | ⟨hb4, hb1⟩
  ·refine r_lit 5 rfl hb4 ?_
   refine r_off rfl (by decide) rfl (r_off rfl (by decide) rfl (r_pick_true rfl rfl rfl rfl (r_nil ?_)))
   refine q_next (fun a ha => ?_)
   cases hb1
   exact ⟨rfl, ha.cut (l := [0, 8]) rfl⟩
  ·refine r_lit 5 rfl hb4 ?_
   refine r_move rfl rfl rfl ?_
   refine r_bin rfl rfl rfl rfl rfl ?_
   refine r_pick_false rfl rfl rfl rfl (r_nil ?_)
   refine q_next (fun a ha => ?_)
   cases hb1
   exact ⟨rfl, ha.cut (l := [0, 8]) rfl⟩
def lexer_letter (_n : Nat) (c1 : Int) : Option Bool :=
 (bif decide (97 ≤ c1) then
  some (decide (c1 ≤ 122))
 else
  some false).bind fun v1 =>
 (bif v1 then
  some true
 else
  (bif decide (65 ≤ c1) then
   some (decide (c1 ≤ 90))
  else
   some false).bind fun v3 =>
  some v3).bind fun v2 =>
 some v2
set_option maxHeartbeats 1000000 in
set_option maxRecDepth 1000000 in
theorem lexer_letter_ok (n : Nat) (c1 : Int) (r : Bool) (hm : lexer_letter n c1 = some r) {w : World}  :
  Calls Tryz.prog 78 #[.int .u8 c1] w fun e w' => e = .returned (.bool r) ∧ w' = w := by
 unfold lexer_letter at hm
 refine calls_of 17 Tryz.func78 rfl rfl rfl ?_
 refine c_seq (c_region (r_assign rfl rfl rfl (r_nil (q_then (c_seq (c_region (r_move rfl rfl rfl ?_)))))))
 refine r_bin rfl rfl rfl rfl rfl ?_
 refine r_move rfl rfl rfl ?_
 obtain ⟨v1, hb1, hm⟩ := bind_some hm
 refine r_mid 3 (fun a w' => w = w' ∧ Has 17 a [(0, .int .u8 c1), (8, .bool v1)]) ?_ ?_
 ·rintro a wx1 ⟨rfl, hax1⟩
  refine rw_apply hax1 ?_
  refine r_move rfl rfl rfl ?_
  obtain ⟨v2, hb2, hm⟩ := bind_some hm
  refine r_mid 7 (fun a w' => w = w' ∧ Has 17 a [(16, .bool v2)]) ?_ ?_
  ·rintro a wx2 ⟨rfl, hax2⟩
   refine rw_apply hax2 ?_
   refine r_assign rfl rfl rfl (r_nil (q_then (c_ret ?_)))
   refine b_ret1 rfl rfl ?_
   obtain rfl := Option.some.inj hm
   exact ⟨rfl, rfl⟩
  ·clear hm
   rcases cond_some hb2 with ⟨hb3, hb2⟩ | ⟨hb3, hb2⟩
   ·refine r_lit 9 rfl hb3 ?_
    refine r_off rfl (by decide) rfl (r_off rfl (by decide) rfl (r_off rfl (by decide) rfl (r_off rfl (by decide) rfl (r_off rfl (by decide) rfl (r_off rfl (by decide) rfl (r_pick_true rfl rfl rfl rfl (r_nil ?_)))))))
    refine q_next (fun a ha => ?_)
    cases hb2
    exact ⟨rfl, ha.cut (l := [16]) rfl⟩
   ·refine r_lit 9 rfl hb3 ?_
    refine r_move rfl rfl rfl ?_
    refine r_bin rfl rfl rfl rfl rfl ?_
    refine r_move rfl rfl rfl ?_
    obtain ⟨v3, hb4, hb2⟩ := bind_some hb2
    refine r_mid 3 (fun a w' => w = w' ∧ Has 17 a [(9, .bool false), (15, .bool v3)]) ?_ ?_
    ·rintro a wx3 ⟨rfl, hax3⟩
     refine rw_apply hax3 ?_
     refine r_pick_false rfl rfl rfl rfl (r_nil ?_)
     refine q_next (fun a ha => ?_)
     cases hb2
     exact ⟨rfl, ha.cut (l := [16]) rfl⟩
    ·clear hb2
     rcases cond_some hb4 with ⟨hb5, hb4⟩ | ⟨hb5, hb4⟩
     ·refine r_lit 12 rfl hb5 ?_
      refine r_move rfl rfl rfl ?_
      refine r_bin rfl rfl rfl rfl rfl ?_
      refine r_pick_true rfl rfl rfl rfl (r_nil ?_)
      refine q_next (fun a ha => ?_)
      cases hb4
      exact ⟨rfl, ha.cut (l := [9, 15]) rfl⟩
     ·refine r_lit 12 rfl hb5 ?_
      refine r_off rfl (by decide) rfl (r_off rfl (by decide) rfl (r_pick_false rfl rfl rfl rfl (r_nil ?_)))
      refine q_next (fun a ha => ?_)
      cases hb4
      exact ⟨rfl, ha.cut (l := [9, 15]) rfl⟩
 ·clear hm
  rcases cond_some hb1 with ⟨hb6, hb1⟩ | ⟨hb6, hb1⟩
  ·refine r_lit 5 rfl hb6 ?_
   refine r_move rfl rfl rfl ?_
   refine r_bin rfl rfl rfl rfl rfl ?_
   refine r_pick_true rfl rfl rfl rfl (r_nil ?_)
   refine q_next (fun a ha => ?_)
   cases hb1
   exact ⟨rfl, ha.cut (l := [0, 8]) rfl⟩
  ·refine r_lit 5 rfl hb6 ?_
   refine r_off rfl (by decide) rfl (r_off rfl (by decide) rfl (r_pick_false rfl rfl rfl rfl (r_nil ?_)))
   refine q_next (fun a ha => ?_)
   cases hb1
   exact ⟨rfl, ha.cut (l := [0, 8]) rfl⟩
def lexer_digit (_n : Nat) (c1 : Int) : Option Bool :=
 (bif decide (48 ≤ c1) then
  some (decide (c1 ≤ 57))
 else
  some false).bind fun v1 =>
 some v1
set_option maxHeartbeats 1000000 in
set_option maxRecDepth 1000000 in
theorem lexer_digit_ok (n : Nat) (c1 : Int) (r : Bool) (hm : lexer_digit n c1 = some r) {w : World}  :
  Calls Tryz.prog 80 #[.int .u8 c1] w fun e w' => e = .returned (.bool r) ∧ w' = w := by
 unfold lexer_digit at hm
 refine calls_of 9 Tryz.func80 rfl rfl rfl ?_
 refine c_seq (c_region (r_assign rfl rfl rfl (r_nil (q_then (c_seq (c_region (r_move rfl rfl rfl ?_)))))))
 refine r_bin rfl rfl rfl rfl rfl ?_
 refine r_move rfl rfl rfl ?_
 obtain ⟨v1, hb1, hm⟩ := bind_some hm
 refine r_mid 3 (fun a w' => w = w' ∧ Has 9 a [(8, .bool v1)]) ?_ ?_
 ·rintro a wx1 ⟨rfl, hax1⟩
  refine rw_apply hax1 ?_
  refine r_assign rfl rfl rfl (r_nil (q_then (c_ret ?_)))
  refine b_ret1 rfl rfl ?_
  obtain rfl := Option.some.inj hm
  exact ⟨rfl, rfl⟩
 ·clear hm
  rcases cond_some hb1 with ⟨hb2, hb1⟩ | ⟨hb2, hb1⟩
  ·refine r_lit 5 rfl hb2 ?_
   refine r_move rfl rfl rfl ?_
   refine r_bin rfl rfl rfl rfl rfl ?_
   refine r_pick_true rfl rfl rfl rfl (r_nil ?_)
   refine q_next (fun a ha => ?_)
   cases hb1
   exact ⟨rfl, ha.cut (l := [8]) rfl⟩
  ·refine r_lit 5 rfl hb2 ?_
   refine r_off rfl (by decide) rfl (r_off rfl (by decide) rfl (r_pick_false rfl rfl rfl rfl (r_nil ?_)))
   refine q_next (fun a ha => ?_)
   cases hb1
   exact ⟨rfl, ha.cut (l := [8]) rfl⟩
theorem ent78 : Ent Tryz.prog 78 := fun _ _ => by kernel_rfl
theorem ent80 : Ent Tryz.prog 80 := fun _ _ => by kernel_rfl
def lexer_inner (n : Nat) (c1 : Int) : Option Bool :=
 (lexer_letter n c1).bind fun v1 =>
 (bif v1 then
  some true
 else
  (lexer_digit n c1).bind fun v4 =>
  some v4).bind fun v2 =>
 (bif v2 then
  some true
 else
  some (c1 == 95)).bind fun v3 =>
 some v3
set_option maxHeartbeats 1000000 in
set_option maxRecDepth 1000000 in
theorem lexer_inner_ok (n : Nat) (c1 : Int) (r : Bool) (hm : lexer_inner n c1 = some r) {w : World}  :
  Calls Tryz.prog 79 #[.int .u8 c1] w fun e w' => e = .returned (.bool r) ∧ w' = w := by
 unfold lexer_inner at hm
 refine calls_of 13 Tryz.func79 rfl rfl rfl ?_
 refine c_seq (c_region (r_assign rfl rfl rfl (r_nil (q_then (c_seq (c_region (r_move rfl rfl rfl ?_)))))))
 obtain ⟨v1, hv1, hm⟩ := bind_some hm
 refine r_callP0 ent78 rfl rfl rfl rfl (lexer_letter_ok _ _ _ hv1) ?_
 refine r_move rfl rfl rfl ?_
 obtain ⟨v2, hb1, hm⟩ := bind_some hm
 refine r_mid 3 (fun a w' => w = w' ∧ Has 13 a [(0, .int .u8 c1), (8, .bool v2)]) ?_ ?_
 ·rintro a wx1 ⟨rfl, hax1⟩
  refine rw_apply hax1 ?_
  refine r_move rfl rfl rfl ?_
  obtain ⟨v3, hb2, hm⟩ := bind_some hm
  refine r_mid 3 (fun a w' => w = w' ∧ Has 13 a [(12, .bool v3)]) ?_ ?_
  ·rintro a wx2 ⟨rfl, hax2⟩
   refine rw_apply hax2 ?_
   refine r_assign rfl rfl rfl (r_nil (q_then (c_ret ?_)))
   refine b_ret1 rfl rfl ?_
   obtain rfl := Option.some.inj hm
   exact ⟨rfl, rfl⟩
  ·clear hm
   rcases cond_some hb2 with ⟨hb3, hb2⟩ | ⟨hb3, hb2⟩
   ·refine r_lit 9 rfl hb3 ?_
    refine r_off rfl (by decide) rfl (r_off rfl (by decide) rfl (r_pick_true rfl rfl rfl rfl (r_nil ?_)))
    refine q_next (fun a ha => ?_)
    cases hb2
    exact ⟨rfl, ha.cut (l := [12]) rfl⟩
   ·refine r_lit 9 rfl hb3 ?_
    refine r_move rfl rfl rfl ?_
    refine r_bin rfl rfl rfl rfl rfl ?_
    refine r_pick_false rfl rfl rfl rfl (r_nil ?_)
    refine q_next (fun a ha => ?_)
    cases hb2
    exact ⟨rfl, ha.cut (l := [12]) rfl⟩
 ·clear hm
  rcases cond_some hb1 with ⟨hb4, hb1⟩ | ⟨hb4, hb1⟩
  ·refine r_lit 5 rfl hb4 ?_
   refine r_off rfl (by decide) rfl (r_off rfl (by decide) rfl (r_pick_true rfl rfl rfl rfl (r_nil ?_)))
   refine q_next (fun a ha => ?_)
   cases hb1
   exact ⟨rfl, ha.cut (l := [0, 8]) rfl⟩
  ·refine r_lit 5 rfl hb4 ?_
   refine r_move rfl rfl rfl ?_
   obtain ⟨v4, hv2, hb1⟩ := bind_some hb1
   refine r_callP0 ent80 rfl rfl rfl rfl (lexer_digit_ok _ _ _ hv2) ?_
   refine r_pick_false rfl rfl rfl rfl (r_nil ?_)
   refine q_next (fun a ha => ?_)
   cases hb1
   exact ⟨rfl, ha.cut (l := [0, 8]) rfl⟩
def lexer_plain (_n : Nat) (c1 : Int) : Option Bool :=
 (bif decide (32 ≤ c1) then
  some (decide (c1 ≤ 126))
 else
  some false).bind fun v1 =>
 some v1
set_option maxHeartbeats 1000000 in
set_option maxRecDepth 1000000 in
theorem lexer_plain_ok (n : Nat) (c1 : Int) (r : Bool) (hm : lexer_plain n c1 = some r) {w : World}  :
  Calls Tryz.prog 99 #[.int .u8 c1] w fun e w' => e = .returned (.bool r) ∧ w' = w := by
 unfold lexer_plain at hm
 refine calls_of 9 Tryz.func99 rfl rfl rfl ?_
 refine c_seq (c_region (r_assign rfl rfl rfl (r_nil (q_then (c_seq (c_region (r_move rfl rfl rfl ?_)))))))
 refine r_bin rfl rfl rfl rfl rfl ?_
 refine r_move rfl rfl rfl ?_
 obtain ⟨v1, hb1, hm⟩ := bind_some hm
 refine r_mid 3 (fun a w' => w = w' ∧ Has 9 a [(8, .bool v1)]) ?_ ?_
 ·rintro a wx1 ⟨rfl, hax1⟩
  refine rw_apply hax1 ?_
  refine r_assign rfl rfl rfl (r_nil (q_then (c_ret ?_)))
  refine b_ret1 rfl rfl ?_
  obtain rfl := Option.some.inj hm
  exact ⟨rfl, rfl⟩
 ·clear hm
  rcases cond_some hb1 with ⟨hb2, hb1⟩ | ⟨hb2, hb1⟩
  ·refine r_lit 5 rfl hb2 ?_
   refine r_move rfl rfl rfl ?_
   refine r_bin rfl rfl rfl rfl rfl ?_
   refine r_pick_true rfl rfl rfl rfl (r_nil ?_)
   refine q_next (fun a ha => ?_)
   cases hb1
   exact ⟨rfl, ha.cut (l := [8]) rfl⟩
  ·refine r_lit 5 rfl hb2 ?_
   refine r_off rfl (by decide) rfl (r_off rfl (by decide) rfl (r_pick_false rfl rfl rfl rfl (r_nil ?_)))
   refine q_next (fun a ha => ?_)
   cases hb1
   exact ⟨rfl, ha.cut (l := [8]) rfl⟩
theorem u9 : Tryz.prog.underlying 9 = some .string := by kernel_rfl
def lexer_span_L1 (n : Nat) (s1 : Bs) (isx1 : (Int → Option Bool)) (kont1 : Int → Option Int) : Nat → Int → Option Int
 | 0, _ => none
 | mx1 + 1, nx1 =>
  (bif decide (nx1 < (s1.length : Int)) then
   (sidx s1 nx1).bind fun c1 =>
   (isx1 c1).bind fun v2 =>
   some v2
  else
   some false).bind fun v1 =>
  bif v1 then
   lexer_span_L1 n s1 isx1 kont1 mx1 (iadd .i64 nx1 1)
  else
   kont1 nx1
theorem lexer_span_L1_s (n : Nat) (s1 : Bs) (isx1 : (Int → Option Bool)) (kont1 : Int → Option Int) (mx1 : Nat) (nx1 : Int) : lexer_span_L1 n s1 isx1 kont1 (mx1 + 1) nx1 =
  (bif decide (nx1 < (s1.length : Int)) then
   (sidx s1 nx1).bind fun c1 =>
   (isx1 c1).bind fun v2 =>
   some v2
  else
   some false).bind fun v1 =>
  bif v1 then
   lexer_span_L1 n s1 isx1 kont1 mx1 (iadd .i64 nx1 1)
  else
   kont1 nx1 := rfl
def lexer_span (n : Nat) (s1 : Bs) (isx1 : (Int → Option Bool)) : Option Int :=
 lexer_span_L1 n s1 isx1 (fun (nx2 : Int) =>
  some nx2) n 0
set_option maxHeartbeats 1000000 in
set_option maxRecDepth 1000000 in
theorem lexer_span_ok (n : Nat) (s1 : Bs) (isx1 : (Int → Option Bool)) (r : Int) (hm : lexer_span n s1 isx1 = some r) {w : World} {fvisx1 : Value} (hpfisx1 : PFn Tryz.prog fvisx1 (fun l v => ∃ (q0 : Int) (b : Bool), l = [.int .u8 q0] ∧ v = some (.bool b) ∧ isx1 q0 = some b)) :
  Calls Tryz.prog 76 #[vs s1, fvisx1] w fun e w' => e = .returned (.int .i64 r) ∧ w' = w := by
 unfold lexer_span at hm
 refine calls_of 20 Tryz.func76 rfl rfl rfl ?_
 refine c_seq (c_region (r_assign rfl rfl rfl (r_nil (q_then (c_seq (c_region (r_assign rfl rfl rfl (r_nil (q_then (c_seq (c_block ?_)))))))))))
 intro a hax4
 obtain ⟨kont1, hkont1⟩ : ∃ kont1 : Int → Option Int, kont1 = (fun (nx2 : Int) =>
       some nx2) := ⟨_, rfl⟩
 replace hm : (fun m (s : Int) => lexer_span_L1 n s1 isx1 kont1 m s) n 0 = some r := by rw [hkont1]; exact hm
 refine loopX (id := 0) (fun m (s : Int) => lexer_span_L1 n s1 isx1 kont1 m s) (fun (y : Int) => kont1 y) r (fun (s : Int) a w' => w = w' ∧ Has 20 a [(0, vs s1), (1, fvisx1), (5, .int .i64 s)]) (fun (y : Int) a w' => w = w' ∧ Has 20 a [(5, .int .i64 y)]) (fun _ => rfl) ?_ ?_ hm ⟨rfl, hax4.cut (l := [0, 1, 5]) rfl⟩
 ·clear hm; rintro nx2 a wx1 hm ⟨rfl, hax1⟩
  rw [hkont1] at hm
  replace hm := hm
  refine qw_apply (e := .exit 0) hax1 ?_
  refine q_block_hit (q_then (c_seq (c_region (r_move rfl rfl rfl (r_assign rfl rfl rfl (r_nil (q_then (c_ret ?_))))))))
  refine b_ret1 rfl rfl ?_
  obtain rfl := Option.some.inj hm
  exact ⟨rfl, rfl⟩
 ·clear hm hkont1; intro hk1 mx1 K ihx1
  rintro nx1 a wx2 hm ⟨rfl, hax2⟩
  simp only [lexer_span_L1_s] at hm
  refine cw_apply hax2 ?_
  refine c_seq (c_seq (c_region (r_move rfl rfl rfl (r_move rfl rfl rfl ?_))))
  refine r_slen u9 rfl rfl rfl ?_
  refine r_bin rfl rfl rfl rfl rfl ?_
  refine r_move rfl rfl rfl ?_
  obtain ⟨v1, hb1, hm⟩ := bind_some hm
  refine r_mid 6 (fun a w' => w = w' ∧ Has 20 a [(0, vs s1), (1, fvisx1), (5, .int .i64 nx1), (16, .bool v1)]) ?_ ?_
  ·rintro a wx3 ⟨rfl, hax3⟩
   refine rw_apply hax3 ?_
   refine r_nil (q_then ?_)
   rcases cond_some hm with ⟨hb2, hm⟩ | ⟨hb2, hm⟩
   ·refine c_lit 16 rfl hb2 ?_
    refine c_true rfl (c_skip (q_then (c_block (c_region (r_move rfl rfl rfl ?_)))))
    refine r_bin rfl rfl rfl rfl rfl ?_
    refine r_assign rfl rfl rfl (r_nil (q_block ?_))
    refine q_next (fun a ha => ihx1 (iadd .i64 nx1 1) a _ hm ?_)
    exact ⟨rfl, ha.cut (l := [0, 1, 5]) rfl⟩
   ·refine c_lit 16 rfl hb2 ?_
    refine c_false rfl (c_exit (q_then_exit (q_then_exit ?_)))
    refine fun a ha => hk1 nx1 a _ hm ?_
    exact ⟨rfl, ha.cut (l := [5]) rfl⟩
  ·clear hm
   rcases cond_some hb1 with ⟨hb3, hb1⟩ | ⟨hb3, hb1⟩
   ·refine r_lit 10 rfl hb3 ?_
    refine r_move rfl rfl rfl (r_move rfl rfl rfl (r_move rfl rfl rfl ?_))
    obtain ⟨c1, hc1, hb1⟩ := bind_some hb1
    refine r_sidx u9 rfl rfl rfl rfl hc1 ?_
    obtain ⟨v2, hv1, hb1⟩ := bind_some hb1
    refine r_callF hpfisx1 rfl rfl rfl rfl ⟨_, _, rfl, rfl, hv1⟩ ?_
    refine r_pick_true rfl rfl rfl rfl (r_nil ?_)
    refine q_next (fun a ha => ?_)
    cases hb1
    exact ⟨rfl, ha.cut (l := [0, 1, 5, 16]) rfl⟩
   ·refine r_lit 10 rfl hb3 ?_
    refine r_off rfl (by decide) rfl (r_off rfl (by decide) rfl (r_off rfl (by decide) rfl (r_off rfl (by decide) rfl (r_off rfl (by decide) rfl (r_pick_false rfl rfl rfl rfl (r_nil ?_))))))
    refine q_next (fun a ha => ?_)
    cases hb1
    exact ⟨rfl, ha.cut (l := [0, 1, 5, 16]) rfl⟩
theorem ent79 : Ent Tryz.prog 79 := fun _ _ => by kernel_rfl
theorem pf79 : ∀ n, PFn Tryz.prog (.func (.func 79) #[] #[]) (fun l v => ∃ (q0 : Int) (b : Bool), l = [.int .u8 q0] ∧ v = some (.bool b) ∧ lexer_inner n q0 = some b) := fun n => ⟨79, #[], #[], rfl, ent79, by
 rintro args v w ⟨q0, b, rfl, hv, hb⟩
 obtain rfl := Option.some.inj hv
 exact lexer_inner_ok n _ _ hb⟩
theorem ent76 : Ent Tryz.prog 76 := fun _ _ => by kernel_rfl
def lexer_Name (n : Nat) (s1 : Bs) : Option Bool :=
 (bif !(s1 == []) then
  (sidx s1 0).bind fun c1 =>
  (lexer_letter n c1).bind fun v5 =>
  some v5
 else
  some false).bind fun v1 =>
 (bif v1 then
  some (decide ((s1.length : Int) ≤ 20))
 else
  some false).bind fun v2 =>
 (bif v2 then
  (lexer_span n s1 (lexer_inner n)).bind fun v4 =>
  some (v4 == (s1.length : Int))
 else
  some false).bind fun v3 =>
 some v3
set_option maxHeartbeats 1000000 in
set_option maxRecDepth 1000000 in
theorem lexer_Name_ok (n : Nat) (s1 : Bs) (r : Bool) (hm : lexer_Name n s1 = some r) {w : World}  :
  Calls Tryz.prog 61 #[vs s1] w fun e w' => e = .returned (.bool r) ∧ w' = w := by
 unfold lexer_Name at hm
 refine calls_of 22 Tryz.func61 rfl rfl rfl ?_
 refine c_seq (c_region (r_assign rfl rfl rfl (r_nil (q_then (c_seq (c_region (r_move rfl rfl rfl ?_)))))))
 refine r_str rfl rfl rfl rfl rfl ?_
 refine r_move rfl rfl rfl ?_
 obtain ⟨v1, hb1, hm⟩ := bind_some hm
 refine r_mid 4 (fun a w' => w = w' ∧ Has 22 a [(0, vs s1), (9, .bool v1)]) ?_ ?_
 ·rintro a wx1 ⟨rfl, hax1⟩
  refine rw_apply hax1 ?_
  refine r_move rfl rfl rfl ?_
  obtain ⟨v2, hb2, hm⟩ := bind_some hm
  refine r_mid 4 (fun a w' => w = w' ∧ Has 22 a [(0, vs s1), (14, .bool v2)]) ?_ ?_
  ·rintro a wx2 ⟨rfl, hax2⟩
   refine rw_apply hax2 ?_
   refine r_move rfl rfl rfl ?_
   obtain ⟨v3, hb3, hm⟩ := bind_some hm
   refine r_mid 6 (fun a w' => w = w' ∧ Has 22 a [(21, .bool v3)]) ?_ ?_
   ·rintro a wx3 ⟨rfl, hax3⟩
    refine rw_apply hax3 ?_
    refine r_assign rfl rfl rfl (r_nil (q_then (c_ret ?_)))
    refine b_ret1 rfl rfl ?_
    obtain rfl := Option.some.inj hm
    exact ⟨rfl, rfl⟩
   ·clear hm
    rcases cond_some hb3 with ⟨hb4, hb3⟩ | ⟨hb4, hb3⟩
    ·refine r_lit 15 rfl hb4 ?_
     refine r_move rfl rfl rfl ?_
     obtain ⟨v4, hv1, hb3⟩ := bind_some hb3
     refine r_callP0 ent76 rfl rfl rfl rfl (lexer_span_ok _ _ _ _ hv1 (pf79 _)) ?_
     refine r_move rfl rfl rfl ?_
     refine r_slen u9 rfl rfl rfl ?_
     refine r_bin rfl rfl rfl rfl rfl ?_
     refine r_pick_true rfl rfl rfl rfl (r_nil ?_)
     refine q_next (fun a ha => ?_)
     cases hb3
     exact ⟨rfl, ha.cut (l := [21]) rfl⟩
    ·refine r_lit 15 rfl hb4 ?_
     refine r_off rfl (by decide) rfl (r_off rfl (by decide) rfl (r_off rfl (by decide) rfl (r_off rfl (by decide) rfl (r_off rfl (by decide) rfl (r_pick_false rfl rfl rfl rfl (r_nil ?_))))))
     refine q_next (fun a ha => ?_)
     cases hb3
     exact ⟨rfl, ha.cut (l := [21]) rfl⟩
  ·clear hm
   rcases cond_some hb2 with ⟨hb5, hb2⟩ | ⟨hb5, hb2⟩
   ·refine r_lit 10 rfl hb5 ?_
    refine r_move rfl rfl rfl ?_
    refine r_slen u9 rfl rfl rfl ?_
    refine r_bin rfl rfl rfl rfl rfl ?_
    refine r_pick_true rfl rfl rfl rfl (r_nil ?_)
    refine q_next (fun a ha => ?_)
    cases hb2
    exact ⟨rfl, ha.cut (l := [0, 14]) rfl⟩
   ·refine r_lit 10 rfl hb5 ?_
    refine r_off rfl (by decide) rfl (r_off rfl (by decide) rfl (r_off rfl (by decide) rfl (r_pick_false rfl rfl rfl rfl (r_nil ?_))))
    refine q_next (fun a ha => ?_)
    cases hb2
    exact ⟨rfl, ha.cut (l := [0, 14]) rfl⟩
 ·clear hm
  rcases cond_some hb1 with ⟨hb6, hb1⟩ | ⟨hb6, hb1⟩
  ·refine r_lit 5 rfl hb6 ?_
   refine r_move rfl rfl rfl ?_
   obtain ⟨c1, hc1, hb1⟩ := bind_some hb1
   refine r_sidx u9 rfl rfl rfl rfl hc1 ?_
   obtain ⟨v5, hv2, hb1⟩ := bind_some hb1
   refine r_callP0 ent78 rfl rfl rfl rfl (lexer_letter_ok _ _ _ hv2) ?_
   refine r_pick_true rfl rfl rfl rfl (r_nil ?_)
   refine q_next (fun a ha => ?_)
   cases hb1
   exact ⟨rfl, ha.cut (l := [0, 9]) rfl⟩
  ·refine r_lit 5 rfl hb6 ?_
   refine r_off rfl (by decide) rfl (r_off rfl (by decide) rfl (r_off rfl (by decide) rfl (r_pick_false rfl rfl rfl rfl (r_nil ?_))))
   refine q_next (fun a ha => ?_)
   cases hb1
   exact ⟨rfl, ha.cut (l := [0, 9]) rfl⟩
theorem u5 : Tryz.prog.underlying 5 = some (.int .u8) := by kernel_rfl
theorem u3 : Tryz.prog.underlying 3 = some (.int .i64) := by kernel_rfl
theorem pf80 : ∀ n, PFn Tryz.prog (.func (.func 80) #[] #[]) (fun l v => ∃ (q0 : Int) (b : Bool), l = [.int .u8 q0] ∧ v = some (.bool b) ∧ lexer_digit n q0 = some b) := fun n => ⟨80, #[], #[], rfl, ent80, by
 rintro args v w ⟨q0, b, rfl, hv, hb⟩
 obtain rfl := Option.some.inj hv
 exact lexer_digit_ok n _ _ hb⟩
def lexer_Number_L1 (n : Nat) (s1 : Bs) (kont1 : Int → Option (Int × Bool)) : Nat → Int → Int → Option (Int × Bool)
 | 0, _, _ => none
 | mx1 + 1, nx1, i1 =>
  bif decide (i1 < (s1.length : Int)) then
   (sidx s1 i1).bind fun c1 =>
   lexer_Number_L1 n s1 kont1 mx1 (iadd .i64 (imul .i64 10 nx1) (IntKind.i64.wrap (isub .u8 c1 48))) (iadd .i64 i1 1)
  else
   kont1 nx1
theorem lexer_Number_L1_s (n : Nat) (s1 : Bs) (kont1 : Int → Option (Int × Bool)) (mx1 : Nat) (nx1 : Int) (i1 : Int) : lexer_Number_L1 n s1 kont1 (mx1 + 1) nx1 i1 =
  bif decide (i1 < (s1.length : Int)) then
   (sidx s1 i1).bind fun c1 =>
   lexer_Number_L1 n s1 kont1 mx1 (iadd .i64 (imul .i64 10 nx1) (IntKind.i64.wrap (isub .u8 c1 48))) (iadd .i64 i1 1)
  else
   kont1 nx1 := rfl
def lexer_Number (n : Nat) (s1 : Bs) : Option (Int × Bool) :=
 (bif s1 == [] then
  some true
 else
  (lexer_span n s1 (lexer_digit n)).bind fun v5 =>
  some (v5 != (s1.length : Int))).bind fun v1 =>
 (bif v1 then
  some true
 else
  (sidx s1 0).bind fun c2 =>
  (bif c2 == 48 then
   some (!(s1 == [48]))
  else
   some false).bind fun v4 =>
  some v4).bind fun v2 =>
 (bif v2 then
  some true
 else
  some (decide (13 < (s1.length : Int)))).bind fun v3 =>
 bif v3 then
  some (0, false)
 else
  lexer_Number_L1 n s1 (fun (nx2 : Int) =>
   bif decide (1099511627776 < nx2) then
    some (0, false)
   else
    some (nx2, true)) n 0 0
set_option maxHeartbeats 1000000 in
set_option maxRecDepth 1000000 in
theorem lexer_Number_ok (n : Nat) (s1 : Bs) (r : (Int × Bool)) (hm : lexer_Number n s1 = some r) {w : World}  :
  Calls Tryz.prog 81 #[vs s1] w fun e w' => e = .returned (.tuple #[.int .i64 r.1, .bool r.2]) ∧ w' = w := by
 unfold lexer_Number at hm
 refine calls_of 46 Tryz.func81 rfl rfl rfl ?_
 refine c_seq (c_region (r_assign rfl rfl rfl (r_assign rfl rfl rfl (r_nil (q_then (c_seq (c_seq (c_region (r_move rfl rfl rfl ?_)))))))))
 refine r_str rfl rfl rfl rfl rfl ?_
 refine r_move rfl rfl rfl ?_
 obtain ⟨v1, hb1, hm⟩ := bind_some hm
 refine r_mid 6 (fun a w' => w = w' ∧ Has 46 a [(0, vs s1), (14, .bool v1)]) ?_ ?_
 ·rintro a wx1 ⟨rfl, hax1⟩
  refine rw_apply hax1 ?_
  refine r_move rfl rfl rfl ?_
  obtain ⟨v2, hb2, hm⟩ := bind_some hm
  refine r_mid 8 (fun a w' => w = w' ∧ Has 46 a [(0, vs s1), (23, .bool v2)]) ?_ ?_
  ·rintro a wx2 ⟨rfl, hax2⟩
   refine rw_apply hax2 ?_
   refine r_move rfl rfl rfl ?_
   obtain ⟨v3, hb3, hm⟩ := bind_some hm
   refine r_mid 4 (fun a w' => w = w' ∧ Has 46 a [(0, vs s1), (28, .bool v3)]) ?_ ?_
   ·rintro a wx3 ⟨rfl, hax3⟩
    refine rw_apply hax3 ?_
    refine r_nil (q_then ?_)
    rcases cond_some hm with ⟨hb4, hm⟩ | ⟨hb4, hm⟩
    ·refine c_lit 28 rfl hb4 ?_
     refine c_true rfl (c_seq (c_region (r_assign rfl rfl rfl (r_assign rfl rfl rfl (r_nil (q_then (c_ret (q_then_ret ?_))))))))
     refine b_retA (vl := [.int .i64 0, .bool false]) rfl ⟨v_tmp rfl, v_tmp rfl, trivial⟩ (by simp) ?_
     obtain rfl := Option.some.inj hm
     exact ⟨rfl, rfl⟩
    ·refine c_lit 28 rfl hb4 ?_
     refine c_false rfl (c_skip (q_then (c_seq (c_region (r_assign rfl rfl rfl (r_nil (q_then (c_seq (c_seq (c_region (r_move rfl rfl rfl ?_)))))))))))
     refine r_slen u9 rfl rfl rfl ?_
     refine r_move rfl rfl rfl (r_nil (q_then (c_block ?_)))
     intro a hax6
     obtain ⟨kont1, hkont1⟩ : ∃ kont1 : Int → Option (Int × Bool), kont1 = (fun (nx2 : Int) =>
       bif decide (1099511627776 < nx2) then
        some (0, false)
       else
        some (nx2, true)) := ⟨_, rfl⟩
     replace hm : (fun m (s : Int × Int) => lexer_Number_L1 n s1 kont1 m s.1 s.2) n (0, 0) = some r := by rw [hkont1]; exact hm
     refine loopX (id := 0) (fun m (s : Int × Int) => lexer_Number_L1 n s1 kont1 m s.1 s.2) (fun (y : Int) => kont1 y) r (fun (s : Int × Int) a w' => w = w' ∧ Has 46 a [(0, vs s1), (4, .int .i64 s.1), (30, .int .i64 (s1.length : Int)), (31, .int .i64 s.2)]) (fun (y : Int) a w' => w = w' ∧ Has 46 a [(4, .int .i64 y)]) (fun _ => rfl) ?_ ?_ hm ⟨rfl, hax6.cut (l := [0, 4, 30, 31]) rfl⟩
     ·clear hm; rintro nx2 a wx4 hm ⟨rfl, hax4⟩
      rw [hkont1] at hm
      replace hm := hm
      refine qw_apply (e := .exit 0) hax4 ?_
      refine q_block_hit (q_then (c_seq (c_seq (c_region (r_move rfl rfl rfl ?_)))))
      refine r_bin rfl rfl rfl rfl rfl ?_
      refine r_nil (q_then ?_)
      rcases cond_some hm with ⟨hb5, hm⟩ | ⟨hb5, hm⟩
      ·refine c_lit 44 rfl hb5 ?_
       refine c_true rfl (c_seq (c_region (r_assign rfl rfl rfl (r_assign rfl rfl rfl (r_nil (q_then (c_ret (q_then_ret ?_))))))))
       refine b_retA (vl := [.int .i64 0, .bool false]) rfl ⟨v_tmp rfl, v_tmp rfl, trivial⟩ (by simp) ?_
       obtain rfl := Option.some.inj hm
       exact ⟨rfl, rfl⟩
      ·refine c_lit 44 rfl hb5 ?_
       refine c_false rfl (c_skip (q_then (c_seq (c_region (r_move rfl rfl rfl (r_assign rfl rfl rfl (r_assign rfl rfl rfl (r_nil (q_then (c_ret ?_))))))))))
       refine b_retA (vl := [.int .i64 nx2, .bool true]) rfl ⟨v_tmp rfl, v_tmp rfl, trivial⟩ (by simp) ?_
       obtain rfl := Option.some.inj hm
       exact ⟨rfl, rfl⟩
     ·clear hm hkont1; intro hk1 mx1 K ihx1
      rintro ⟨nx1, i1⟩ a wx5 hm ⟨rfl, hax5⟩
      simp only [lexer_Number_L1_s] at hm
      refine cw_apply hax5 ?_
      refine c_seq (c_region ?_)
      refine r_bin rfl rfl rfl rfl rfl ?_
      refine r_nil (q_then (c_seq ?_))
      rcases cond_some hm with ⟨hb6, hm⟩ | ⟨hb6, hm⟩
      ·refine c_lit 32 rfl hb6 ?_
       refine c_true rfl (c_skip (q_then (c_seq (c_block (c_seq (c_region (r_move rfl rfl rfl (r_assign rfl rfl rfl (r_nil (q_then (c_region (r_move rfl rfl rfl ?_))))))))))))
       refine r_bin rfl rfl rfl rfl rfl ?_
       refine r_move rfl rfl rfl (r_move rfl rfl rfl ?_)
       obtain ⟨c1, hc1, hm⟩ := bind_some hm
       refine r_sidx u9 rfl rfl rfl rfl hc1 ?_
       refine r_bin rfl rfl rfl rfl rfl ?_
       refine r_conv u5 u3 rfl rfl rfl ?_
       refine r_bin rfl rfl rfl rfl rfl ?_
       refine r_assign rfl rfl rfl (r_nil (q_block (q_then (c_region ?_))))
       refine r_bin rfl rfl rfl rfl rfl ?_
       refine r_move rfl rfl rfl (r_nil ?_)
       refine q_next (fun a ha => ihx1 ((iadd .i64 (imul .i64 10 nx1) (IntKind.i64.wrap (isub .u8 c1 48))), (iadd .i64 i1 1)) a _ hm ?_)
       exact ⟨rfl, ha.cut (l := [0, 4, 30, 31]) rfl⟩
      ·refine c_lit 32 rfl hb6 ?_
       refine c_false rfl (c_exit (q_then_exit (q_then_exit ?_)))
       refine fun a ha => hk1 nx1 a _ hm ?_
       exact ⟨rfl, ha.cut (l := [4]) rfl⟩
   ·clear hm
    rcases cond_some hb3 with ⟨hb7, hb3⟩ | ⟨hb7, hb3⟩
    ·refine r_lit 24 rfl hb7 ?_
     refine r_off rfl (by decide) rfl (r_off rfl (by decide) rfl (r_off rfl (by decide) rfl (r_pick_true rfl rfl rfl rfl (r_nil ?_))))
     refine q_next (fun a ha => ?_)
     cases hb3
     exact ⟨rfl, ha.cut (l := [0, 28]) rfl⟩
    ·refine r_lit 24 rfl hb7 ?_
     refine r_move rfl rfl rfl ?_
     refine r_slen u9 rfl rfl rfl ?_
     refine r_bin rfl rfl rfl rfl rfl ?_
     refine r_pick_false rfl rfl rfl rfl (r_nil ?_)
     refine q_next (fun a ha => ?_)
     cases hb3
     exact ⟨rfl, ha.cut (l := [0, 28]) rfl⟩
  ·clear hm
   rcases cond_some hb2 with ⟨hb8, hb2⟩ | ⟨hb8, hb2⟩
   ·refine r_lit 15 rfl hb8 ?_
    refine r_off rfl (by decide) rfl (r_off rfl (by decide) rfl (r_off rfl (by decide) rfl (r_off rfl (by decide) rfl (r_off rfl (by decide) rfl (r_off rfl (by decide) rfl (r_off rfl (by decide) rfl (r_pick_true rfl rfl rfl rfl (r_nil ?_))))))))
    refine q_next (fun a ha => ?_)
    cases hb2
    exact ⟨rfl, ha.cut (l := [0, 23]) rfl⟩
   ·refine r_lit 15 rfl hb8 ?_
    refine r_move rfl rfl rfl ?_
    obtain ⟨c2, hc2, hb2⟩ := bind_some hb2
    refine r_sidx u9 rfl rfl rfl rfl hc2 ?_
    refine r_bin rfl rfl rfl rfl rfl ?_
    refine r_move rfl rfl rfl ?_
    obtain ⟨v4, hb9, hb2⟩ := bind_some hb2
    refine r_mid 3 (fun a w' => w = w' ∧ Has 46 a [(0, vs s1), (15, .bool false), (22, .bool v4)]) ?_ ?_
    ·rintro a wx6 ⟨rfl, hax7⟩
     refine rw_apply hax7 ?_
     refine r_pick_false rfl rfl rfl rfl (r_nil ?_)
     refine q_next (fun a ha => ?_)
     cases hb2
     exact ⟨rfl, ha.cut (l := [0, 23]) rfl⟩
    ·clear hb2
     rcases cond_some hb9 with ⟨hb10, hb9⟩ | ⟨hb10, hb9⟩
     ·refine r_lit 19 rfl hb10 ?_
      refine r_move rfl rfl rfl ?_
      refine r_str rfl rfl rfl rfl rfl ?_
      refine r_pick_true rfl rfl rfl rfl (r_nil ?_)
      refine q_next (fun a ha => ?_)
      cases hb9
      exact ⟨rfl, ha.cut (l := [0, 15, 22]) rfl⟩
     ·refine r_lit 19 rfl hb10 ?_
      refine r_off rfl (by decide) rfl (r_off rfl (by decide) rfl (r_pick_false rfl rfl rfl rfl (r_nil ?_)))
      refine q_next (fun a ha => ?_)
      cases hb9
      exact ⟨rfl, ha.cut (l := [0, 15, 22]) rfl⟩
 ·clear hm
  rcases cond_some hb1 with ⟨hb11, hb1⟩ | ⟨hb11, hb1⟩
  ·refine r_lit 8 rfl hb11 ?_
   refine r_off rfl (by decide) rfl (r_off rfl (by decide) rfl (r_off rfl (by decide) rfl (r_off rfl (by decide) rfl (r_off rfl (by decide) rfl (r_pick_true rfl rfl rfl rfl (r_nil ?_))))))
   refine q_next (fun a ha => ?_)
   cases hb1
   exact ⟨rfl, ha.cut (l := [0, 14]) rfl⟩
  ·refine r_lit 8 rfl hb11 ?_
   refine r_move rfl rfl rfl ?_
   obtain ⟨v5, hv1, hb1⟩ := bind_some hb1
   refine r_callP0 ent76 rfl rfl rfl rfl (lexer_span_ok _ _ _ _ hv1 (pf80 _)) ?_
   refine r_move rfl rfl rfl ?_
   refine r_slen u9 rfl rfl rfl ?_
   refine r_bin rfl rfl rfl rfl rfl ?_
   refine r_pick_false rfl rfl rfl rfl (r_nil ?_)
   refine q_next (fun a ha => ?_)
   cases hb1
   exact ⟨rfl, ha.cut (l := [0, 14]) rfl⟩
theorem ent77 : Ent Tryz.prog 77 := fun _ _ => by kernel_rfl
theorem pf77 : ∀ n, PFn Tryz.prog (.func (.func 77) #[] #[]) (fun l v => ∃ (q0 : Int) (b : Bool), l = [.int .u8 q0] ∧ v = some (.bool b) ∧ lexer_blank n q0 = some b) := fun n => ⟨77, #[], #[], rfl, ent77, by
 rintro args v w ⟨q0, b, rfl, hv, hb⟩
 obtain rfl := Option.some.inj hv
 exact lexer_blank_ok n _ _ hb⟩
def lexer_gap_L2 (n : Nat) (s1 : Bs) (kont2 : Int → Option Int) : Nat → Int → Option Int
 | 0, _ => none
 | mx2 + 1, nx3 =>
  (bif decide (nx3 < (s1.length : Int)) then
   (sidx s1 nx3).bind fun c1 =>
   some (c1 != 10)
  else
   some false).bind fun v4 =>
  bif v4 then
   lexer_gap_L2 n s1 kont2 mx2 (iadd .i64 nx3 1)
  else
   kont2 nx3
theorem lexer_gap_L2_s (n : Nat) (s1 : Bs) (kont2 : Int → Option Int) (mx2 : Nat) (nx3 : Int) : lexer_gap_L2 n s1 kont2 (mx2 + 1) nx3 =
  (bif decide (nx3 < (s1.length : Int)) then
   (sidx s1 nx3).bind fun c1 =>
   some (c1 != 10)
  else
   some false).bind fun v4 =>
  bif v4 then
   lexer_gap_L2 n s1 kont2 mx2 (iadd .i64 nx3 1)
  else
   kont2 nx3 := rfl
def lexer_gap_L1 (n : Nat) (s1 : Bs) (kont1 : Int → Option Int) : Nat → Int → Option Int
 | 0, _ => none
 | mx1 + 1, nx1 =>
  (bif decide (nx1 < (s1.length : Int)) then
   (sidx s1 nx1).bind fun c2 =>
   some (c2 == 35)
  else
   some false).bind fun v2 =>
  bif v2 then
   lexer_gap_L2 n s1 (fun (nx4 : Int) =>
    (ssl s1 nx4 s1.length).bind fun t1 =>
    (lexer_span n t1 (lexer_blank n)).bind fun v3 =>
    lexer_gap_L1 n s1 kont1 mx1 (iadd .i64 nx4 v3)) n nx1
  else
   kont1 nx1
theorem lexer_gap_L1_s (n : Nat) (s1 : Bs) (kont1 : Int → Option Int) (mx1 : Nat) (nx1 : Int) : lexer_gap_L1 n s1 kont1 (mx1 + 1) nx1 =
  (bif decide (nx1 < (s1.length : Int)) then
   (sidx s1 nx1).bind fun c2 =>
   some (c2 == 35)
  else
   some false).bind fun v2 =>
  bif v2 then
   lexer_gap_L2 n s1 (fun (nx4 : Int) =>
    (ssl s1 nx4 s1.length).bind fun t1 =>
    (lexer_span n t1 (lexer_blank n)).bind fun v3 =>
    lexer_gap_L1 n s1 kont1 mx1 (iadd .i64 nx4 v3)) n nx1
  else
   kont1 nx1 := rfl
def lexer_gap (n : Nat) (s1 : Bs) : Option Int :=
 (lexer_span n s1 (lexer_blank n)).bind fun v1 =>
 lexer_gap_L1 n s1 (fun (nx2 : Int) =>
  some nx2) n v1
set_option maxHeartbeats 1000000 in
set_option maxRecDepth 1000000 in
theorem lexer_gap_ok (n : Nat) (s1 : Bs) (r : Int) (hm : lexer_gap n s1 = some r) {w : World}  :
  Calls Tryz.prog 52 #[vs s1] w fun e w' => e = .returned (.int .i64 r) ∧ w' = w := by
 unfold lexer_gap at hm
 refine calls_of 35 Tryz.func52 rfl rfl rfl ?_
 refine c_seq (c_region (r_assign rfl rfl rfl (r_nil (q_then (c_seq (c_region (r_move rfl rfl rfl ?_)))))))
 obtain ⟨v1, hv1, hm⟩ := bind_some hm
 refine r_callP0 ent76 rfl rfl rfl rfl (lexer_span_ok _ _ _ _ hv1 (pf77 _)) ?_
 refine r_assign rfl rfl rfl (r_nil (q_then (c_seq (c_block ?_))))
 intro a hax8
 obtain ⟨kont1, hkont1⟩ : ∃ kont1 : Int → Option Int, kont1 = (fun (nx2 : Int) =>
       some nx2) := ⟨_, rfl⟩
 replace hm : (fun m (s : Int) => lexer_gap_L1 n s1 kont1 m s) n v1 = some r := by rw [hkont1]; exact hm
 refine loopX (id := 0) (fun m (s : Int) => lexer_gap_L1 n s1 kont1 m s) (fun (y : Int) => kont1 y) r (fun (s : Int) a w' => w = w' ∧ Has 35 a [(0, vs s1), (3, .int .i64 s)]) (fun (y : Int) a w' => w = w' ∧ Has 35 a [(3, .int .i64 y)]) (fun _ => rfl) ?_ ?_ hm ⟨rfl, hax8.cut (l := [0, 3]) rfl⟩
 ·clear hm; rintro nx2 a wx1 hm ⟨rfl, hax1⟩
  rw [hkont1] at hm
  replace hm := hm
  refine qw_apply (e := .exit 0) hax1 ?_
  refine q_block_hit (q_then (c_seq (c_region (r_move rfl rfl rfl (r_assign rfl rfl rfl (r_nil (q_then (c_ret ?_))))))))
  refine b_ret1 rfl rfl ?_
  obtain rfl := Option.some.inj hm
  exact ⟨rfl, rfl⟩
 ·clear hm hkont1; intro hk1 mx1 K ihx1
  rintro nx1 a wx2 hm ⟨rfl, hax2⟩
  simp only [lexer_gap_L1_s] at hm
  refine cw_apply hax2 ?_
  refine c_seq (c_seq (c_region (r_move rfl rfl rfl (r_move rfl rfl rfl ?_))))
  refine r_slen u9 rfl rfl rfl ?_
  refine r_bin rfl rfl rfl rfl rfl ?_
  refine r_move rfl rfl rfl ?_
  obtain ⟨v2, hb1, hm⟩ := bind_some hm
  refine r_mid 5 (fun a w' => w = w' ∧ Has 35 a [(0, vs s1), (3, .int .i64 nx1), (15, .bool v2)]) ?_ ?_
  ·rintro a wx3 ⟨rfl, hax3⟩
   refine rw_apply hax3 ?_
   refine r_nil (q_then ?_)
   rcases cond_some hm with ⟨hb2, hm⟩ | ⟨hb2, hm⟩
   ·refine c_lit 15 rfl hb2 ?_
    refine c_true rfl (c_skip (q_then (c_block (c_seq (c_block ?_)))))
    intro a hax7
    obtain ⟨kont2, hkont2⟩ : ∃ kont2 : Int → Option Int, kont2 = (fun (nx4 : Int) =>
       (ssl s1 nx4 s1.length).bind fun t1 =>
       (lexer_span n t1 (lexer_blank n)).bind fun v3 =>
       lexer_gap_L1 n s1 kont1 mx1 (iadd .i64 nx4 v3)) := ⟨_, rfl⟩
    replace hm : (fun m (s : Int) => lexer_gap_L2 n s1 kont2 m s) n nx1 = some r := by rw [hkont2]; exact hm
    refine loopX (id := 2) (fun m (s : Int) => lexer_gap_L2 n s1 kont2 m s) (fun (y : Int) => kont2 y) r (fun (s : Int) a w' => w = w' ∧ Has 35 a [(0, vs s1), (3, .int .i64 s)]) (fun (y : Int) a w' => w = w' ∧ Has 35 a [(0, vs s1), (3, .int .i64 y)]) (fun _ => rfl) ?_ ?_ hm ⟨rfl, hax7.cut (l := [0, 3]) rfl⟩
    ·clear hm; rintro nx4 a wx4 hm ⟨rfl, hax4⟩
     rw [hkont2] at hm
     replace hm := hm
     refine qw_apply (e := .exit 2) hax4 ?_
     refine q_block_hit (q_then (c_region (r_move rfl rfl rfl (r_move rfl rfl rfl (r_move rfl rfl rfl ?_)))))
     obtain ⟨t1, hc1, hm⟩ := bind_some hm
     refine r_ssl_l u9 rfl rfl rfl rfl hc1 ?_
     obtain ⟨v3, hv2, hm⟩ := bind_some hm
     refine r_callP0 ent76 rfl rfl rfl rfl (lexer_span_ok _ _ _ _ hv2 (pf77 _)) ?_
     refine r_bin rfl rfl rfl rfl rfl ?_
     refine r_assign rfl rfl rfl (r_nil (q_block ?_))
     refine q_next (fun a ha => ihx1 (iadd .i64 nx4 v3) a _ hm ?_)
     exact ⟨rfl, ha.cut (l := [0, 3]) rfl⟩
    ·clear hm hkont2; intro hk2 mx2 K ihx2
     rintro nx3 a wx5 hm ⟨rfl, hax5⟩
     simp only [lexer_gap_L2_s] at hm
     refine cw_apply hax5 ?_
     refine c_seq (c_seq (c_region (r_move rfl rfl rfl (r_move rfl rfl rfl ?_))))
     refine r_slen u9 rfl rfl rfl ?_
     refine r_bin rfl rfl rfl rfl rfl ?_
     refine r_move rfl rfl rfl ?_
     obtain ⟨v4, hb3, hm⟩ := bind_some hm
     refine r_mid 5 (fun a w' => w = w' ∧ Has 35 a [(0, vs s1), (3, .int .i64 nx3), (25, .bool v4)]) ?_ ?_
     ·rintro a wx6 ⟨rfl, hax6⟩
      refine rw_apply hax6 ?_
      refine r_nil (q_then ?_)
      rcases cond_some hm with ⟨hb4, hm⟩ | ⟨hb4, hm⟩
      ·refine c_lit 25 rfl hb4 ?_
       refine c_true rfl (c_skip (q_then (c_block (c_region (r_move rfl rfl rfl ?_)))))
       refine r_bin rfl rfl rfl rfl rfl ?_
       refine r_assign rfl rfl rfl (r_nil (q_block ?_))
       refine q_next (fun a ha => ihx2 (iadd .i64 nx3 1) a _ hm ?_)
       exact ⟨rfl, ha.cut (l := [0, 3]) rfl⟩
      ·refine c_lit 25 rfl hb4 ?_
       refine c_false rfl (c_exit (q_then_exit (q_then_exit ?_)))
       refine fun a ha => hk2 nx3 a _ hm ?_
       exact ⟨rfl, ha.cut (l := [0, 3]) rfl⟩
     ·clear hm
      rcases cond_some hb3 with ⟨hb5, hb3⟩ | ⟨hb5, hb3⟩
      ·refine r_lit 20 rfl hb5 ?_
       refine r_move rfl rfl rfl (r_move rfl rfl rfl ?_)
       obtain ⟨c1, hc2, hb3⟩ := bind_some hb3
       refine r_sidx u9 rfl rfl rfl rfl hc2 ?_
       refine r_bin rfl rfl rfl rfl rfl ?_
       refine r_pick_true rfl rfl rfl rfl (r_nil ?_)
       refine q_next (fun a ha => ?_)
       cases hb3
       exact ⟨rfl, ha.cut (l := [0, 3, 25]) rfl⟩
      ·refine r_lit 20 rfl hb5 ?_
       refine r_off rfl (by decide) rfl (r_off rfl (by decide) rfl (r_off rfl (by decide) rfl (r_off rfl (by decide) rfl (r_pick_false rfl rfl rfl rfl (r_nil ?_)))))
       refine q_next (fun a ha => ?_)
       cases hb3
       exact ⟨rfl, ha.cut (l := [0, 3, 25]) rfl⟩
   ·refine c_lit 15 rfl hb2 ?_
    refine c_false rfl (c_exit (q_then_exit (q_then_exit ?_)))
    refine fun a ha => hk1 nx1 a _ hm ?_
    exact ⟨rfl, ha.cut (l := [3]) rfl⟩
  ·clear hm
   rcases cond_some hb1 with ⟨hb6, hb1⟩ | ⟨hb6, hb1⟩
   ·refine r_lit 10 rfl hb6 ?_
    refine r_move rfl rfl rfl (r_move rfl rfl rfl ?_)
    obtain ⟨c2, hc3, hb1⟩ := bind_some hb1
    refine r_sidx u9 rfl rfl rfl rfl hc3 ?_
    refine r_bin rfl rfl rfl rfl rfl ?_
    refine r_pick_true rfl rfl rfl rfl (r_nil ?_)
    refine q_next (fun a ha => ?_)
    cases hb1
    exact ⟨rfl, ha.cut (l := [0, 3, 15]) rfl⟩
   ·refine r_lit 10 rfl hb6 ?_
    refine r_off rfl (by decide) rfl (r_off rfl (by decide) rfl (r_off rfl (by decide) rfl (r_off rfl (by decide) rfl (r_pick_false rfl rfl rfl rfl (r_nil ?_)))))
    refine q_next (fun a ha => ?_)
    cases hb1
    exact ⟨rfl, ha.cut (l := [0, 3, 15]) rfl⟩
theorem u103 : Tryz.prog.underlying 103 = some (.slice 5) := by kernel_rfl
theorem ap103 : AppIs Tryz.prog 103 5 1 1 := AppIs.of (z := .int .u8 0) (by kernel_rfl) (by kernel_rfl) rfl (by decide) (by decide)
theorem ent99 : Ent Tryz.prog 99 := fun _ _ => by kernel_rfl
def lexer_quoted_L1 (n : Nat) (s1 : Bs) (kont1 : Int → (List Int) → Option (Bs × Int)) : Nat → Int → (List Int) → Option (Bs × Int)
 | 0, _, _ => none
 | mx1 + 1, nx1, l1 =>
  (bif decide ((s1.length : Int) ≤ nx1) then
   some true
  else
   (sidx s1 nx1).bind fun c7 =>
   (lexer_plain n c7).bind fun v4 =>
   some (!v4)).bind fun v1 =>
  bif v1 then
   some ([], 0)
  else
   (sidx s1 nx1).bind fun c1 =>
   bif c1 == 34 then
    kont1 nx1 l1
   else
    (sidx s1 nx1).bind fun c2 =>
    bif c2 == 92 then
     (bif decide ((s1.length : Int) ≤ (iadd .i64 nx1 1)) then
      some true
     else
      (sidx s1 (iadd .i64 nx1 1)).bind fun c4 =>
      (bif c4 != 34 then
       (sidx s1 (iadd .i64 nx1 1)).bind fun c5 =>
       some (c5 != 92)
      else
       some false).bind fun v3 =>
      some v3).bind fun v2 =>
     bif v2 then
      some ([], 0)
     else
      (sidx s1 (iadd .i64 nx1 1)).bind fun c3 =>
      (app 1 l1 [c3]).bind fun l3 =>
      lexer_quoted_L1 n s1 kont1 mx1 (iadd .i64 (iadd .i64 nx1 1) 1) l3
    else
     (sidx s1 nx1).bind fun c6 =>
     (app 1 l1 [c6]).bind fun l4 =>
     lexer_quoted_L1 n s1 kont1 mx1 (iadd .i64 nx1 1) l4
theorem lexer_quoted_L1_s (n : Nat) (s1 : Bs) (kont1 : Int → (List Int) → Option (Bs × Int)) (mx1 : Nat) (nx1 : Int) (l1 : List Int) : lexer_quoted_L1 n s1 kont1 (mx1 + 1) nx1 l1 =
  (bif decide ((s1.length : Int) ≤ nx1) then
   some true
  else
   (sidx s1 nx1).bind fun c7 =>
   (lexer_plain n c7).bind fun v4 =>
   some (!v4)).bind fun v1 =>
  bif v1 then
   some ([], 0)
  else
   (sidx s1 nx1).bind fun c1 =>
   bif c1 == 34 then
    kont1 nx1 l1
   else
    (sidx s1 nx1).bind fun c2 =>
    bif c2 == 92 then
     (bif decide ((s1.length : Int) ≤ (iadd .i64 nx1 1)) then
      some true
     else
      (sidx s1 (iadd .i64 nx1 1)).bind fun c4 =>
      (bif c4 != 34 then
       (sidx s1 (iadd .i64 nx1 1)).bind fun c5 =>
       some (c5 != 92)
      else
       some false).bind fun v3 =>
      some v3).bind fun v2 =>
     bif v2 then
      some ([], 0)
     else
      (sidx s1 (iadd .i64 nx1 1)).bind fun c3 =>
      (app 1 l1 [c3]).bind fun l3 =>
      lexer_quoted_L1 n s1 kont1 mx1 (iadd .i64 (iadd .i64 nx1 1) 1) l3
    else
     (sidx s1 nx1).bind fun c6 =>
     (app 1 l1 [c6]).bind fun l4 =>
     lexer_quoted_L1 n s1 kont1 mx1 (iadd .i64 nx1 1) l4 := rfl
def lexer_quoted (n : Nat) (s1 : Bs) : Option (Bs × Int) :=
 lexer_quoted_L1 n s1 (fun (nx2 : Int) (l2 : List Int) =>
  bif decide (400 < (l2.length : Int)) then
   some ([], 0)
  else
   some (strOf l2, iadd .i64 nx2 1)) n 1 ([] : List Int)
set_option maxHeartbeats 1000000 in
set_option maxRecDepth 1000000 in
theorem lexer_quoted_ok (n : Nat) (s1 : Bs) (r : (Bs × Int)) (hm : lexer_quoted n s1 = some r) {w : World} {F : Frz} (hs : Sat F w)  :
  Calls Tryz.prog 82 #[vs s1] w fun e w' => ∃ v F' O', e = .returned v ∧ HS F w [] F' O' w' ∧ (v = .tuple #[vs r.1, .int .i64 r.2] ∧ O' = []) := by
 unfold lexer_quoted at hm
 have h := HS.init hs
 refine calls_of 61 Tryz.func82 rfl rfl rfl ?_
 refine c_seq (c_region (r_assign rfl rfl rfl (r_assign rfl rfl rfl (r_nil (q_then (c_scope (c_seq (c_region (r_assign rfl rfl rfl (r_nil (q_then (c_seq (c_region (r_assign rfl rfl rfl (r_nil (q_then (c_seq (c_label (q_then (c_seq (c_block ?_)))))))))))))))))))))
 have hx1 := h.nilRow 5 1
 intro a hax6
 obtain ⟨kont1, hkont1⟩ : ∃ kont1 : Int → (List Int) → Option (Bs × Int), kont1 = (fun (nx2 : Int) (l2 : List Int) =>
       bif decide (400 < (l2.length : Int)) then
        some ([], 0)
       else
        some (strOf l2, iadd .i64 nx2 1)) := ⟨_, rfl⟩
 replace hm : (fun m (s : Int × List Int) => lexer_quoted_L1 n s1 kont1 m s.1 s.2) n (1, ([] : List Int)) = some r := by rw [hkont1]; exact hm
 refine loopX (id := 0) (fun m (s : Int × List Int) => lexer_quoted_L1 n s1 kont1 m s.1 s.2) (fun (y : Int × List Int) => kont1 y.1 y.2) r (fun (s : Int × List Int) a w' => ∃ (Fx1 : Frz) (as2 : Option Addr) (ns2 : Nat) (cs2 : Nat) (xss2 : List Value), Frz.le F Fx1 ∧ HS F w [] Fx1 [.row 5 1 as2 ns2 cs2 xss2] w' ∧ (RowN (Rp.int .u8) Fx1 ns2 xss2 s.2) ∧ Has 61 a [(0, vs s1), (4, .slice as2 ns2 cs2), (5, .int .i64 s.1)]) (fun (y : Int × List Int) a w' => ∃ (Fx2 : Frz) (as3 : Option Addr) (ns3 : Nat) (cs3 : Nat) (xss3 : List Value), Frz.le F Fx2 ∧ HS F w [] Fx2 [.row 5 1 as3 ns3 cs3 xss3] w' ∧ (RowN (Rp.int .u8) Fx2 ns3 xss3 y.2) ∧ Has 61 a [(4, .slice as3 ns3 cs3), (5, .int .i64 y.1)]) (fun _ => rfl) ?_ ?_ hm ⟨_, none, 0, 0, [], Frz.refl _, hx1.pick [0] (by decide) rfl, ((show RowN (Rp.int .u8) _ 0 [] [] from ⟨rfl, rfl⟩)), hax6.cut (l := [0, 4, 5]) rfl⟩
 ·clear hm; rintro ⟨nx2, l2⟩ a wx1 hm ⟨Fx2, as3, ns3, cs3, xss3, hF2, hx3, hs3, hax1⟩
  rw [hkont1] at hm
  replace hm := hm
  refine qw_apply (e := .exit 0) hax1 ?_
  refine q_block_hit (q_then (c_seq (c_seq (c_region (r_move rfl rfl rfl ?_)))))
  refine r_lenS hs3.len u103 rfl rfl rfl ?_
  refine r_bin rfl rfl rfl rfl rfl ?_
  refine r_nil (q_then ?_)
  rcases cond_some hm with ⟨hb1, hm⟩ | ⟨hb1, hm⟩
  ·refine c_lit 56 rfl hb1 ?_
   refine c_true rfl (c_seq (c_region (r_assign rfl rfl rfl (r_assign rfl rfl rfl (r_nil (q_then (c_ret (q_then_ret (q_scope_ret ?_)))))))))
   refine b_retA (vl := [vs [], .int .i64 0]) rfl ⟨v_tmp rfl, v_tmp rfl, trivial⟩ (by simp) ?_
   obtain rfl := Option.some.inj hm
   exact ⟨_, _, _, rfl, hx3.pick [] (by decide) rfl, rfl, rfl⟩
  ·refine c_lit 56 rfl hb1 ?_
   refine c_false rfl (c_skip (q_then (c_seq (c_region (r_move rfl rfl rfl ?_)))))
   refine r_strOf u103 u5 u9 rfl rfl hx3 rfl (i := 0) rfl (rowInt hs3.2) ?_
   refine r_move rfl rfl rfl ?_
   refine r_bin rfl rfl rfl rfl rfl ?_
   refine r_assign rfl rfl rfl (r_assign rfl rfl rfl (r_nil (q_then (c_ret (q_scope_ret ?_)))))
   refine b_retA (vl := [vs (strOf l2), .int .i64 (iadd .i64 nx2 1)]) rfl ⟨v_tmp rfl, v_tmp rfl, trivial⟩ (by simp) ?_
   obtain rfl := Option.some.inj hm
   exact ⟨_, _, _, rfl, hx3.pick [] (by decide) rfl, rfl, rfl⟩
 ·clear hm hkont1; intro hk1 mx1 K ihx1
  rintro ⟨nx1, l1⟩ a wx2 hm ⟨Fx1, as2, ns2, cs2, xss2, hF1, hx2, hs2, hax2⟩
  simp only [lexer_quoted_L1_s] at hm
  refine cw_apply hax2 ?_
  refine c_block (c_seq (c_block (c_seq (c_region (r_move rfl rfl rfl (r_move rfl rfl rfl ?_))))))
  refine r_slen u9 rfl rfl rfl ?_
  refine r_bin rfl rfl rfl rfl rfl ?_
  refine r_move rfl rfl rfl ?_
  obtain ⟨v1, hb2, hm⟩ := bind_some hm
  refine r_mid 6 (fun a w' => wx2 = w' ∧ Has 61 a [(0, vs s1), (4, .slice as2 ns2 cs2), (5, .int .i64 nx1), (17, .bool v1)]) ?_ ?_
  ·rintro a wx3 ⟨rfl, hax3⟩
   refine rw_apply hax3 ?_
   refine r_assign rfl rfl rfl (r_nil (q_then ?_))
   rcases cond_some hm with ⟨hb3, hm⟩ | ⟨hb3, hm⟩
   ·refine c_lit 6 rfl hb3 ?_
    refine c_true rfl (c_seq (c_region (r_assign rfl rfl rfl (r_assign rfl rfl rfl (r_nil (q_then (c_ret (q_block_ret (q_then_ret (q_block_ret (q_then_ret (q_block_ret (q_then_ret (q_scope_ret ?_))))))))))))))
    refine b_retA (vl := [vs [], .int .i64 0]) rfl ⟨v_tmp rfl, v_tmp rfl, trivial⟩ (by simp) ?_
    obtain rfl := Option.some.inj hm
    exact ⟨_, _, _, rfl, hx2.pick [] (by decide) rfl, rfl, rfl⟩
   ·refine c_lit 6 rfl hb3 ?_
    refine c_false rfl (c_seq (c_region (r_move rfl rfl rfl (r_move rfl rfl rfl ?_))))
    obtain ⟨c1, hc1, hm⟩ := bind_some hm
    refine r_sidx u9 rfl rfl rfl rfl hc1 ?_
    refine r_bin rfl rfl rfl rfl rfl ?_
    refine r_assign rfl rfl rfl (r_nil (q_then ?_))
    rcases cond_some hm with ⟨hb4, hm⟩ | ⟨hb4, hm⟩
    ·refine c_lit 18 rfl hb4 ?_
     refine c_true rfl (c_exit ?_)
     refine q_block_miss (by decide) ?_
     refine q_then_exit ?_
     refine q_block_miss (by decide) ?_
     refine q_then_exit ?_
     refine fun a ha => hk1 (nx1, l1) a _ hm ?_
     exact ⟨_, as2, ns2, cs2, xss2, hF1, hx2.pick [0] (by decide) rfl, hs2, ha.cut (l := [4, 5]) rfl⟩
    ·refine c_lit 18 rfl hb4 ?_
     refine c_false rfl (c_seq (c_region (r_move rfl rfl rfl (r_move rfl rfl rfl ?_))))
     obtain ⟨c2, hc2, hm⟩ := bind_some hm
     refine r_sidx u9 rfl rfl rfl rfl hc2 ?_
     refine r_bin rfl rfl rfl rfl rfl ?_
     refine r_assign rfl rfl rfl (r_nil (q_then ?_))
     rcases cond_some hm with ⟨hb5, hm⟩ | ⟨hb5, hm⟩
     ·refine c_lit 23 rfl hb5 ?_
      refine c_true rfl (c_seq (c_region (r_move rfl rfl rfl ?_)))
      refine r_bin rfl rfl rfl rfl rfl ?_
      refine r_assign rfl rfl rfl (r_nil (q_then (c_seq (c_region (r_move rfl rfl rfl (r_move rfl rfl rfl ?_))))))
      refine r_slen u9 rfl rfl rfl ?_
      refine r_bin rfl rfl rfl rfl rfl ?_
      refine r_move rfl rfl rfl ?_
      obtain ⟨v2, hb6, hm⟩ := bind_some hm
      refine r_mid 11 (fun a w' => wx2 = w' ∧ Has 61 a [(0, vs s1), (4, .slice as2 ns2 cs2), (5, .int .i64 (iadd .i64 nx1 1)), (45, .bool v2)]) ?_ ?_
      ·rintro a wx4 ⟨rfl, hax4⟩
       refine rw_apply hax4 ?_
       refine r_nil (q_then ?_)
       rcases cond_some hm with ⟨hb7, hm⟩ | ⟨hb7, hm⟩
       ·refine c_lit 45 rfl hb7 ?_
        refine c_true rfl (c_seq (c_region (r_assign rfl rfl rfl (r_assign rfl rfl rfl (r_nil (q_then (c_ret (q_block_ret (q_then_ret (q_block_ret (q_then_ret (q_block_ret (q_then_ret (q_scope_ret ?_))))))))))))))
        refine b_retA (vl := [vs [], .int .i64 0]) rfl ⟨v_tmp rfl, v_tmp rfl, trivial⟩ (by simp) ?_
        obtain rfl := Option.some.inj hm
        exact ⟨_, _, _, rfl, hx2.pick [] (by decide) rfl, rfl, rfl⟩
       ·refine c_lit 45 rfl hb7 ?_
        refine c_false rfl (c_skip (q_block (q_then (c_seq (c_region (r_move rfl rfl rfl (r_move rfl rfl rfl (r_move rfl rfl rfl ?_))))))))
        obtain ⟨c3, hc3, hm⟩ := bind_some hm
        refine r_sidx u9 rfl rfl rfl rfl hc3 ?_
        refine r_buildSlice (e := 5) (cs := [.int .u8 c3]) (q := 1) rfl rfl hx2 rfl (fun _ => by kernel_rfl) rfl rfl ?_
        intro b1 wx5 hx4
        obtain ⟨l3, hr1, hm⟩ := bind_some hm
        refine r_appendN (r := (Rp.int .u8)) ap103 rfl rfl hx4 rfl rfl (i := 1) (j := 0) rfl rfl hs2 ((show RowN (Rp.int .u8) Fx1 1 [.int .u8 c3] [c3] from ⟨rfl, ⟨_, _, rfl, rfl, (rfl : RowR (Rp.int .u8) _ [] [])⟩⟩)) hr1 ?_
        intro as4 cs4 wx6 hx5 hs4
        refine r_assign rfl rfl rfl (r_nil (q_then (c_region (r_move rfl rfl rfl ?_))))
        refine r_bin rfl rfl rfl rfl rfl ?_
        refine r_assign rfl rfl rfl (r_nil (q_block ?_))
        refine q_next (fun a ha => ihx1 ((iadd .i64 (iadd .i64 nx1 1) 1), l3) a _ hm ?_)
        exact ⟨_, as4, (ns2 + 1), cs4, (xss2 ++ [.int .u8 c3]), hF1, hx5.pick [1] (by decide) rfl, hs4, ha.cut (l := [0, 4, 5]) rfl⟩
      ·clear hm
       rcases cond_some hb6 with ⟨hb8, hb6⟩ | ⟨hb8, hb6⟩
       ·refine r_lit 34 rfl hb8 ?_
        refine r_off rfl (by decide) rfl (r_off rfl (by decide) rfl (r_off rfl (by decide) rfl (r_off rfl (by decide) rfl (r_off rfl (by decide) rfl (r_off rfl (by decide) rfl (r_off rfl (by decide) rfl (r_off rfl (by decide) rfl (r_off rfl (by decide) rfl (r_off rfl (by decide) rfl (r_pick_true rfl rfl rfl rfl (r_nil ?_)))))))))))
        refine q_next (fun a ha => ?_)
        cases hb6
        exact ⟨rfl, ha.cut (l := [0, 4, 5, 45]) rfl⟩
       ·refine r_lit 34 rfl hb8 ?_
        refine r_move rfl rfl rfl (r_move rfl rfl rfl ?_)
        obtain ⟨c4, hc4, hb6⟩ := bind_some hb6
        refine r_sidx u9 rfl rfl rfl rfl hc4 ?_
        refine r_bin rfl rfl rfl rfl rfl ?_
        refine r_move rfl rfl rfl ?_
        obtain ⟨v3, hb9, hb6⟩ := bind_some hb6
        refine r_mid 5 (fun a w' => wx2 = w' ∧ Has 61 a [(0, vs s1), (4, .slice as2 ns2 cs2), (5, .int .i64 (iadd .i64 nx1 1)), (34, .bool false), (44, .bool v3)]) ?_ ?_
        ·rintro a wx7 ⟨rfl, hax5⟩
         refine rw_apply hax5 ?_
         refine r_pick_false rfl rfl rfl rfl (r_nil ?_)
         refine q_next (fun a ha => ?_)
         cases hb6
         exact ⟨rfl, ha.cut (l := [0, 4, 5, 45]) rfl⟩
        ·clear hb6
         rcases cond_some hb9 with ⟨hb10, hb9⟩ | ⟨hb10, hb9⟩
         ·refine r_lit 39 rfl hb10 ?_
          refine r_move rfl rfl rfl (r_move rfl rfl rfl ?_)
          obtain ⟨c5, hc5, hb9⟩ := bind_some hb9
          refine r_sidx u9 rfl rfl rfl rfl hc5 ?_
          refine r_bin rfl rfl rfl rfl rfl ?_
          refine r_pick_true rfl rfl rfl rfl (r_nil ?_)
          refine q_next (fun a ha => ?_)
          cases hb9
          exact ⟨rfl, ha.cut (l := [0, 4, 5, 34, 44]) rfl⟩
         ·refine r_lit 39 rfl hb10 ?_
          refine r_off rfl (by decide) rfl (r_off rfl (by decide) rfl (r_off rfl (by decide) rfl (r_off rfl (by decide) rfl (r_pick_false rfl rfl rfl rfl (r_nil ?_)))))
          refine q_next (fun a ha => ?_)
          cases hb9
          exact ⟨rfl, ha.cut (l := [0, 4, 5, 34, 44]) rfl⟩
     ·refine c_lit 23 rfl hb5 ?_
      refine c_false rfl (c_skip (q_block (q_then (c_seq (c_region (r_move rfl rfl rfl (r_move rfl rfl rfl (r_move rfl rfl rfl ?_))))))))
      obtain ⟨c6, hc6, hm⟩ := bind_some hm
      refine r_sidx u9 rfl rfl rfl rfl hc6 ?_
      refine r_buildSlice (e := 5) (cs := [.int .u8 c6]) (q := 1) rfl rfl hx2 rfl (fun _ => by kernel_rfl) rfl rfl ?_
      intro b2 wx8 hx6
      obtain ⟨l4, hr2, hm⟩ := bind_some hm
      refine r_appendN (r := (Rp.int .u8)) ap103 rfl rfl hx6 rfl rfl (i := 1) (j := 0) rfl rfl hs2 ((show RowN (Rp.int .u8) Fx1 1 [.int .u8 c6] [c6] from ⟨rfl, ⟨_, _, rfl, rfl, (rfl : RowR (Rp.int .u8) _ [] [])⟩⟩)) hr2 ?_
      intro as5 cs5 wx9 hx7 hs5
      refine r_assign rfl rfl rfl (r_nil (q_then (c_region (r_move rfl rfl rfl ?_))))
      refine r_bin rfl rfl rfl rfl rfl ?_
      refine r_assign rfl rfl rfl (r_nil (q_block ?_))
      refine q_next (fun a ha => ihx1 ((iadd .i64 nx1 1), l4) a _ hm ?_)
      exact ⟨_, as5, (ns2 + 1), cs5, (xss2 ++ [.int .u8 c6]), hF1, hx7.pick [1] (by decide) rfl, hs5, ha.cut (l := [0, 4, 5]) rfl⟩
  ·clear hm
   rcases cond_some hb2 with ⟨hb11, hb2⟩ | ⟨hb11, hb2⟩
   ·refine r_lit 11 rfl hb11 ?_
    refine r_off rfl (by decide) rfl (r_off rfl (by decide) rfl (r_off rfl (by decide) rfl (r_off rfl (by decide) rfl (r_off rfl (by decide) rfl (r_pick_true rfl rfl rfl rfl (r_nil ?_))))))
    refine q_next (fun a ha => ?_)
    cases hb2
    exact ⟨rfl, ha.cut (l := [0, 4, 5, 17]) rfl⟩
   ·refine r_lit 11 rfl hb11 ?_
    refine r_move rfl rfl rfl (r_move rfl rfl rfl ?_)
    obtain ⟨c7, hc7, hb2⟩ := bind_some hb2
    refine r_sidx u9 rfl rfl rfl rfl hc7 ?_
    obtain ⟨v4, hv1, hb2⟩ := bind_some hb2
    refine r_callP0 ent99 rfl rfl rfl rfl (lexer_plain_ok _ _ _ hv1) ?_
    refine r_not rfl rfl rfl (r_pick_false rfl rfl rfl rfl (r_nil ?_))
    refine q_next (fun a ha => ?_)
    cases hb2
    exact ⟨rfl, ha.cut (l := [0, 4, 5, 17]) rfl⟩
structure Token where
 Kind : Int
 Text : Bs
 N : Int
 Pos : Int
 deriving DecidableEq, Inhabited
def rp_Token : Rp Token where
 k := 4
 R := fun _ cs x => cs = [.int .i64 x.Kind, vs x.Text, .int .i64 x.N, .int .i64 x.Pos]
 len := by intros; simp_all
 mono := fun _ h => h
 one := by intro F cs x h u hu; subst h; simp at hu; rcases hu with rfl | rfl | rfl | rfl <;> rfl
theorem ze53 : ZeroIs Tryz.prog 53 (.agg #[.int .i64 0, vs [], .int .i64 0, .int .i64 0]) := fun _ => by kernel_rfl
theorem ent61 : Ent Tryz.prog 61 := fun _ _ => by kernel_rfl
theorem sz53 : SizeIs Tryz.prog 53 4 := fun _ => by kernel_rfl
theorem ag53 : IsAgg Tryz.prog 53 true := fun _ => by kernel_rfl
theorem ent81 : Ent Tryz.prog 81 := fun _ _ => by kernel_rfl
theorem ent82 : Ent Tryz.prog 82 := fun _ _ => by kernel_rfl
theorem ag93 : IsAgg Tryz.prog 93 true := fun _ => by kernel_rfl
theorem sz93 : SizeIs Tryz.prog 93 13 := fun _ => by kernel_rfl
theorem u93 : Tryz.prog.underlying 93 = some (.array 13 5) := by kernel_rfl
theorem ag5 : IsAgg Tryz.prog 5 false := fun _ => by kernel_rfl
theorem sz5 : SizeIs Tryz.prog 5 1 := fun _ => by kernel_rfl
def lexer_next_L1 (n : Nat) (s1 : Bs) (kont1 : Option (Token × Int × Int)) : Nat → Int → Option (Token × Int × Int)
 | 0, _ => none
 | mx1 + 1, i1 =>
  bif decide (i1 < 13) then
   (ix [40, 41, 44, 59, 58, 61, 60, 43, 45, 42, 47, 123, 125] i1).bind fun c4 =>
   (sidx s1 0).bind fun c5 =>
   bif c5 == c4 then
    (ssl s1 0 1).bind fun t3 =>
    some ((⟨3, t3, 0, 0⟩ : Token), 1, 0)
   else
    lexer_next_L1 n s1 kont1 mx1 (iadd .i64 i1 1)
  else
   kont1
theorem lexer_next_L1_s (n : Nat) (s1 : Bs) (kont1 : Option (Token × Int × Int)) (mx1 : Nat) (i1 : Int) : lexer_next_L1 n s1 kont1 (mx1 + 1) i1 =
  bif decide (i1 < 13) then
   (ix [40, 41, 44, 59, 58, 61, 60, 43, 45, 42, 47, 123, 125] i1).bind fun c4 =>
   (sidx s1 0).bind fun c5 =>
   bif c5 == c4 then
    (ssl s1 0 1).bind fun t3 =>
    some ((⟨3, t3, 0, 0⟩ : Token), 1, 0)
   else
    lexer_next_L1 n s1 kont1 mx1 (iadd .i64 i1 1)
  else
   kont1 := rfl
def lexer_next (n : Nat) (s1 : Bs) : Option (Token × Int × Int) :=
 (sidx s1 0).bind fun c1 =>
 (lexer_letter n c1).bind fun v1 =>
 bif v1 then
  (lexer_span n s1 (lexer_inner n)).bind fun v2 =>
  (ssl s1 0 v2).bind fun t1 =>
  (lexer_Name n t1).bind fun v3 =>
  bif !v3 then
   some ((⟨0, [], 0, 0⟩ : Token), 0, 3)
  else
   some ((⟨0, t1, 0, 0⟩ : Token), (t1.length : Int), 0)
 else
  (sidx s1 0).bind fun c2 =>
  (lexer_digit n c2).bind fun v4 =>
  bif v4 then
   (lexer_span n s1 (lexer_digit n)).bind fun v5 =>
   (ssl s1 0 v5).bind fun t2 =>
   (lexer_Number n t2).bind fun v6 =>
   bif !v6.2 then
    some ((⟨0, [], 0, 0⟩ : Token), 0, 3)
   else
    some ((⟨1, t2, v6.1, 0⟩ : Token), (t2.length : Int), 0)
  else
   (sidx s1 0).bind fun c3 =>
   bif c3 == 34 then
    (lexer_quoted n s1).bind fun v7 =>
    bif v7.2 == 0 then
     some ((⟨0, [], 0, 0⟩ : Token), 0, 2)
    else
     some ((⟨2, v7.1, 0, 0⟩ : Token), v7.2, 0)
   else
    lexer_next_L1 n s1 (
     some ((⟨0, [], 0, 0⟩ : Token), 0, 10)) n 0
set_option maxHeartbeats 1000000 in
set_option maxRecDepth 1000000 in
theorem lexer_next_ok (n : Nat) (s1 : Bs) (r : (Token × Int × Int)) (hm : lexer_next n s1 = some r) {w : World} {F : Frz} (hs : Sat F w) (hg0 : FX F 0 [.int .u8 40, .int .u8 41, .int .u8 44, .int .u8 59, .int .u8 58, .int .u8 61, .int .u8 60, .int .u8 43, .int .u8 45, .int .u8 42, .int .u8 47, .int .u8 123, .int .u8 125]) :
  Calls Tryz.prog 53 #[vs s1] w fun e w' => ∃ v F' O', e = .returned v ∧ HS F w [] F' O' w' ∧ (v = .tuple #[.agg #[.int .i64 r.1.Kind, vs r.1.Text, .int .i64 r.1.N, .int .i64 r.1.Pos], .int .i64 r.2.1, .int .i64 r.2.2] ∧ O' = []) := by
 unfold lexer_next at hm
 have h := HS.init hs
 refine calls_of 78 Tryz.func53 rfl rfl rfl ?_
 refine c_seq (c_region ?_)
 refine r_alloc ze53 rfl rfl rfl h ?_
 intro b1 wx1 hx1
 refine r_assign rfl rfl rfl (r_assign rfl rfl rfl (r_nil (q_then (c_seq (c_block (c_seq (c_region (r_move rfl rfl rfl ?_))))))))
 obtain ⟨c1, hc1, hm⟩ := bind_some hm
 refine r_sidx u9 rfl rfl rfl rfl hc1 ?_
 obtain ⟨v1, hv1, hm⟩ := bind_some hm
 refine r_callP0 ent78 rfl rfl rfl rfl (lexer_letter_ok _ _ _ hv1) ?_
 refine r_assign rfl rfl rfl (r_nil (q_then ?_))
 rcases cond_some hm with ⟨hb1, hm⟩ | ⟨hb1, hm⟩
 ·refine c_lit 13 rfl hb1 ?_
  refine c_true rfl (c_seq (c_region (r_move rfl rfl rfl (r_move rfl rfl rfl ?_))))
  obtain ⟨v2, hv2, hm⟩ := bind_some hm
  refine r_callP0 ent76 rfl rfl rfl rfl (lexer_span_ok _ _ _ _ hv2 (pf79 _)) ?_
  obtain ⟨t1, hc2, hm⟩ := bind_some hm
  refine r_ssl_h u9 rfl rfl rfl rfl hc2 ?_
  refine r_assign rfl rfl rfl (r_nil (q_then (c_seq (c_seq (c_region (r_move rfl rfl rfl ?_))))))
  obtain ⟨v3, hv3, hm⟩ := bind_some hm
  refine r_callP0 ent61 rfl rfl rfl rfl (lexer_Name_ok _ _ _ hv3) ?_
  refine r_not rfl rfl rfl (r_nil (q_then ?_))
  rcases cond_some hm with ⟨hb2, hm⟩ | ⟨hb2, hm⟩
  ·refine c_lit 23 rfl hb2 ?_
   refine c_true rfl (c_seq (c_region ?_))
   refine r_build (v := .agg #[.int .i64 0, vs [], .int .i64 0, .int .i64 0]) rfl rfl rfl (fun _ => by kernel_rfl) ?_
   refine r_store sz53 rfl hx1 rfl rfl rfl rfl (i := 0) rfl rfl rfl rfl ?_
   intro wx2 hx2
   refine r_assign rfl rfl rfl (r_assign rfl rfl rfl (r_nil (q_then (c_ret (q_then_ret (q_block_ret (q_then_ret ?_)))))))
   refine b_retA (vl := [.agg #[.int .i64 0, vs [], .int .i64 0, .int .i64 0], .int .i64 0, .int .i64 3]) rfl ⟨v_cell ag53 sz53 rfl hx2 rfl (i := 0) rfl, v_tmp rfl, v_tmp rfl, trivial⟩ (by simp) ?_
   obtain rfl := Option.some.inj hm
   exact ⟨_, _, _, rfl, hx2.pick [] (by decide) rfl, rfl, rfl⟩
  ·refine c_lit 23 rfl hb2 ?_
   refine c_false rfl (c_skip (q_then (c_seq (c_region (r_move rfl rfl rfl ?_)))))
   refine r_build (v := .agg #[.int .i64 0, vs t1, .int .i64 0, .int .i64 0]) rfl rfl rfl (fun _ => by kernel_rfl) ?_
   refine r_move rfl rfl rfl ?_
   refine r_slen u9 rfl rfl rfl ?_
   refine r_store sz53 rfl hx1 rfl rfl rfl rfl (i := 0) rfl rfl rfl rfl ?_
   intro wx3 hx3
   refine r_assign rfl rfl rfl (r_assign rfl rfl rfl (r_nil (q_then (c_ret (q_block_ret (q_then_ret ?_))))))
   refine b_retA (vl := [.agg #[.int .i64 0, vs t1, .int .i64 0, .int .i64 0], .int .i64 (t1.length : Int), .int .i64 0]) rfl ⟨v_cell ag53 sz53 rfl hx3 rfl (i := 0) rfl, v_tmp rfl, v_tmp rfl, trivial⟩ (by simp) ?_
   obtain rfl := Option.some.inj hm
   exact ⟨_, _, _, rfl, hx3.pick [] (by decide) rfl, rfl, rfl⟩
 ·refine c_lit 13 rfl hb1 ?_
  refine c_false rfl (c_seq (c_region (r_move rfl rfl rfl ?_)))
  obtain ⟨c2, hc3, hm⟩ := bind_some hm
  refine r_sidx u9 rfl rfl rfl rfl hc3 ?_
  obtain ⟨v4, hv4, hm⟩ := bind_some hm
  refine r_callP0 ent80 rfl rfl rfl rfl (lexer_digit_ok _ _ _ hv4) ?_
  refine r_assign rfl rfl rfl (r_nil (q_then ?_))
  rcases cond_some hm with ⟨hb3, hm⟩ | ⟨hb3, hm⟩
  ·refine c_lit 29 rfl hb3 ?_
   refine c_true rfl (c_seq (c_region (r_move rfl rfl rfl (r_move rfl rfl rfl ?_))))
   obtain ⟨v5, hv5, hm⟩ := bind_some hm
   refine r_callP0 ent76 rfl rfl rfl rfl (lexer_span_ok _ _ _ _ hv5 (pf80 _)) ?_
   obtain ⟨t2, hc4, hm⟩ := bind_some hm
   refine r_ssl_h u9 rfl rfl rfl rfl hc4 ?_
   refine r_assign rfl rfl rfl (r_nil (q_then (c_seq (c_region (r_move rfl rfl rfl ?_)))))
   obtain ⟨v6, hv6, hm⟩ := bind_some hm
   refine r_callP0 ent81 rfl rfl rfl rfl (lexer_Number_ok _ _ _ hv6) ?_
   refine r_move rfl rfl rfl (r_extract rfl rfl rfl rfl (r_extract rfl rfl rfl rfl (r_assign rfl rfl rfl (r_assign rfl rfl rfl (r_nil (q_then (c_seq (c_seq (c_region (r_move rfl rfl rfl (r_not rfl rfl rfl (r_nil (q_then ?_)))))))))))))
   rcases cond_some hm with ⟨hb4, hm⟩ | ⟨hb4, hm⟩
   ·refine c_lit 43 rfl hb4 ?_
    refine c_true rfl (c_seq (c_region ?_))
    refine r_build (v := .agg #[.int .i64 0, vs [], .int .i64 0, .int .i64 0]) rfl rfl rfl (fun _ => by kernel_rfl) ?_
    refine r_store sz53 rfl hx1 rfl rfl rfl rfl (i := 0) rfl rfl rfl rfl ?_
    intro wx4 hx4
    refine r_assign rfl rfl rfl (r_assign rfl rfl rfl (r_nil (q_then (c_ret (q_then_ret (q_block_ret (q_then_ret ?_)))))))
    refine b_retA (vl := [.agg #[.int .i64 0, vs [], .int .i64 0, .int .i64 0], .int .i64 0, .int .i64 3]) rfl ⟨v_cell ag53 sz53 rfl hx4 rfl (i := 0) rfl, v_tmp rfl, v_tmp rfl, trivial⟩ (by simp) ?_
    obtain rfl := Option.some.inj hm
    exact ⟨_, _, _, rfl, hx4.pick [] (by decide) rfl, rfl, rfl⟩
   ·refine c_lit 43 rfl hb4 ?_
    refine c_false rfl (c_skip (q_then (c_seq (c_region (r_move rfl rfl rfl (r_move rfl rfl rfl ?_))))))
    refine r_build (v := .agg #[.int .i64 1, vs t2, .int .i64 v6.1, .int .i64 0]) rfl rfl rfl (fun _ => by kernel_rfl) ?_
    refine r_move rfl rfl rfl ?_
    refine r_slen u9 rfl rfl rfl ?_
    refine r_store sz53 rfl hx1 rfl rfl rfl rfl (i := 0) rfl rfl rfl rfl ?_
    intro wx5 hx5
    refine r_assign rfl rfl rfl (r_assign rfl rfl rfl (r_nil (q_then (c_ret (q_block_ret (q_then_ret ?_))))))
    refine b_retA (vl := [.agg #[.int .i64 1, vs t2, .int .i64 v6.1, .int .i64 0], .int .i64 (t2.length : Int), .int .i64 0]) rfl ⟨v_cell ag53 sz53 rfl hx5 rfl (i := 0) rfl, v_tmp rfl, v_tmp rfl, trivial⟩ (by simp) ?_
    obtain rfl := Option.some.inj hm
    exact ⟨_, _, _, rfl, hx5.pick [] (by decide) rfl, rfl, rfl⟩
  ·refine c_lit 29 rfl hb3 ?_
   refine c_false rfl (c_seq (c_region (r_move rfl rfl rfl ?_)))
   obtain ⟨c3, hc5, hm⟩ := bind_some hm
   refine r_sidx u9 rfl rfl rfl rfl hc5 ?_
   refine r_bin rfl rfl rfl rfl rfl ?_
   refine r_assign rfl rfl rfl (r_nil (q_then ?_))
   rcases cond_some hm with ⟨hb5, hm⟩ | ⟨hb5, hm⟩
   ·refine c_lit 50 rfl hb5 ?_
    refine c_true rfl (c_seq (c_region (r_move rfl rfl rfl ?_)))
    obtain ⟨v7, hv7, hm⟩ := bind_some hm
    refine r_callG0 ent82 rfl rfl rfl rfl hx1 (lexer_quoted_ok _ _ _ hv7 hx1.sat) ?_
    rintro _ Fx1 _ wx6 hF1 hx6 ⟨rfl, rfl⟩
    refine r_move rfl rfl rfl (r_extract rfl rfl rfl rfl (r_extract rfl rfl rfl rfl (r_assign rfl rfl rfl (r_assign rfl rfl rfl (r_nil (q_then (c_seq (c_seq (c_region (r_move rfl rfl rfl ?_))))))))))
    refine r_bin rfl rfl rfl rfl rfl ?_
    refine r_nil (q_then ?_)
    rcases cond_some hm with ⟨hb6, hm⟩ | ⟨hb6, hm⟩
    ·refine c_lit 60 rfl hb6 ?_
     refine c_true rfl (c_seq (c_region ?_))
     refine r_build (v := .agg #[.int .i64 0, vs [], .int .i64 0, .int .i64 0]) rfl rfl rfl (fun _ => by kernel_rfl) ?_
     refine r_store sz53 rfl hx6 rfl rfl rfl rfl (i := 0) rfl rfl rfl rfl ?_
     intro wx7 hx7
     refine r_assign rfl rfl rfl (r_assign rfl rfl rfl (r_nil (q_then (c_ret (q_then_ret (q_block_ret (q_then_ret ?_)))))))
     refine b_retA (vl := [.agg #[.int .i64 0, vs [], .int .i64 0, .int .i64 0], .int .i64 0, .int .i64 2]) rfl ⟨v_cell ag53 sz53 rfl hx7 rfl (i := 0) rfl, v_tmp rfl, v_tmp rfl, trivial⟩ (by simp) ?_
     obtain rfl := Option.some.inj hm
     exact ⟨_, _, _, rfl, hx7.pick [] (by decide) rfl, rfl, rfl⟩
    ·refine c_lit 60 rfl hb6 ?_
     refine c_false rfl (c_skip (q_then (c_seq (c_region (r_move rfl rfl rfl ?_)))))
     refine r_build (v := .agg #[.int .i64 2, vs v7.1, .int .i64 0, .int .i64 0]) rfl rfl rfl (fun _ => by kernel_rfl) ?_
     refine r_move rfl rfl rfl ?_
     refine r_store sz53 rfl hx6 rfl rfl rfl rfl (i := 0) rfl rfl rfl rfl ?_
     intro wx8 hx8
     refine r_assign rfl rfl rfl (r_assign rfl rfl rfl (r_nil (q_then (c_ret (q_block_ret (q_then_ret ?_))))))
     refine b_retA (vl := [.agg #[.int .i64 2, vs v7.1, .int .i64 0, .int .i64 0], .int .i64 v7.2, .int .i64 0]) rfl ⟨v_cell ag53 sz53 rfl hx8 rfl (i := 0) rfl, v_tmp rfl, v_tmp rfl, trivial⟩ (by simp) ?_
     obtain rfl := Option.some.inj hm
     exact ⟨_, _, _, rfl, hx8.pick [] (by decide) rfl, rfl, rfl⟩
   ·refine c_lit 50 rfl hb5 ?_
    refine c_false rfl (c_skip (q_block (q_then (c_seq (c_seq (c_region ?_))))))
    refine r_loadFA (j := 0) ag93 sz93 rfl rfl hx1 hg0.fc rfl rfl rfl ?_
    refine r_move rfl rfl rfl (r_nil (q_then (c_block ?_)))
    intro a hax3
    obtain ⟨kont1, hkont1⟩ : ∃ kont1 : Option (Token × Int × Int), kont1 = (
       some ((⟨0, [], 0, 0⟩ : Token), 0, 10)) := ⟨_, rfl⟩
    replace hm : (fun m (s : Int) => lexer_next_L1 n s1 kont1 m s) n 0 = some r := by rw [hkont1]; exact hm
    refine loopX (id := 1) (fun m (s : Int) => lexer_next_L1 n s1 kont1 m s) (fun (y : Unit) => kont1) r (fun (s : Int) a w' => wx1 = w' ∧ Has 78 a [(0, vs s1), (2, .pointer (some ⟨b1, 0, none⟩)), (65, .agg #[.int .u8 40, .int .u8 41, .int .u8 44, .int .u8 59, .int .u8 58, .int .u8 61, .int .u8 60, .int .u8 43, .int .u8 45, .int .u8 42, .int .u8 47, .int .u8 123, .int .u8 125]), (66, .int .i64 s)]) (fun (y : Unit) a w' => wx1 = w' ∧ Has 78 a [(2, .pointer (some ⟨b1, 0, none⟩))]) (fun _ => rfl) ?_ ?_ hm ⟨rfl, hax3.cut (l := [0, 2, 65, 66]) rfl⟩
    ·clear hm; rintro _u a wx9 hm ⟨rfl, hax1⟩
     rw [hkont1] at hm
     refine qw_apply (e := .exit 1) hax1 ?_
     refine q_block_hit (q_then (c_seq (c_region ?_)))
     refine r_build (v := .agg #[.int .i64 0, vs [], .int .i64 0, .int .i64 0]) rfl rfl rfl (fun _ => by kernel_rfl) ?_
     refine r_store sz53 rfl hx1 rfl rfl rfl rfl (i := 0) rfl rfl rfl rfl ?_
     intro wx10 hx9
     refine r_assign rfl rfl rfl (r_assign rfl rfl rfl (r_nil (q_then (c_ret ?_))))
     refine b_retA (vl := [.agg #[.int .i64 0, vs [], .int .i64 0, .int .i64 0], .int .i64 0, .int .i64 10]) rfl ⟨v_cell ag53 sz53 rfl hx9 rfl (i := 0) rfl, v_tmp rfl, v_tmp rfl, trivial⟩ (by simp) ?_
     obtain rfl := Option.some.inj hm
     exact ⟨_, _, _, rfl, hx9.pick [] (by decide) rfl, rfl, rfl⟩
    ·clear hm hkont1; intro hk1 mx1 K ihx1
     rintro i1 a wx11 hm ⟨rfl, hax2⟩
     simp only [lexer_next_L1_s] at hm
     refine cw_apply hax2 ?_
     refine c_seq (c_region ?_)
     refine r_bin rfl rfl rfl rfl rfl ?_
     refine r_nil (q_then (c_seq ?_))
     rcases cond_some hm with ⟨hb7, hm⟩ | ⟨hb7, hm⟩
     ·refine c_lit 67 rfl hb7 ?_
      refine c_true rfl (c_skip (q_then (c_seq (c_block (c_seq (c_region ?_))))))
      obtain ⟨c4, hc6, hm⟩ := bind_some hm
      refine r_aidx u93 ag5 sz5 rfl rfl rfl rfl rfl rfl hc6 ?_
      refine r_assign rfl rfl rfl (r_nil (q_then (c_seq (c_region (r_move rfl rfl rfl ?_)))))
      obtain ⟨c5, hc7, hm⟩ := bind_some hm
      refine r_sidx u9 rfl rfl rfl rfl hc7 ?_
      refine r_move rfl rfl rfl ?_
      refine r_bin rfl rfl rfl rfl rfl ?_
      refine r_nil (q_then ?_)
      rcases cond_some hm with ⟨hb8, hm⟩ | ⟨hb8, hm⟩
      ·refine c_lit 72 rfl hb8 ?_
       refine c_true rfl (c_seq (c_region (r_move rfl rfl rfl ?_)))
       obtain ⟨t3, hc8, hm⟩ := bind_some hm
       refine r_ssl_h u9 rfl rfl rfl rfl hc8 ?_
       refine r_build (v := .agg #[.int .i64 3, vs t3, .int .i64 0, .int .i64 0]) rfl rfl rfl (fun _ => by kernel_rfl) ?_
       refine r_store sz53 rfl hx1 rfl rfl rfl rfl (i := 0) rfl rfl rfl rfl ?_
       intro wx12 hx10
       refine r_assign rfl rfl rfl (r_assign rfl rfl rfl (r_nil (q_then (c_ret (q_block_ret (q_then_ret (q_then_ret (q_block_ret (q_then_ret ?_)))))))))
       refine b_retA (vl := [.agg #[.int .i64 3, vs t3, .int .i64 0, .int .i64 0], .int .i64 1, .int .i64 0]) rfl ⟨v_cell ag53 sz53 rfl hx10 rfl (i := 0) rfl, v_tmp rfl, v_tmp rfl, trivial⟩ (by simp) ?_
       obtain rfl := Option.some.inj hm
       exact ⟨_, _, _, rfl, hx10.pick [] (by decide) rfl, rfl, rfl⟩
      ·refine c_lit 72 rfl hb8 ?_
       refine c_false rfl (c_skip (q_block (q_then (c_region ?_))))
       refine r_bin rfl rfl rfl rfl rfl ?_
       refine r_move rfl rfl rfl (r_nil ?_)
       refine q_next (fun a ha => ihx1 (iadd .i64 i1 1) a _ hm ?_)
       exact ⟨rfl, ha.cut (l := [0, 2, 65, 66]) rfl⟩
     ·refine c_lit 67 rfl hb7 ?_
      refine c_false rfl (c_exit (q_then_exit (q_then_exit ?_)))
      refine fun a ha => hk1 () a _ hm ?_
      exact ⟨rfl, ha.cut (l := [2]) rfl⟩
theorem ent52 : Ent Tryz.prog 52 := fun _ _ => by kernel_rfl
theorem ent53 : Ent Tryz.prog 53 := fun _ _ => by kernel_rfl
theorem fa53_3 : FieldIs Tryz.prog 53 3 3 := fun _ _ _ => by kernel_rfl
theorem sz3 : SizeIs Tryz.prog 3 1 := fun _ => by kernel_rfl
theorem ap45 : AppIs Tryz.prog 45 53 4 40 := AppIs.of (z := .agg #[.int .i64 0, vs [], .int .i64 0, .int .i64 0]) (by kernel_rfl) (by kernel_rfl) rfl (by decide) (by decide)
def lexer_Scan_L1 (n : Nat) (s1 : Bs) : Nat → Int → (List Token) → Option ((List Token) × Int × Int)
 | 0, _, _ => none
 | mx1 + 1, atx1, l1 =>
  (ssl s1 atx1 s1.length).bind fun t1 =>
  (lexer_gap n t1).bind fun v1 =>
  bif (iadd .i64 atx1 v1) == (s1.length : Int) then
   some (l1, 0, 0)
  else
   (ssl s1 (iadd .i64 atx1 v1) s1.length).bind fun t2 =>
   (lexer_next n t2).bind fun v2 =>
   bif v2.2.2 != 0 then
    some ([], iadd .i64 atx1 v1, v2.2.2)
   else
    (app 40 l1 [(⟨v2.1.Kind, v2.1.Text, v2.1.N, iadd .i64 atx1 v1⟩ : Token)]).bind fun l2 =>
    lexer_Scan_L1 n s1 mx1 (iadd .i64 (iadd .i64 atx1 v1) v2.2.1) l2
theorem lexer_Scan_L1_s (n : Nat) (s1 : Bs) (mx1 : Nat) (atx1 : Int) (l1 : List Token) : lexer_Scan_L1 n s1 (mx1 + 1) atx1 l1 =
  (ssl s1 atx1 s1.length).bind fun t1 =>
  (lexer_gap n t1).bind fun v1 =>
  bif (iadd .i64 atx1 v1) == (s1.length : Int) then
   some (l1, 0, 0)
  else
   (ssl s1 (iadd .i64 atx1 v1) s1.length).bind fun t2 =>
   (lexer_next n t2).bind fun v2 =>
   bif v2.2.2 != 0 then
    some ([], iadd .i64 atx1 v1, v2.2.2)
   else
    (app 40 l1 [(⟨v2.1.Kind, v2.1.Text, v2.1.N, iadd .i64 atx1 v1⟩ : Token)]).bind fun l2 =>
    lexer_Scan_L1 n s1 mx1 (iadd .i64 (iadd .i64 atx1 v1) v2.2.1) l2 := rfl
def lexer_Scan (n : Nat) (s1 : Bs) : Option ((List Token) × Int × Int) :=
 bif decide (4000 < (s1.length : Int)) then
  some ([], 0, 6)
 else
  lexer_Scan_L1 n s1 n 0 ([] : List Token)
set_option maxHeartbeats 1000000 in
set_option maxRecDepth 1000000 in
theorem lexer_Scan_ok (n : Nat) (s1 : Bs) (r : ((List Token) × Int × Int)) (hm : lexer_Scan n s1 = some r) {w : World} {F : Frz} (hs : Sat F w) (hg0 : FX F 0 [.int .u8 40, .int .u8 41, .int .u8 44, .int .u8 59, .int .u8 58, .int .u8 61, .int .u8 60, .int .u8 43, .int .u8 45, .int .u8 42, .int .u8 47, .int .u8 123, .int .u8 125]) :
  Calls Tryz.prog 20 #[vs s1] w fun e w' => ∃ v F' O', e = .returned v ∧ HS F w [] F' O' w' ∧ (∃ (a0_0 : Option Addr) (n0_0 : Nat) (c0_0 : Nat), v = .tuple #[.slice a0_0 n0_0 c0_0, .int .i64 r.2.1, .int .i64 r.2.2] ∧ O' = [] ∧ SlR rp_Token F' a0_0 n0_0 c0_0 r.1) := by
 unfold lexer_Scan at hm
 have h := HS.init hs
 refine calls_of 45 Tryz.func20 rfl rfl rfl ?_
 refine c_seq (c_region (r_assign rfl rfl rfl (r_assign rfl rfl rfl (r_assign rfl rfl rfl (r_nil (q_then (c_seq (c_seq (c_region (r_move rfl rfl rfl ?_))))))))))
 refine r_slen u9 rfl rfl rfl ?_
 refine r_bin rfl rfl rfl rfl rfl ?_
 refine r_nil (q_then ?_)
 rcases cond_some hm with ⟨hb1, hm⟩ | ⟨hb1, hm⟩
 ·refine c_lit 12 rfl hb1 ?_
  refine c_true rfl (c_seq (c_region (r_assign rfl rfl rfl (r_assign rfl rfl rfl (r_assign rfl rfl rfl (r_nil (q_then (c_ret (q_then_ret ?_)))))))))
  refine b_retA (vl := [.slice none 0 0, .int .i64 0, .int .i64 6]) rfl ⟨v_tmp rfl, v_tmp rfl, v_tmp rfl, trivial⟩ (by simp) ?_
  obtain rfl := Option.some.inj hm
  exact ⟨_, _, _, rfl, h.pick [] (by decide) rfl, none, 0, 0, rfl, rfl, SlR.nil _ _⟩
 ·refine c_lit 12 rfl hb1 ?_
  refine c_false rfl (c_skip (q_then (c_seq (c_region (r_assign rfl rfl rfl (r_nil (q_then (c_seq (c_region (r_assign rfl rfl rfl (r_nil (q_then (c_block ?_)))))))))))))
  have hx1 := h.nilRow 53 4
  intro a hax2
  replace hm : (fun m (s : Int × List Token) => lexer_Scan_L1 n s1 m s.1 s.2) n (0, ([] : List Token)) = some r := hm
  refine loopR (fun m (s : Int × List Token) => lexer_Scan_L1 n s1 m s.1 s.2) r (fun (s : Int × List Token) a w' => ∃ (Fx1 : Frz) (as2 : Option Addr) (ns2 : Nat) (cs2 : Nat) (xss2 : List Value), Frz.le F Fx1 ∧ HS F w [] Fx1 [.row 53 4 as2 ns2 cs2 xss2] w' ∧ (RowN rp_Token Fx1 ns2 xss2 s.2) ∧ Has 45 a [(0, vs s1), (5, .slice as2 ns2 cs2), (6, .int .i64 s.1)]) (fun _ => rfl) ?_ hm ⟨_, none, 0, 0, [], Frz.refl _, hx1.pick [0] (by decide) rfl, ((show RowN rp_Token _ 0 [] [] from ⟨rfl, rfl⟩)), hax2.cut (l := [0, 5, 6]) rfl⟩
  ·clear hm; intro mx1 K ihx1
   rintro ⟨atx1, l1⟩ a wx1 hm ⟨Fx1, as2, ns2, cs2, xss2, hF1, hx2, hs2, hax1⟩
   simp only [lexer_Scan_L1_s] at hm
   refine cw_apply hax1 ?_
   refine c_block (c_seq (c_region (r_move rfl rfl rfl (r_move rfl rfl rfl (r_move rfl rfl rfl ?_)))))
   obtain ⟨t1, hc1, hm⟩ := bind_some hm
   refine r_ssl_l u9 rfl rfl rfl rfl hc1 ?_
   obtain ⟨v1, hv1, hm⟩ := bind_some hm
   refine r_callP0 ent52 rfl rfl rfl rfl (lexer_gap_ok _ _ _ hv1) ?_
   refine r_bin rfl rfl rfl rfl rfl ?_
   refine r_assign rfl rfl rfl (r_nil (q_then (c_seq (c_seq (c_region (r_move rfl rfl rfl (r_move rfl rfl rfl ?_)))))))
   refine r_slen u9 rfl rfl rfl ?_
   refine r_bin rfl rfl rfl rfl rfl ?_
   refine r_nil (q_then ?_)
   rcases cond_some hm with ⟨hb2, hm⟩ | ⟨hb2, hm⟩
   ·refine c_lit 22 rfl hb2 ?_
    refine c_true rfl (c_seq (c_region (r_move rfl rfl rfl (r_assign rfl rfl rfl (r_assign rfl rfl rfl (r_assign rfl rfl rfl (r_nil (q_then (c_ret (q_then_ret (q_block_ret (q_then_ret (q_block_ret ?_)))))))))))))
    obtain ⟨Fx2, hF2, hx3, hsx1⟩ := freezeRow hx2 (i := 0) rfl hs2
    refine b_retA (vl := [.slice as2 ns2 cs2, .int .i64 0, .int .i64 0]) rfl ⟨v_tmp rfl, v_tmp rfl, v_tmp rfl, trivial⟩ (by simp) ?_
    obtain rfl := Option.some.inj hm
    exact ⟨_, _, _, rfl, hx3.pick [] (by decide) rfl, as2, ns2, cs2, rfl, rfl, hsx1⟩
   ·refine c_lit 22 rfl hb2 ?_
    refine c_false rfl (c_skip (q_then (c_seq (c_region (r_move rfl rfl rfl (r_move rfl rfl rfl ?_))))))
    obtain ⟨t2, hc2, hm⟩ := bind_some hm
    refine r_ssl_l u9 rfl rfl rfl rfl hc2 ?_
    obtain ⟨v2, hv2, hm⟩ := bind_some hm
    refine r_callG0 ent53 rfl rfl rfl rfl hx2 (lexer_next_ok _ _ _ hv2 hx2.sat (hg0.mono hF1)) ?_
    rintro _ Fx3 _ wx2 hF3 hx4 ⟨rfl, rfl⟩
    refine r_move rfl rfl rfl (r_extract rfl rfl rfl rfl (r_extract rfl rfl rfl rfl (r_extract rfl rfl rfl rfl ?_)))
    refine r_alloc ze53 rfl rfl rfl hx4 ?_
    intro b1 wx3 hx5
    refine r_store sz53 rfl hx5 rfl rfl rfl rfl (i := 0) rfl rfl rfl rfl ?_
    intro wx4 hx6
    refine r_assign rfl rfl rfl (r_assign rfl rfl rfl (r_nil (q_then (c_seq (c_seq (c_region (r_move rfl rfl rfl ?_)))))))
    refine r_bin rfl rfl rfl rfl rfl ?_
    refine r_nil (q_then ?_)
    rcases cond_some hm with ⟨hb3, hm⟩ | ⟨hb3, hm⟩
    ·refine c_lit 33 rfl hb3 ?_
     refine c_true rfl (c_seq (c_region (r_move rfl rfl rfl (r_move rfl rfl rfl (r_assign rfl rfl rfl (r_assign rfl rfl rfl (r_assign rfl rfl rfl (r_nil (q_then (c_ret (q_then_ret (q_block_ret (q_then_ret (q_block_ret ?_))))))))))))))
     refine b_retA (vl := [.slice none 0 0, .int .i64 (iadd .i64 atx1 v1), .int .i64 v2.2.2]) rfl ⟨v_tmp rfl, v_tmp rfl, v_tmp rfl, trivial⟩ (by simp) ?_
     obtain rfl := Option.some.inj hm
     exact ⟨_, _, _, rfl, hx6.pick [] (by decide) rfl, none, 0, 0, rfl, rfl, SlR.nil _ _⟩
    ·refine c_lit 33 rfl hb3 ?_
     refine c_false rfl (c_skip (q_then (c_seq (c_region (r_move rfl rfl rfl ?_)))))
     refine r_fieldAddr fa53_3 rfl rfl rfl ?_
     refine r_store sz3 rfl hx6 rfl rfl rfl rfl (i := 0) rfl rfl rfl rfl ?_
     intro wx5 hx7
     refine r_nil (q_then (c_seq (c_region (r_move rfl rfl rfl ?_))))
     refine r_loadBW ag53 sz53 rfl rfl hx7 rfl (i := 0) rfl rfl ?_
     refine r_buildSlice (e := 53) (cs := [.int .i64 v2.1.Kind, vs v2.1.Text, .int .i64 v2.1.N, .int .i64 (iadd .i64 atx1 v1)]) (q := 4) rfl rfl hx7 rfl (fun _ => by kernel_rfl) rfl rfl ?_
     intro b2 wx6 hx8
     obtain ⟨l2, hr1, hm⟩ := bind_some hm
     refine r_appendN (r := rp_Token) ap45 rfl rfl hx8 rfl rfl (i := 2) (j := 0) rfl rfl (hs2.mono hF3) ((show RowN rp_Token Fx3 1 [.int .i64 v2.1.Kind, vs v2.1.Text, .int .i64 v2.1.N, .int .i64 (iadd .i64 atx1 v1)] [(⟨v2.1.Kind, v2.1.Text, v2.1.N, iadd .i64 atx1 v1⟩ : Token)] from ⟨rfl, ⟨_, _, rfl, rfl, (rfl : RowR rp_Token _ [] [])⟩⟩)) hr1 ?_
     intro as3 cs3 wx7 hx9 hs3
     refine r_assign rfl rfl rfl (r_nil (q_then (c_region (r_move rfl rfl rfl (r_move rfl rfl rfl ?_)))))
     refine r_bin rfl rfl rfl rfl rfl ?_
     refine r_assign rfl rfl rfl (r_nil (q_block ?_))
     refine q_next (fun a ha => ihx1 ((iadd .i64 (iadd .i64 atx1 v1) v2.2.1), l2) a _ hm ?_)
     exact ⟨_, as3, (ns2 + 1), cs3, (xss2 ++ [.int .i64 v2.1.Kind, vs v2.1.Text, .int .i64 v2.1.N, .int .i64 (iadd .i64 atx1 v1)]), (hF1.trans hF3), hx9.pick [2] (by decide) rfl, hs3, ha.cut (l := [0, 5, 6]) rfl⟩
end Go.Proofs.YtpihabofmnnbbaaGreatDoor.M

namespace Go.Proofs.YtpihabofmnnbbaaGreatDoor.M
open Go Go.RowKit Rt
structure reader where
 l : (List Token)
 at_ : Int
 e : Int
 deriving DecidableEq, Inhabited
theorem fa50_2 : FieldIs Tryz.prog 50 2 2 := fun _ _ _ => by kernel_rfl
theorem ag31 : IsAgg Tryz.prog 31 false := fun _ => by kernel_rfl
theorem fa50_0 : FieldIs Tryz.prog 50 0 0 := fun _ _ _ => by kernel_rfl
theorem ag45 : IsAgg Tryz.prog 45 false := fun _ => by kernel_rfl
theorem fa50_1 : FieldIs Tryz.prog 50 1 1 := fun _ _ _ => by kernel_rfl
theorem ag3 : IsAgg Tryz.prog 3 false := fun _ => by kernel_rfl
theorem u45 : Tryz.prog.underlying 45 = some (.slice 53) := by kernel_rfl
def tariff_reader_next (_n : Nat) (rx1 : reader) : Option (reader × Token) :=
 (bif rx1.e != 0 then
  some true
 else
  some (rx1.at_ == (rx1.l.length : Int))).bind fun v1 =>
 bif v1 then
  some (rx1, (⟨4, [], 0, 0⟩ : Token))
 else
  (ix rx1.l rx1.at_).bind fun ex1 =>
  some (rx1, ex1)
set_option maxHeartbeats 1000000 in
set_option maxRecDepth 1000000 in
theorem tariff_reader_next_ok (n : Nat) (rx1 : reader) (r : (reader × Token)) (hm : tariff_reader_next n rx1 = some r) {w : World} {F : Frz} (hs : Sat F w) {as1 : Option Addr} {ns1 : Nat} {cs1 : Nat} {brx1 : Nat} (hs1 : SlR rp_Token F as1 ns1 cs1 rx1.l) (hbrx1 : (OE.box brx1 50 [.slice as1 ns1 cs1, .int .i64 rx1.at_, .int .i64 rx1.e]).ok w) (hfrx1 : F brx1 = none) :
  Calls Tryz.prog 54 #[.pointer (some ⟨brx1, 0, none⟩)] w fun e w' => ∃ v F' cs' O', e = .returned v ∧ HS F w [brx1] F' (.box brx1 50 cs' :: O') w' ∧ (∃ (al_0 : Option Addr) (nl_0 : Nat) (cl_0 : Nat), v = .agg #[.int .i64 r.2.Kind, vs r.2.Text, .int .i64 r.2.N, .int .i64 r.2.Pos] ∧ cs' = [.slice al_0 nl_0 cl_0, .int .i64 r.1.at_, .int .i64 r.1.e] ∧ O' = [] ∧ SlR rp_Token F' al_0 nl_0 cl_0 r.1.l) := by
 unfold tariff_reader_next at hm
 have h := HS.lend hs hbrx1 hfrx1
 refine calls_of 31 Tryz.func54 rfl rfl rfl ?_
 refine c_seq (c_region ?_)
 refine r_alloc ze53 rfl rfl rfl h ?_
 intro b1 wx1 hx1
 refine r_nil (q_then (c_seq (c_seq ?_)))
 refine c_regionD (by kernel_rfl) (by kernel_rfl) hx1 ?_
 refine q_stp rfl rfl rfl rfl (fun _ _ _ _ => r_move rfl rfl rfl (r_nil (qq rfl))) ?_
 refine q_nilC rfl rfl rfl ?_
 refine q_stp rfl rfl rfl rfl (fun _ _ _ _ => r_fieldAddr fa50_2 rfl rfl rfl (r_nil (qq rfl))) ?_
 refine q_stp rfl rfl rfl rfl (fun _ _ _ hq => r_loadB1 ag31 rfl rfl hq rfl (i := 1) rfl rfl (r_nil (qq rfl))) ?_
 refine q_stp rfl rfl rfl rfl (fun _ _ _ _ => r_bin rfl rfl rfl rfl rfl (r_nil (qq rfl))) ?_
 refine q_stp rfl rfl rfl rfl (fun _ _ _ _ => r_move rfl rfl rfl (r_nil (qq rfl))) ?_
 obtain ⟨v1, hb1, hm⟩ := bind_some hm
 refine q_mid 11 (fun a => Has 31 a [(0, .pointer (some ⟨brx1, 0, none⟩)), (2, .pointer (some ⟨b1, 0, none⟩)), (19, .bool v1)]) ?_ ?_
 ·intro a hax1
  refine qr_apply hax1 ?_
  refine q_end ?_
  rintro wx3 ⟨Fx1, hF1, hx2⟩
  refine q_then ?_
  rcases cond_some hm with ⟨hb2, hm⟩ | ⟨hb2, hm⟩
  ·refine c_lit 19 rfl hb2 ?_
   refine c_true rfl (c_seq (c_region ?_))
   refine r_build (v := .agg #[.int .i64 4, vs [], .int .i64 0, .int .i64 0]) rfl rfl rfl (fun _ => by kernel_rfl) ?_
   refine r_store sz53 rfl hx2 rfl rfl rfl rfl (i := 0) rfl rfl rfl rfl ?_
   intro wx4 hx3
   refine r_nil (q_then (c_ret (q_then_ret ?_)))
   refine b_retC rfl ag53 sz53 rfl hx3 rfl (i := 0) rfl ?_
   obtain rfl := Option.some.inj hm
   exact ⟨_, _, _, _, rfl, hx3.pick [1] (by decide) rfl, as1, ns1, cs1, rfl, rfl, rfl, (hs1.mono hF1)⟩
  ·refine c_lit 19 rfl hb2 ?_
   refine c_false rfl (c_skip (q_then (c_seq ?_)))
   refine c_regionH (SH Fx1 [.box brx1 50 [.slice as1 ns1 cs1, .int .i64 rx1.at_, .int .i64 rx1.e]]) 11 rfl (by kernel_rfl) hx2 ?_
   intro wx5 hx4
   refine d_tk 0 rfl (by kernel_rfl) rfl rfl rfl rfl (hx4.sh (Frz.refl _) [1] (by decide) rfl) (fun _ _ _ _ _ => r_move rfl rfl rfl (r_nil (qq rfl))) ?_
   refine d_nilC 1 rfl (by kernel_rfl) (by kernel_rfl) (by kernel_rfl) rfl rfl rfl (hx4.sh (Frz.refl _) [1] (by decide) rfl) ?_
   refine d_tk 2 rfl (by kernel_rfl) rfl rfl rfl rfl (hx4.sh (Frz.refl _) [1] (by decide) rfl) (fun _ _ _ _ _ => r_fieldAddr fa50_0 rfl rfl rfl (r_nil (qq rfl))) ?_
   refine d_tk 3 rfl (by kernel_rfl) rfl rfl rfl rfl (hx4.sh (Frz.refl _) [1] (by decide) rfl) (fun _ _ _ _ hq => r_loadB1 ag45 rfl rfl hq rfl (i := 0) rfl rfl (r_nil (qq rfl))) ?_
   refine d_tk 4 rfl (by kernel_rfl) rfl rfl rfl rfl (hx4.sh (Frz.refl _) [1] (by decide) rfl) (fun _ _ _ _ _ => r_move rfl rfl rfl (r_nil (qq rfl))) ?_
   refine d_nilC 5 rfl (by kernel_rfl) (by kernel_rfl) (by kernel_rfl) rfl rfl rfl (hx4.sh (Frz.refl _) [1] (by decide) rfl) ?_
   refine d_tk 6 rfl (by kernel_rfl) rfl rfl rfl rfl (hx4.sh (Frz.refl _) [1] (by decide) rfl) (fun _ _ _ _ _ => r_fieldAddr fa50_1 rfl rfl rfl (r_nil (qq rfl))) ?_
   refine d_tk 7 rfl (by kernel_rfl) rfl rfl rfl rfl (hx4.sh (Frz.refl _) [1] (by decide) rfl) (fun _ _ _ _ hq => r_loadB1 ag3 rfl rfl hq rfl (i := 0) rfl rfl (r_nil (qq rfl))) ?_
   obtain ⟨ex1, he1, hm⟩ := bind_some hm
   obtain ⟨b2, o1, cs1, hf1, hr1, hrun1⟩ := findex_ex (P := Tryz.prog) (r := rp_Token) u45 sz53 (hs1.mono hF1) he1
   have hc1 : cs1 = [.int .i64 ex1.Kind, vs ex1.Text, .int .i64 ex1.N, .int .i64 ex1.Pos] := hr1
   subst hc1
   refine d_findex 8 rfl (by kernel_rfl) (by kernel_rfl) (by kernel_rfl) rfl rfl rfl rfl hrun1 (hx4.sh (Frz.refl _) [1] (by decide) rfl) ?_
   refine d_tk 9 rfl (by kernel_rfl) rfl rfl rfl rfl (hx4.sh (Frz.refl _) [1] (by decide) rfl) (fun _ _ _ hleq hq => r_loadFW ag53 sz53 rfl rfl hq (hf1.mono hleq) rfl rfl (r_nil (qq rfl))) ?_
   refine d_step 10 rfl (by kernel_rfl) ?_
   refine r_store sz53 rfl hx4 rfl rfl rfl rfl (i := 0) rfl rfl rfl rfl ?_
   intro wx6 hx5
   refine d_next (hx5.sh (Frz.refl _) [1] (by decide) rfl) ?_
   refine d_done (by kernel_rfl) ?_
   refine q_then (c_ret ?_)
   refine b_retC rfl ag53 sz53 rfl hx5 rfl (i := 0) rfl ?_
   obtain rfl := Option.some.inj hm
   exact ⟨_, _, _, _, rfl, hx5.pick [1] (by decide) rfl, as1, ns1, cs1, rfl, rfl, rfl, (hs1.mono hF1)⟩
 ·clear hm
  rcases cond_some hb1 with ⟨hb3, hb1⟩ | ⟨hb3, hb1⟩
  ·refine q_lit 8 rfl hb3 ?_
   refine q_off rfl rfl rfl (q_off rfl rfl rfl (q_off rfl rfl rfl (q_off rfl rfl rfl (q_off rfl rfl rfl (q_off rfl rfl rfl (q_off rfl rfl rfl (q_off rfl rfl rfl (q_off rfl rfl rfl (q_off rfl rfl rfl ?_)))))))))
   refine q_stp rfl rfl rfl rfl (fun _ _ _ _ => r_pick_true rfl rfl rfl rfl (r_nil (qq rfl))) ?_
   refine q_nil (fun a ha => ?_)
   cases hb1
   exact ha.cut (l := [0, 2, 19]) rfl
  ·refine q_lit 8 rfl hb3 ?_
   refine q_stp rfl rfl rfl rfl (fun _ _ _ _ => r_move rfl rfl rfl (r_nil (qq rfl))) ?_
   refine q_nilC rfl rfl rfl ?_
   refine q_stp rfl rfl rfl rfl (fun _ _ _ _ => r_fieldAddr fa50_1 rfl rfl rfl (r_nil (qq rfl))) ?_
   refine q_stp rfl rfl rfl rfl (fun _ _ _ hq => r_loadB1 ag3 rfl rfl hq rfl (i := 1) rfl rfl (r_nil (qq rfl))) ?_
   refine q_stp rfl rfl rfl rfl (fun _ _ _ _ => r_move rfl rfl rfl (r_nil (qq rfl))) ?_
   refine q_nilC rfl rfl rfl ?_
   refine q_stp rfl rfl rfl rfl (fun _ _ _ _ => r_fieldAddr fa50_0 rfl rfl rfl (r_nil (qq rfl))) ?_
   refine q_stp rfl rfl rfl rfl (fun _ _ _ hq => r_loadB1 ag45 rfl rfl hq rfl (i := 1) rfl rfl (r_nil (qq rfl))) ?_
   refine q_stp rfl rfl rfl rfl (fun _ _ _ _ => r_lenS hs1.len u45 rfl rfl rfl (r_nil (qq rfl))) ?_
   refine q_stp rfl rfl rfl rfl (fun _ _ _ _ => r_bin rfl rfl rfl rfl rfl (r_nil (qq rfl))) ?_
   refine q_stp rfl rfl rfl rfl (fun _ _ _ _ => r_pick_false rfl rfl rfl rfl (r_nil (qq rfl))) ?_
   refine q_nil (fun a ha => ?_)
   cases hb1
   exact ha.cut (l := [0, 2, 19]) rfl
theorem sz31 : SizeIs Tryz.prog 31 1 := fun _ => by kernel_rfl
def tariff_reader_fail (_n : Nat) (rx1 : reader) (ex1 : Int) : Option reader :=
 bif rx1.e == 0 then
  some (⟨rx1.l, rx1.at_, ex1⟩ : reader)
 else
  some rx1
set_option maxHeartbeats 1000000 in
set_option maxRecDepth 1000000 in
theorem tariff_reader_fail_ok (n : Nat) (rx1 : reader) (ex1 : Int) (r : reader) (hm : tariff_reader_fail n rx1 ex1 = some r) {w : World} {F : Frz} (hs : Sat F w) {as1 : Option Addr} {ns1 : Nat} {cs1 : Nat} {brx1 : Nat} (hs1 : SlR rp_Token F as1 ns1 cs1 rx1.l) (hbrx1 : (OE.box brx1 50 [.slice as1 ns1 cs1, .int .i64 rx1.at_, .int .i64 rx1.e]).ok w) (hfrx1 : F brx1 = none) :
  Calls Tryz.prog 26 #[.pointer (some ⟨brx1, 0, none⟩), .int .i64 ex1] w fun e w' => ∃ v F' cs' O', e = .returned v ∧ HS F w [brx1] F' (.box brx1 50 cs' :: O') w' ∧ (∃ (al_0 : Option Addr) (nl_0 : Nat) (cl_0 : Nat), v = .tuple #[] ∧ cs' = [.slice al_0 nl_0 cl_0, .int .i64 r.at_, .int .i64 r.e] ∧ O' = [] ∧ SlR rp_Token F' al_0 nl_0 cl_0 r.l) := by
 unfold tariff_reader_fail at hm
 have h := HS.lend hs hbrx1 hfrx1
 refine calls_of 13 Tryz.func26 rfl rfl rfl ?_
 refine c_seq (c_region (r_move rfl rfl rfl ?_))
 refine r_nilC rfl rfl rfl ?_
 refine r_fieldAddr fa50_2 rfl rfl rfl ?_
 refine r_loadB1 ag31 rfl rfl h rfl (i := 0) rfl rfl ?_
 refine r_bin rfl rfl rfl rfl rfl ?_
 refine r_nil (q_then ?_)
 rcases cond_some hm with ⟨hb1, hm⟩ | ⟨hb1, hm⟩
 ·refine c_lit 8 rfl hb1 ?_
  refine c_true rfl (c_region (r_move rfl rfl rfl (r_move rfl rfl rfl ?_)))
  refine r_nilC rfl rfl rfl ?_
  refine r_fieldAddr fa50_2 rfl rfl rfl ?_
  refine r_store sz31 rfl h rfl rfl rfl rfl (i := 0) rfl rfl rfl rfl ?_
  intro wx1 hx1
  refine r_nil ?_
  refine b_end0 rfl ?_
  obtain rfl := Option.some.inj hm
  exact ⟨_, _, _, _, rfl, hx1.pick [0] (by decide) rfl, as1, ns1, cs1, rfl, rfl, rfl, hs1⟩
 ·refine c_lit 8 rfl hb1 ?_
  refine c_false rfl (c_skip ?_)
  refine b_end0 rfl ?_
  obtain rfl := Option.some.inj hm
  exact ⟨_, _, _, _, rfl, h.pick [0] (by decide) rfl, as1, ns1, cs1, rfl, rfl, rfl, hs1⟩
theorem ent54 : Ent Tryz.prog 54 := fun _ _ => by kernel_rfl
theorem fa53_1 : FieldIs Tryz.prog 53 1 1 := fun _ _ _ => by kernel_rfl
theorem ag9 : IsAgg Tryz.prog 9 false := fun _ => by kernel_rfl
theorem fa53_0 : FieldIs Tryz.prog 53 0 0 := fun _ _ _ => by kernel_rfl
def tariff_reader_is (n : Nat) (rx1 : reader) (s2 : Bs) : Option (reader × Bool) :=
 (tariff_reader_next n rx1).bind fun v1 =>
 (bif v1.2.Text == s2 then
  (bif v1.2.Kind == 0 then
   some true
  else
   some (v1.2.Kind == 3)).bind fun v3 =>
  some v3
 else
  some false).bind fun v2 =>
 some (v1.1, v2)
set_option maxHeartbeats 1000000 in
set_option maxRecDepth 1000000 in
theorem tariff_reader_is_ok (n : Nat) (rx1 : reader) (s2 : Bs) (r : (reader × Bool)) (hm : tariff_reader_is n rx1 s2 = some r) {w : World} {F : Frz} (hs : Sat F w) {as1 : Option Addr} {ns1 : Nat} {cs1 : Nat} {brx1 : Nat} (hs1 : SlR rp_Token F as1 ns1 cs1 rx1.l) (hbrx1 : (OE.box brx1 50 [.slice as1 ns1 cs1, .int .i64 rx1.at_, .int .i64 rx1.e]).ok w) (hfrx1 : F brx1 = none) :
  Calls Tryz.prog 24 #[.pointer (some ⟨brx1, 0, none⟩), vs s2] w fun e w' => ∃ v F' cs' O', e = .returned v ∧ HS F w [brx1] F' (.box brx1 50 cs' :: O') w' ∧ (∃ (al_0 : Option Addr) (nl_0 : Nat) (cl_0 : Nat), v = .bool r.2 ∧ cs' = [.slice al_0 nl_0 cl_0, .int .i64 r.1.at_, .int .i64 r.1.e] ∧ O' = [] ∧ SlR rp_Token F' al_0 nl_0 cl_0 r.1.l) := by
 unfold tariff_reader_is at hm
 have h := HS.lend hs hbrx1 hfrx1
 refine calls_of 22 Tryz.func24 rfl rfl rfl ?_
 refine c_seq (c_region (r_assign rfl rfl rfl (r_nil (q_then (c_seq (c_region (r_move rfl rfl rfl ?_)))))))
 obtain ⟨v1, hv1, hm⟩ := bind_some hm
 refine r_callL ent54 rfl rfl rfl rfl h (i := 0) rfl (tariff_reader_next_ok _ _ _ hv1 h.sat hs1 (h.get (i := 0) rfl) (h.lendable (i := 0) rfl)) ?_
 rintro _ Fx1 _ _ wx1 hF1 hx1 ⟨as3, ns3, cs3, rfl, rfl, rfl, hs3⟩
 refine r_alloc ze53 rfl rfl rfl hx1 ?_
 intro b1 wx2 hx2
 refine r_store sz53 rfl hx2 rfl rfl rfl rfl (i := 0) rfl rfl rfl rfl ?_
 intro wx3 hx3
 refine r_nil (q_then (c_seq (c_region ?_)))
 refine r_fieldAddr fa53_1 rfl rfl rfl ?_
 refine r_loadB1 ag9 rfl rfl hx3 rfl (i := 0) rfl rfl ?_
 refine r_move rfl rfl rfl ?_
 refine r_str rfl rfl rfl rfl rfl ?_
 refine r_move rfl rfl rfl ?_
 obtain ⟨v2, hb1, hm⟩ := bind_some hm
 refine r_mid 9 (fun a w' => wx3 = w' ∧ Has 22 a [(21, .bool v2)]) ?_ ?_
 ·rintro a wx4 ⟨rfl, hax1⟩
  refine rw_apply hax1 ?_
  refine r_assign rfl rfl rfl (r_nil (q_then (c_ret ?_)))
  refine b_ret1 rfl rfl ?_
  obtain rfl := Option.some.inj hm
  exact ⟨_, _, _, _, rfl, hx3.pick [1] (by decide) rfl, as3, ns3, cs3, rfl, rfl, rfl, hs3⟩
 ·clear hm
  rcases cond_some hb1 with ⟨hb2, hb1⟩ | ⟨hb2, hb1⟩
  ·refine r_lit 12 rfl hb2 ?_
   refine r_fieldAddr fa53_0 rfl rfl rfl ?_
   refine r_loadB1 ag3 rfl rfl hx3 rfl (i := 0) rfl rfl ?_
   refine r_bin rfl rfl rfl rfl rfl ?_
   refine r_move rfl rfl rfl ?_
   obtain ⟨v3, hb3, hb1⟩ := bind_some hb1
   refine r_mid 4 (fun a w' => wx3 = w' ∧ Has 22 a [(12, .bool true), (20, .bool v3)]) ?_ ?_
   ·rintro a wx5 ⟨rfl, hax2⟩
    refine rw_apply hax2 ?_
    refine r_pick_true rfl rfl rfl rfl (r_nil ?_)
    refine q_next (fun a ha => ?_)
    cases hb1
    exact ⟨rfl, ha.cut (l := [21]) rfl⟩
   ·clear hb1
    rcases cond_some hb3 with ⟨hb4, hb3⟩ | ⟨hb4, hb3⟩
    ·refine r_lit 16 rfl hb4 ?_
     refine r_off rfl (by decide) rfl (r_off rfl (by decide) rfl (r_off rfl (by decide) rfl (r_pick_true rfl rfl rfl rfl (r_nil ?_))))
     refine q_next (fun a ha => ?_)
     cases hb3
     exact ⟨rfl, ha.cut (l := [12, 20]) rfl⟩
    ·refine r_lit 16 rfl hb4 ?_
     refine r_fieldAddr fa53_0 rfl rfl rfl ?_
     refine r_loadB1 ag3 rfl rfl hx3 rfl (i := 0) rfl rfl ?_
     refine r_bin rfl rfl rfl rfl rfl ?_
     refine r_pick_false rfl rfl rfl rfl (r_nil ?_)
     refine q_next (fun a ha => ?_)
     cases hb3
     exact ⟨rfl, ha.cut (l := [12, 20]) rfl⟩
  ·refine r_lit 12 rfl hb2 ?_
   refine r_off rfl (by decide) rfl (r_off rfl (by decide) rfl (r_off rfl (by decide) rfl (r_off rfl (by decide) rfl (r_off rfl (by decide) rfl (r_off rfl (by decide) rfl (r_off rfl (by decide) rfl (r_off rfl (by decide) rfl (r_pick_false rfl rfl rfl rfl (r_nil ?_)))))))))
   refine q_next (fun a ha => ?_)
   cases hb1
   exact ⟨rfl, ha.cut (l := [21]) rfl⟩
theorem ent24 : Ent Tryz.prog 24 := fun _ _ => by kernel_rfl
def tariff_reader_take (n : Nat) (rx1 : reader) (s2 : Bs) : Option (reader × Bool) :=
 (tariff_reader_is n rx1 s2).bind fun v1 =>
 (bif v1.2 then
  some (iadd .i64 v1.1.at_ 1)
 else
  some v1.1.at_).bind fun f1 =>
 some ((⟨v1.1.l, f1, v1.1.e⟩ : reader), v1.2)
set_option maxHeartbeats 1000000 in
set_option maxRecDepth 1000000 in
theorem tariff_reader_take_ok (n : Nat) (rx1 : reader) (s2 : Bs) (r : (reader × Bool)) (hm : tariff_reader_take n rx1 s2 = some r) {w : World} {F : Frz} (hs : Sat F w) {as1 : Option Addr} {ns1 : Nat} {cs1 : Nat} {brx1 : Nat} (hs1 : SlR rp_Token F as1 ns1 cs1 rx1.l) (hbrx1 : (OE.box brx1 50 [.slice as1 ns1 cs1, .int .i64 rx1.at_, .int .i64 rx1.e]).ok w) (hfrx1 : F brx1 = none) :
  Calls Tryz.prog 27 #[.pointer (some ⟨brx1, 0, none⟩), vs s2] w fun e w' => ∃ v F' cs' O', e = .returned v ∧ HS F w [brx1] F' (.box brx1 50 cs' :: O') w' ∧ (∃ (al_0 : Option Addr) (nl_0 : Nat) (cl_0 : Nat), v = .bool r.2 ∧ cs' = [.slice al_0 nl_0 cl_0, .int .i64 r.1.at_, .int .i64 r.1.e] ∧ O' = [] ∧ SlR rp_Token F' al_0 nl_0 cl_0 r.1.l) := by
 unfold tariff_reader_take at hm
 have h := HS.lend hs hbrx1 hfrx1
 refine calls_of 18 Tryz.func27 rfl rfl rfl ?_
 refine c_seq (c_region (r_assign rfl rfl rfl (r_nil (q_then (c_seq (c_region (r_move rfl rfl rfl (r_move rfl rfl rfl ?_))))))))
 obtain ⟨v1, hv1, hm⟩ := bind_some hm
 refine r_callL ent24 rfl rfl rfl rfl h (i := 0) rfl (tariff_reader_is_ok _ _ _ _ hv1 h.sat hs1 (h.get (i := 0) rfl) (h.lendable (i := 0) rfl)) ?_
 rintro _ Fx1 _ _ wx1 hF1 hx1 ⟨as3, ns3, cs3, rfl, rfl, rfl, hs3⟩
 refine r_assign rfl rfl rfl (r_nil (q_then (c_seq (c_seq (c_region (r_move rfl rfl rfl (r_nil (q_then ?_))))))))
 obtain ⟨f1, hb1, hm⟩ := bind_some hm
 refine c_midT (fun a w' => ∃ (Fx2 : Frz), Frz.le Fx1 Fx2 ∧ HS F w [brx1] Fx2 [.box brx1 50 [.slice as3 ns3 cs3, .int .i64 f1, .int .i64 v1.1.e]] w' ∧ Has 18 a [(5, .bool v1.2)]) ?_ ?_
 ·rintro a wx2 ⟨Fx2, hF2, hx2, hax1⟩
  refine cw_apply hax1 ?_
  refine c_seq (c_region (r_move rfl rfl rfl (r_assign rfl rfl rfl (r_nil (q_then (c_ret ?_))))))
  refine b_ret1 rfl rfl ?_
  obtain rfl := Option.some.inj hm
  exact ⟨_, _, _, _, rfl, hx2.pick [0] (by decide) rfl, as3, ns3, cs3, rfl, rfl, rfl, (hs3.mono hF2)⟩
 ·clear hm
  rcases cond_some hb1 with ⟨hb2, hb1⟩ | ⟨hb2, hb1⟩
  ·refine c_lit 9 rfl hb2 ?_
   refine c_true rfl (c_region (r_move rfl rfl rfl ?_))
   refine r_nilC rfl rfl rfl ?_
   refine r_fieldAddr fa50_1 rfl rfl rfl ?_
   refine r_loadB1 ag3 rfl rfl hx1 rfl (i := 0) rfl rfl ?_
   refine r_bin rfl rfl rfl rfl rfl ?_
   refine r_nilC rfl rfl rfl ?_
   refine r_fieldAddr fa50_1 rfl rfl rfl ?_
   refine r_store sz3 rfl hx1 rfl rfl rfl rfl (i := 0) rfl rfl rfl rfl ?_
   intro wx3 hx3
   refine r_nil ?_
   refine q_next (fun a ha => ?_)
   cases hb1
   exact ⟨_, Frz.refl _, hx3.pick [0] (by decide) rfl, ha.cut (l := [5]) rfl⟩
  ·refine c_lit 9 rfl hb2 ?_
   refine c_false rfl (c_skip ?_)
   refine q_next (fun a ha => ?_)
   cases hb1
   exact ⟨_, Frz.refl _, hx1.pick [0] (by decide) rfl, ha.cut (l := [5]) rfl⟩
theorem u27 : Tryz.prog.underlying 27 = some (.slice 9) := by kernel_rfl
theorem sz9 : SizeIs Tryz.prog 9 1 := fun _ => by kernel_rfl
theorem ent27 : Ent Tryz.prog 27 := fun _ _ => by kernel_rfl
theorem ent26 : Ent Tryz.prog 26 := fun _ _ => by kernel_rfl
def tariff_reader_need_L1 (n : Nat) (l1 : (List Bs)) (kont1 : (List Token) → Int → Int → Option reader) : Nat → Int → (List Token) → Int → Int → Option reader
 | 0, _, _, _, _ => none
 | mx1 + 1, i1, f1, f2, f3 =>
  bif decide (i1 < (l1.length : Int)) then
   (ix l1 i1).bind fun ex1 =>
   (tariff_reader_take n (⟨f1, f2, f3⟩ : reader) ex1).bind fun v1 =>
   bif !v1.2 then
    (tariff_reader_fail n v1.1 12).bind fun v2 =>
    tariff_reader_need_L1 n l1 kont1 mx1 (iadd .i64 i1 1) v2.l v2.at_ v2.e
   else
    tariff_reader_need_L1 n l1 kont1 mx1 (iadd .i64 i1 1) v1.1.l v1.1.at_ v1.1.e
  else
   kont1 f1 f2 f3
theorem tariff_reader_need_L1_s (n : Nat) (l1 : (List Bs)) (kont1 : (List Token) → Int → Int → Option reader) (mx1 : Nat) (i1 : Int) (f1 : (List Token)) (f2 : Int) (f3 : Int) : tariff_reader_need_L1 n l1 kont1 (mx1 + 1) i1 f1 f2 f3 =
  bif decide (i1 < (l1.length : Int)) then
   (ix l1 i1).bind fun ex1 =>
   (tariff_reader_take n (⟨f1, f2, f3⟩ : reader) ex1).bind fun v1 =>
   bif !v1.2 then
    (tariff_reader_fail n v1.1 12).bind fun v2 =>
    tariff_reader_need_L1 n l1 kont1 mx1 (iadd .i64 i1 1) v2.l v2.at_ v2.e
   else
    tariff_reader_need_L1 n l1 kont1 mx1 (iadd .i64 i1 1) v1.1.l v1.1.at_ v1.1.e
  else
   kont1 f1 f2 f3 := rfl
def tariff_reader_need (n : Nat) (rx1 : reader) (l1 : (List Bs)) : Option reader :=
 tariff_reader_need_L1 n l1 (fun (f4 : (List Token)) (f5 : Int) (f6 : Int) =>
  some (⟨f4, f5, f6⟩ : reader)) n 0 rx1.l rx1.at_ rx1.e
set_option maxHeartbeats 1000000 in
set_option maxRecDepth 1000000 in
theorem tariff_reader_need_ok (n : Nat) (rx1 : reader) (l1 : (List Bs)) (r : reader) (hm : tariff_reader_need n rx1 l1 = some r) {w : World} {F : Frz} (hs : Sat F w) {as1 : Option Addr} {ns1 : Nat} {cs1 : Nat} {brx1 : Nat} {as2 : Option Addr} {ns2 : Nat} {cs2 : Nat} (hs1 : SlR rp_Token F as1 ns1 cs1 rx1.l) (hbrx1 : (OE.box brx1 50 [.slice as1 ns1 cs1, .int .i64 rx1.at_, .int .i64 rx1.e]).ok w) (hfrx1 : F brx1 = none) (hs2 : SlR Rp.str F as2 ns2 cs2 l1) :
  Calls Tryz.prog 21 #[.pointer (some ⟨brx1, 0, none⟩), .slice as2 ns2 cs2] w fun e w' => ∃ v F' cs' O', e = .returned v ∧ HS F w [brx1] F' (.box brx1 50 cs' :: O') w' ∧ (∃ (al_0 : Option Addr) (nl_0 : Nat) (cl_0 : Nat), v = .tuple #[] ∧ cs' = [.slice al_0 nl_0 cl_0, .int .i64 r.at_, .int .i64 r.e] ∧ O' = [] ∧ SlR rp_Token F' al_0 nl_0 cl_0 r.l) := by
 unfold tariff_reader_need at hm
 have h := HS.lend hs hbrx1 hfrx1
 refine calls_of 19 Tryz.func21 rfl rfl rfl ?_
 refine c_seq (c_region (r_move rfl rfl rfl ?_))
 refine r_lenS hs2.len u27 rfl rfl rfl ?_
 refine r_move rfl rfl rfl (r_nil (q_then (c_block ?_)))
 intro a hax3
 obtain ⟨kont1, hkont1⟩ : ∃ kont1 : (List Token) → Int → Int → Option reader, kont1 = (fun (f4 : (List Token)) (f5 : Int) (f6 : Int) =>
       some (⟨f4, f5, f6⟩ : reader)) := ⟨_, rfl⟩
 replace hm : (fun m (s : Int × (List Token) × Int × Int) => tariff_reader_need_L1 n l1 kont1 m s.1 s.2.1 s.2.2.1 s.2.2.2) n (0, rx1.l, rx1.at_, rx1.e) = some r := by rw [hkont1]; exact hm
 refine loopX (id := 0) (fun m (s : Int × (List Token) × Int × Int) => tariff_reader_need_L1 n l1 kont1 m s.1 s.2.1 s.2.2.1 s.2.2.2) (fun (y : (List Token) × Int × Int) => kont1 y.1 y.2.1 y.2.2) r (fun (s : Int × (List Token) × Int × Int) a w' => ∃ (Fx1 : Frz) (as3 : Option Addr) (ns3 : Nat) (cs3 : Nat), Frz.le F Fx1 ∧ HS F w [brx1] Fx1 [.box brx1 50 [.slice as3 ns3 cs3, .int .i64 s.2.2.1, .int .i64 s.2.2.2]] w' ∧ (SlR rp_Token Fx1 as3 ns3 cs3 s.2.1) ∧ Has 19 a [(0, .pointer (some ⟨brx1, 0, none⟩)), (6, .slice as2 ns2 cs2), (7, .int .i64 (l1.length : Int)), (8, .int .i64 s.1)]) (fun (y : (List Token) × Int × Int) a w' => ∃ (Fx2 : Frz) (as4 : Option Addr) (ns4 : Nat) (cs4 : Nat), Frz.le F Fx2 ∧ HS F w [brx1] Fx2 [.box brx1 50 [.slice as4 ns4 cs4, .int .i64 y.2.1, .int .i64 y.2.2]] w' ∧ (SlR rp_Token Fx2 as4 ns4 cs4 y.1) ∧ Has 19 a []) (fun _ => rfl) ?_ ?_ hm ⟨_, as1, ns1, cs1, Frz.refl _, h.pick [0] (by decide) rfl, hs1, hax3.cut (l := [0, 6, 7, 8]) rfl⟩
 ·clear hm; rintro ⟨f4, f5, f6⟩ a wx1 hm ⟨Fx2, as4, ns4, cs4, hF2, hx2, hs4, hax1⟩
  rw [hkont1] at hm
  replace hm := hm
  refine qw_apply (e := .exit 0) hax1 ?_
  refine q_block_hit ?_
  refine b_end0 rfl ?_
  obtain rfl := Option.some.inj hm
  exact ⟨_, _, _, _, rfl, hx2.pick [0] (by decide) rfl, as4, ns4, cs4, rfl, rfl, rfl, hs4⟩
 ·clear hm hkont1; intro hk1 mx1 K ihx1
  rintro ⟨i1, f1, f2, f3⟩ a wx2 hm ⟨Fx1, as3, ns3, cs3, hF1, hx1, hs3, hax2⟩
  simp only [tariff_reader_need_L1_s] at hm
  refine cw_apply hax2 ?_
  refine c_seq (c_region ?_)
  refine r_bin rfl rfl rfl rfl rfl ?_
  refine r_nil (q_then (c_seq ?_))
  rcases cond_some hm with ⟨hb1, hm⟩ | ⟨hb1, hm⟩
  ·refine c_lit 9 rfl hb1 ?_
   refine c_true rfl (c_skip (q_then (c_seq (c_block (c_seq (c_region ?_))))))
   obtain ⟨ex1, he1, hm⟩ := bind_some hm
   refine r_findex (r := Rp.str) u27 sz9 rfl rfl rfl rfl (hs2.mono hF1) he1 ?_
   intro b1 o1 cs1 hf1 hr1
   have hc1 : cs1 = [vs ex1] := hr1
   subst hc1
   refine r_loadF1 (j := 0) ag9 rfl rfl hx1 hf1 rfl rfl ?_
   refine r_assign rfl rfl rfl (r_nil (q_then (c_seq (c_region (r_move rfl rfl rfl (r_move rfl rfl rfl ?_))))))
   obtain ⟨v1, hv1, hm⟩ := bind_some hm
   refine r_callL ent27 rfl rfl rfl rfl hx1 (i := 0) rfl (tariff_reader_take_ok _ _ _ _ hv1 hx1.sat hs3 (hx1.get (i := 0) rfl) (hx1.lendable (i := 0) rfl)) ?_
   rintro _ Fx3 _ _ wx3 hF3 hx3 ⟨as5, ns5, cs5, rfl, rfl, rfl, hs5⟩
   refine r_not rfl rfl rfl (r_nil (q_then ?_))
   rcases cond_some hm with ⟨hb2, hm⟩ | ⟨hb2, hm⟩
   ·refine c_lit 15 rfl hb2 ?_
    refine c_true rfl (c_region (r_move rfl rfl rfl ?_))
    obtain ⟨v2, hv2, hm⟩ := bind_some hm
    refine r_callL ent26 rfl rfl rfl rfl hx3 (i := 0) rfl (tariff_reader_fail_ok _ _ _ _ hv2 hx3.sat hs5 (hx3.get (i := 0) rfl) (hx3.lendable (i := 0) rfl)) ?_
    rintro _ Fx4 _ _ wx4 hF4 hx4 ⟨as6, ns6, cs6, rfl, rfl, rfl, hs6⟩
    refine r_nil (q_block (q_then (c_region ?_)))
    refine r_bin rfl rfl rfl rfl rfl ?_
    refine r_move rfl rfl rfl (r_nil ?_)
    refine q_next (fun a ha => ihx1 ((iadd .i64 i1 1), v2.l, v2.at_, v2.e) a _ hm ?_)
    exact ⟨_, as6, ns6, cs6, ((hF1.trans hF3).trans hF4), hx4.pick [0] (by decide) rfl, hs6, ha.cut (l := [0, 6, 7, 8]) rfl⟩
   ·refine c_lit 15 rfl hb2 ?_
    refine c_false rfl (c_skip (q_block (q_then (c_region ?_))))
    refine r_bin rfl rfl rfl rfl rfl ?_
    refine r_move rfl rfl rfl (r_nil ?_)
    refine q_next (fun a ha => ihx1 ((iadd .i64 i1 1), v1.1.l, v1.1.at_, v1.1.e) a _ hm ?_)
    exact ⟨_, as5, ns5, cs5, (hF1.trans hF3), hx3.pick [0] (by decide) rfl, hs5, ha.cut (l := [0, 6, 7, 8]) rfl⟩
  ·refine c_lit 9 rfl hb1 ?_
   refine c_false rfl (c_exit (q_then_exit (q_then_exit ?_)))
   refine fun a ha => hk1 (f1, f2, f3) a _ hm ?_
   exact ⟨_, as3, ns3, cs3, hF1, hx1.pick [0] (by decide) rfl, hs3, ha.cut (l := []) rfl⟩
def tariff_reader_one (n : Nat) (rx1 : reader) (kind1 : Int) : Option (reader × Token) :=
 (tariff_reader_next n rx1).bind fun v1 =>
 bif v1.2.Kind != kind1 then
  (tariff_reader_fail n v1.1 12).bind fun v2 =>
  some (v2, (⟨0, [], 0, 0⟩ : Token))
 else
  some ((⟨v1.1.l, iadd .i64 v1.1.at_ 1, v1.1.e⟩ : reader), v1.2)
set_option maxHeartbeats 1000000 in
set_option maxRecDepth 1000000 in
theorem tariff_reader_one_ok (n : Nat) (rx1 : reader) (kind1 : Int) (r : (reader × Token)) (hm : tariff_reader_one n rx1 kind1 = some r) {w : World} {F : Frz} (hs : Sat F w) {as1 : Option Addr} {ns1 : Nat} {cs1 : Nat} {brx1 : Nat} (hs1 : SlR rp_Token F as1 ns1 cs1 rx1.l) (hbrx1 : (OE.box brx1 50 [.slice as1 ns1 cs1, .int .i64 rx1.at_, .int .i64 rx1.e]).ok w) (hfrx1 : F brx1 = none) :
  Calls Tryz.prog 22 #[.pointer (some ⟨brx1, 0, none⟩), .int .i64 kind1] w fun e w' => ∃ v F' cs' O', e = .returned v ∧ HS F w [brx1] F' (.box brx1 50 cs' :: O') w' ∧ (∃ (al_0 : Option Addr) (nl_0 : Nat) (cl_0 : Nat), v = .agg #[.int .i64 r.2.Kind, vs r.2.Text, .int .i64 r.2.N, .int .i64 r.2.Pos] ∧ cs' = [.slice al_0 nl_0 cl_0, .int .i64 r.1.at_, .int .i64 r.1.e] ∧ O' = [] ∧ SlR rp_Token F' al_0 nl_0 cl_0 r.1.l) := by
 unfold tariff_reader_one at hm
 have h := HS.lend hs hbrx1 hfrx1
 refine calls_of 23 Tryz.func22 rfl rfl rfl ?_
 refine c_seq (c_region ?_)
 refine r_alloc ze53 rfl rfl rfl h ?_
 intro b1 wx1 hx1
 refine r_nil (q_then (c_seq (c_region (r_move rfl rfl rfl ?_))))
 obtain ⟨v1, hv1, hm⟩ := bind_some hm
 refine r_callL ent54 rfl rfl rfl rfl hx1 (i := 1) rfl (tariff_reader_next_ok _ _ _ hv1 hx1.sat hs1 (hx1.get (i := 1) rfl) (hx1.lendable (i := 1) rfl)) ?_
 rintro _ Fx1 _ _ wx2 hF1 hx2 ⟨as2, ns2, cs2, rfl, rfl, rfl, hs2⟩
 refine r_alloc ze53 rfl rfl rfl hx2 ?_
 intro b2 wx3 hx3
 refine r_store sz53 rfl hx3 rfl rfl rfl rfl (i := 0) rfl rfl rfl rfl ?_
 intro wx4 hx4
 refine r_nil (q_then (c_seq (c_seq (c_region ?_))))
 refine r_fieldAddr fa53_0 rfl rfl rfl ?_
 refine r_loadB1 ag3 rfl rfl hx4 rfl (i := 0) rfl rfl ?_
 refine r_move rfl rfl rfl ?_
 refine r_bin rfl rfl rfl rfl rfl ?_
 refine r_nil (q_then ?_)
 rcases cond_some hm with ⟨hb1, hm⟩ | ⟨hb1, hm⟩
 ·refine c_lit 11 rfl hb1 ?_
  refine c_true rfl (c_seq (c_region (r_move rfl rfl rfl ?_)))
  obtain ⟨v2, hv2, hm⟩ := bind_some hm
  refine r_callL ent26 rfl rfl rfl rfl hx4 (i := 2) rfl (tariff_reader_fail_ok _ _ _ _ hv2 hx4.sat hs2 (hx4.get (i := 2) rfl) (hx4.lendable (i := 2) rfl)) ?_
  rintro _ Fx2 _ _ wx5 hF2 hx5 ⟨as3, ns3, cs3, rfl, rfl, rfl, hs3⟩
  refine r_nil (q_then (c_seq (c_region ?_)))
  refine r_build (v := .agg #[.int .i64 0, vs [], .int .i64 0, .int .i64 0]) rfl rfl rfl (fun _ => by kernel_rfl) ?_
  refine r_store sz53 rfl hx5 rfl rfl rfl rfl (i := 1) rfl rfl rfl rfl ?_
  intro wx6 hx6
  refine r_nil (q_then (c_ret (q_then_ret ?_)))
  refine b_retC rfl ag53 sz53 rfl hx6 rfl (i := 1) rfl ?_
  obtain rfl := Option.some.inj hm
  exact ⟨_, _, _, _, rfl, hx6.pick [2] (by decide) rfl, as3, ns3, cs3, rfl, rfl, rfl, hs3⟩
 ·refine c_lit 11 rfl hb1 ?_
  refine c_false rfl (c_skip (q_then (c_seq (c_region (r_move rfl rfl rfl ?_)))))
  refine r_nilC rfl rfl rfl ?_
  refine r_fieldAddr fa50_1 rfl rfl rfl ?_
  refine r_loadB1 ag3 rfl rfl hx4 rfl (i := 2) rfl rfl ?_
  refine r_bin rfl rfl rfl rfl rfl ?_
  refine r_nilC rfl rfl rfl ?_
  refine r_fieldAddr fa50_1 rfl rfl rfl ?_
  refine r_store sz3 rfl hx4 rfl rfl rfl rfl (i := 2) rfl rfl rfl rfl ?_
  intro wx7 hx7
  refine r_nil (q_then (c_seq (c_region ?_)))
  refine r_loadBW ag53 sz53 rfl rfl hx7 rfl (i := 0) rfl rfl ?_
  refine r_store sz53 rfl hx7 rfl rfl rfl rfl (i := 1) rfl rfl rfl rfl ?_
  intro wx8 hx8
  refine r_nil (q_then (c_ret ?_))
  refine b_retC rfl ag53 sz53 rfl hx8 rfl (i := 1) rfl ?_
  obtain rfl := Option.some.inj hm
  exact ⟨_, _, _, _, rfl, hx8.pick [2] (by decide) rfl, as2, ns2, cs2, rfl, rfl, rfl, hs2⟩
end Go.Proofs.YtpihabofmnnbbaaGreatDoor.M

namespace Go.Proofs.YtpihabofmnnbbaaGreatDoor.M
open Go Go.RowKit Rt
theorem fa24_0 : FieldIs Tryz.prog 24 0 0 := fun _ _ _ => by kernel_rfl
theorem fa24_3 : FieldIs Tryz.prog 24 3 3 := fun _ _ _ => by kernel_rfl
theorem ag22 : IsAgg Tryz.prog 22 false := fun _ => by kernel_rfl
theorem u22 : Tryz.prog.underlying 22 = some (.slice 24) := by kernel_rfl
theorem sz24 : SizeIs Tryz.prog 24 4 := fun _ => by kernel_rfl
theorem ag24 : IsAgg Tryz.prog 24 true := fun _ => by kernel_rfl
theorem ent50 : Ent Tryz.prog 50 := fun _ _ => by kernel_rfl
theorem fa24_2 : FieldIs Tryz.prog 24 2 2 := fun _ _ _ => by kernel_rfl
theorem fa24_1 : FieldIs Tryz.prog 24 1 1 := fun _ _ _ => by kernel_rfl
def ref35_Same_L1 (n : Nat) (rec_ref35_Same : Expr → Expr → Option Bool) (ax1 : Expr) (b1 : Expr) (kont1 : Option Bool) : Nat → Int → Option Bool
 | 0, _ => none
 | mx1 + 1, i1 =>
  bif decide (i1 < (ax1.Args.length : Int)) then
   (ix ax1.Args i1).bind fun ex1 =>
   (ix b1.Args i1).bind fun ex2 =>
   (rec_ref35_Same ex1 ex2).bind fun v4 =>
   bif !v4 then
    some false
   else
    ref35_Same_L1 n rec_ref35_Same ax1 b1 kont1 mx1 (iadd .i64 i1 1)
  else
   kont1
theorem ref35_Same_L1_s (n : Nat) (rec_ref35_Same : Expr → Expr → Option Bool) (ax1 : Expr) (b1 : Expr) (kont1 : Option Bool) (mx1 : Nat) (i1 : Int) : ref35_Same_L1 n rec_ref35_Same ax1 b1 kont1 (mx1 + 1) i1 =
  bif decide (i1 < (ax1.Args.length : Int)) then
   (ix ax1.Args i1).bind fun ex1 =>
   (ix b1.Args i1).bind fun ex2 =>
   (rec_ref35_Same ex1 ex2).bind fun v4 =>
   bif !v4 then
    some false
   else
    ref35_Same_L1 n rec_ref35_Same ax1 b1 kont1 mx1 (iadd .i64 i1 1)
  else
   kont1 := rfl
def ref35_Same : Nat → Expr → Expr → Option Bool
 | 0, _, _ => none
 | n + 1, ax1, b1 =>
  (bif ax1.Op != b1.Op then
   some true
  else
   some (ax1.N != b1.N)).bind fun v1 =>
  (bif v1 then
   some true
  else
   some (!(ax1.Name == b1.Name))).bind fun v2 =>
  (bif v2 then
   some true
  else
   some ((ax1.Args.length : Int) != (b1.Args.length : Int))).bind fun v3 =>
  bif v3 then
   some false
  else
   ref35_Same_L1 n (ref35_Same n) ax1 b1 (
    some true) n 0
theorem ref35_Same_s (n : Nat) (ax1 : Expr) (b1 : Expr) : ref35_Same (n + 1) ax1 b1 =
  (bif ax1.Op != b1.Op then
   some true
  else
   some (ax1.N != b1.N)).bind fun v1 =>
  (bif v1 then
   some true
  else
   some (!(ax1.Name == b1.Name))).bind fun v2 =>
  (bif v2 then
   some true
  else
   some ((ax1.Args.length : Int) != (b1.Args.length : Int))).bind fun v3 =>
  bif v3 then
   some false
  else
   ref35_Same_L1 n (ref35_Same n) ax1 b1 (
    some true) n 0 := rfl
set_option maxHeartbeats 1000000 in
set_option maxRecDepth 1000000 in
theorem ref35_Same_all (n : Nat) : (∀ (ax1 : Expr) (b1 : Expr) (r : Bool) (_ : ref35_Same n ax1 b1 = some r) {w : World} {F : Frz} (_ : Sat F w) {as1 : Option Addr} {ns1 : Nat} {cs1 : Nat} {as2 : Option Addr} {ns2 : Nat} {cs2 : Nat} (_ : SlR rp_Expr F as1 ns1 cs1 ax1.Args) (_ : SlR rp_Expr F as2 ns2 cs2 b1.Args), Calls Tryz.prog 50 #[.agg #[.int .i64 ax1.Op, .int .i64 ax1.N, vs ax1.Name, .slice as1 ns1 cs1], .agg #[.int .i64 b1.Op, .int .i64 b1.N, vs b1.Name, .slice as2 ns2 cs2]] w fun e w' => ∃ v F' O', e = .returned v ∧ HS F w [] F' O' w' ∧ (v = .bool r ∧ O' = [])) := by
 induction n with
 | zero =>
  ·intro ax1 b1 r hm
   exact absurd (show (none : Option Bool) = some r from hm) (by simp)
 | succ n ih =>
  ·intro ax1 b1 r hm w F hs as1 ns1 cs1 as2 ns2 cs2 hs1 hs2
   rw [ref35_Same_s] at hm
   have h := HS.init hs
   refine calls_of 53 Tryz.func50 rfl rfl rfl ?_
   refine c_seq (c_region ?_)
   refine r_box rfl rfl rfl rfl h ?_
   intro b2 wx1 hx1
   refine r_box rfl rfl rfl rfl hx1 ?_
   intro b3 wx2 hx2
   refine r_assign rfl rfl rfl (r_nil (q_then (c_seq (c_seq (c_region ?_)))))
   refine r_fieldAddr fa24_0 rfl rfl rfl ?_
   refine r_loadB1 ag3 rfl rfl hx2 rfl (i := 1) rfl rfl ?_
   refine r_fieldAddr fa24_0 rfl rfl rfl ?_
   refine r_loadB1 ag3 rfl rfl hx2 rfl (i := 0) rfl rfl ?_
   refine r_bin rfl rfl rfl rfl rfl ?_
   refine r_move rfl rfl rfl ?_
   obtain ⟨v1, hb1, hm⟩ := bind_some hm
   refine r_mid 6 (fun a w' => wx2 = w' ∧ Has 53 a [(2, .pointer (some ⟨b2, 0, none⟩)), (3, .pointer (some ⟨b3, 0, none⟩)), (17, .bool v1)]) ?_ ?_
   ·rintro a wx3 ⟨rfl, hax1⟩
    refine rw_apply hax1 ?_
    refine r_move rfl rfl rfl ?_
    obtain ⟨v2, hb2, hm⟩ := bind_some hm
    refine r_mid 6 (fun a w' => wx2 = w' ∧ Has 53 a [(2, .pointer (some ⟨b2, 0, none⟩)), (3, .pointer (some ⟨b3, 0, none⟩)), (24, .bool v2)]) ?_ ?_
    ·rintro a wx4 ⟨rfl, hax2⟩
     refine rw_apply hax2 ?_
     refine r_move rfl rfl rfl ?_
     obtain ⟨v3, hb3, hm⟩ := bind_some hm
     refine r_mid 8 (fun a w' => wx2 = w' ∧ Has 53 a [(2, .pointer (some ⟨b2, 0, none⟩)), (3, .pointer (some ⟨b3, 0, none⟩)), (33, .bool v3)]) ?_ ?_
     ·rintro a wx5 ⟨rfl, hax3⟩
      refine rw_apply hax3 ?_
      refine r_nil (q_then ?_)
      rcases cond_some hm with ⟨hb4, hm⟩ | ⟨hb4, hm⟩
      ·refine c_lit 33 rfl hb4 ?_
       refine c_true rfl (c_seq (c_region (r_assign rfl rfl rfl (r_nil (q_then (c_ret (q_then_ret ?_)))))))
       refine b_ret1 rfl rfl ?_
       obtain rfl := Option.some.inj hm
       exact ⟨_, _, _, rfl, hx2.pick [] (by decide) rfl, rfl, rfl⟩
      ·refine c_lit 33 rfl hb4 ?_
       refine c_false rfl (c_skip (q_then (c_seq (c_seq (c_region (r_assign rfl rfl rfl (r_nil (q_then (c_block ?_)))))))))
       intro a hax6
       obtain ⟨kont1, hkont1⟩ : ∃ kont1 : Option Bool, kont1 = (
       some true) := ⟨_, rfl⟩
       replace hm : (fun m (s : Int) => ref35_Same_L1 n (ref35_Same n) ax1 b1 kont1 m s) n 0 = some r := by rw [hkont1]; exact hm
       refine loopX (id := 0) (fun m (s : Int) => ref35_Same_L1 n (ref35_Same n) ax1 b1 kont1 m s) (fun (y : Unit) => kont1) r (fun (s : Int) a w' => ∃ (Fx1 : Frz), Frz.le F Fx1 ∧ HS F w [] Fx1 [.box b3 24 [.int .i64 b1.Op, .int .i64 b1.N, vs b1.Name, .slice as2 ns2 cs2], .box b2 24 [.int .i64 ax1.Op, .int .i64 ax1.N, vs ax1.Name, .slice as1 ns1 cs1]] w' ∧ Has 53 a [(2, .pointer (some ⟨b2, 0, none⟩)), (3, .pointer (some ⟨b3, 0, none⟩)), (5, .int .i64 s)]) (fun (y : Unit) a w' => ∃ (Fx2 : Frz), Frz.le F Fx2 ∧ HS F w [] Fx2 [] w' ∧ Has 53 a []) (fun _ => rfl) ?_ ?_ hm ⟨_, Frz.refl _, hx2.pick [0, 1] (by decide) rfl, hax6.cut (l := [2, 3, 5]) rfl⟩
       ·clear hm; rintro _u a wx6 hm ⟨Fx2, hF2, hx4, hax4⟩
        rw [hkont1] at hm
        refine qw_apply (e := .exit 0) hax4 ?_
        refine q_block_hit (q_then (c_seq (c_region (r_assign rfl rfl rfl (r_nil (q_then (c_ret ?_)))))))
        refine b_ret1 rfl rfl ?_
        obtain rfl := Option.some.inj hm
        exact ⟨_, _, _, rfl, hx4.pick [] (by decide) rfl, rfl, rfl⟩
       ·clear hm hkont1; intro hk1 mx1 K ihx1
        rintro i1 a wx7 hm ⟨Fx1, hF1, hx3, hax5⟩
        simp only [ref35_Same_L1_s] at hm
        refine cw_apply hax5 ?_
        refine c_seq (c_seq (c_region (r_move rfl rfl rfl ?_)))
        refine r_fieldAddr fa24_3 rfl rfl rfl ?_
        refine r_loadB1 ag22 rfl rfl hx3 rfl (i := 1) rfl rfl ?_
        refine r_lenS hs1.len u22 rfl rfl rfl ?_
        refine r_bin rfl rfl rfl rfl rfl ?_
        refine r_nil (q_then ?_)
        rcases cond_some hm with ⟨hb5, hm⟩ | ⟨hb5, hm⟩
        ·refine c_lit 38 rfl hb5 ?_
         refine c_true rfl (c_skip (q_then (c_seq (c_block (c_seq ?_)))))
         refine c_regionD (by kernel_rfl) (by kernel_rfl) hx3 ?_
         refine q_stp rfl rfl rfl rfl (fun _ _ _ _ => r_fieldAddr fa24_3 rfl rfl rfl (r_nil (qq rfl))) ?_
         refine q_stp rfl rfl rfl rfl (fun _ _ _ hq => r_loadB1 ag22 rfl rfl hq rfl (i := 1) rfl rfl (r_nil (qq rfl))) ?_
         refine q_stp rfl rfl rfl rfl (fun _ _ _ _ => r_move rfl rfl rfl (r_nil (qq rfl))) ?_
         obtain ⟨ex1, he1, hm⟩ := bind_some hm
         obtain ⟨b4, o1, cs1, hf1, hr1, hrun1⟩ := findex_ex (P := Tryz.prog) (r := rp_Expr) u22 sz24 (hs1.mono hF1) he1
         obtain ⟨as3, ns3, cs3, hc1, hs3⟩ := expr_iff.1 hr1
         subst hc1
         refine q_findex rfl rfl rfl rfl hrun1 ?_
         refine q_stp rfl rfl rfl rfl (fun _ _ hleq hq => r_loadFW ag24 sz24 rfl rfl hq (hf1.mono hleq) rfl rfl (r_nil (qq rfl))) ?_
         refine q_stp rfl rfl rfl rfl (fun _ _ _ _ => r_fieldAddr fa24_3 rfl rfl rfl (r_nil (qq rfl))) ?_
         refine q_stp rfl rfl rfl rfl (fun _ _ _ hq => r_loadB1 ag22 rfl rfl hq rfl (i := 0) rfl rfl (r_nil (qq rfl))) ?_
         refine q_stp rfl rfl rfl rfl (fun _ _ _ _ => r_move rfl rfl rfl (r_nil (qq rfl))) ?_
         obtain ⟨ex2, he2, hm⟩ := bind_some hm
         obtain ⟨b5, o2, cs2, hf2, hr2, hrun2⟩ := findex_ex (P := Tryz.prog) (r := rp_Expr) u22 sz24 (hs2.mono hF1) he2
         obtain ⟨as4, ns4, cs4, hc2, hs4⟩ := expr_iff.1 hr2
         subst hc2
         refine q_findex rfl rfl rfl rfl hrun2 ?_
         refine q_stp rfl rfl rfl rfl (fun _ _ hleq hq => r_loadFW ag24 sz24 rfl rfl hq (hf2.mono hleq) rfl rfl (r_nil (qq rfl))) ?_
         obtain ⟨v4, hv1, hm⟩ := bind_some hm
         refine q_callG0 ent50 rfl rfl rfl rfl (fun _ _ hleq hq => ih _ _ _ hv1 hq.sat (hs3.mono hleq) (hs4.mono hleq)) ?_
         refine q_stp rfl rfl rfl rfl (fun _ _ _ _ => r_not rfl rfl rfl (r_nil (qq rfl))) ?_
         refine q_end ?_
         rintro wx8 ⟨Fx3, hF3, hx5⟩
         refine q_then ?_
         rcases cond_some hm with ⟨hb6, hm⟩ | ⟨hb6, hm⟩
         ·refine c_lit 52 rfl hb6 ?_
          refine c_true rfl (c_seq (c_region (r_assign rfl rfl rfl (r_nil (q_then (c_ret (q_block_ret (q_then_ret (q_then_ret (q_block_ret (q_then_ret ?_)))))))))))
          refine b_ret1 rfl rfl ?_
          obtain rfl := Option.some.inj hm
          exact ⟨_, _, _, rfl, hx5.pick [] (by decide) rfl, rfl, rfl⟩
         ·refine c_lit 52 rfl hb6 ?_
          refine c_false rfl (c_skip (q_block (q_then (c_region (r_move rfl rfl rfl ?_)))))
          refine r_bin rfl rfl rfl rfl rfl ?_
          refine r_assign rfl rfl rfl (r_nil ?_)
          refine q_next (fun a ha => ihx1 (iadd .i64 i1 1) a _ hm ?_)
          exact ⟨_, (hF1.trans hF3), hx5.pick [0, 1] (by decide) rfl, ha.cut (l := [2, 3, 5]) rfl⟩
        ·refine c_lit 38 rfl hb5 ?_
         refine c_false rfl (c_exit (q_then_exit (q_then_exit ?_)))
         refine fun a ha => hk1 () a _ hm ?_
         exact ⟨_, hF1, hx3.pick [] (by decide) rfl, ha.cut (l := []) rfl⟩
     ·clear hm
      rcases cond_some hb3 with ⟨hb7, hb3⟩ | ⟨hb7, hb3⟩
      ·refine r_lit 25 rfl hb7 ?_
       refine r_off rfl (by decide) rfl (r_off rfl (by decide) rfl (r_off rfl (by decide) rfl (r_off rfl (by decide) rfl (r_off rfl (by decide) rfl (r_off rfl (by decide) rfl (r_off rfl (by decide) rfl (r_pick_true rfl rfl rfl rfl (r_nil ?_))))))))
       refine q_next (fun a ha => ?_)
       cases hb3
       exact ⟨rfl, ha.cut (l := [2, 3, 33]) rfl⟩
      ·refine r_lit 25 rfl hb7 ?_
       refine r_fieldAddr fa24_3 rfl rfl rfl ?_
       refine r_loadB1 ag22 rfl rfl hx2 rfl (i := 1) rfl rfl ?_
       refine r_lenS hs1.len u22 rfl rfl rfl ?_
       refine r_fieldAddr fa24_3 rfl rfl rfl ?_
       refine r_loadB1 ag22 rfl rfl hx2 rfl (i := 0) rfl rfl ?_
       refine r_lenS hs2.len u22 rfl rfl rfl ?_
       refine r_bin rfl rfl rfl rfl rfl ?_
       refine r_pick_false rfl rfl rfl rfl (r_nil ?_)
       refine q_next (fun a ha => ?_)
       cases hb3
       exact ⟨rfl, ha.cut (l := [2, 3, 33]) rfl⟩
    ·clear hm
     rcases cond_some hb2 with ⟨hb8, hb2⟩ | ⟨hb8, hb2⟩
     ·refine r_lit 18 rfl hb8 ?_
      refine r_off rfl (by decide) rfl (r_off rfl (by decide) rfl (r_off rfl (by decide) rfl (r_off rfl (by decide) rfl (r_off rfl (by decide) rfl (r_pick_true rfl rfl rfl rfl (r_nil ?_))))))
      refine q_next (fun a ha => ?_)
      cases hb2
      exact ⟨rfl, ha.cut (l := [2, 3, 24]) rfl⟩
     ·refine r_lit 18 rfl hb8 ?_
      refine r_fieldAddr fa24_2 rfl rfl rfl ?_
      refine r_loadB1 ag9 rfl rfl hx2 rfl (i := 1) rfl rfl ?_
      refine r_fieldAddr fa24_2 rfl rfl rfl ?_
      refine r_loadB1 ag9 rfl rfl hx2 rfl (i := 0) rfl rfl ?_
      refine r_str rfl rfl rfl rfl rfl ?_
      refine r_pick_false rfl rfl rfl rfl (r_nil ?_)
      refine q_next (fun a ha => ?_)
      cases hb2
      exact ⟨rfl, ha.cut (l := [2, 3, 24]) rfl⟩
   ·clear hm
    rcases cond_some hb1 with ⟨hb9, hb1⟩ | ⟨hb9, hb1⟩
    ·refine r_lit 11 rfl hb9 ?_
     refine r_off rfl (by decide) rfl (r_off rfl (by decide) rfl (r_off rfl (by decide) rfl (r_off rfl (by decide) rfl (r_off rfl (by decide) rfl (r_pick_true rfl rfl rfl rfl (r_nil ?_))))))
     refine q_next (fun a ha => ?_)
     cases hb1
     exact ⟨rfl, ha.cut (l := [2, 3, 17]) rfl⟩
    ·refine r_lit 11 rfl hb9 ?_
     refine r_fieldAddr fa24_1 rfl rfl rfl ?_
     refine r_loadB1 ag3 rfl rfl hx2 rfl (i := 1) rfl rfl ?_
     refine r_fieldAddr fa24_1 rfl rfl rfl ?_
     refine r_loadB1 ag3 rfl rfl hx2 rfl (i := 0) rfl rfl ?_
     refine r_bin rfl rfl rfl rfl rfl ?_
     refine r_pick_false rfl rfl rfl rfl (r_nil ?_)
     refine q_next (fun a ha => ?_)
     cases hb1
     exact ⟨rfl, ha.cut (l := [2, 3, 17]) rfl⟩
theorem ref35_Same_ok (n : Nat) (ax1 : Expr) (b1 : Expr) (r : Bool) (hm : ref35_Same n ax1 b1 = some r) {w : World} {F : Frz} (hs : Sat F w) {as1 : Option Addr} {ns1 : Nat} {cs1 : Nat} {as2 : Option Addr} {ns2 : Nat} {cs2 : Nat} (hs1 : SlR rp_Expr F as1 ns1 cs1 ax1.Args) (hs2 : SlR rp_Expr F as2 ns2 cs2 b1.Args) :
  Calls Tryz.prog 50 #[.agg #[.int .i64 ax1.Op, .int .i64 ax1.N, vs ax1.Name, .slice as1 ns1 cs1], .agg #[.int .i64 b1.Op, .int .i64 b1.N, vs b1.Name, .slice as2 ns2 cs2]] w fun e w' => ∃ v F' O', e = .returned v ∧ HS F w [] F' O' w' ∧ (v = .bool r ∧ O' = []) :=
 (ref35_Same_all n) ax1 b1 r hm hs hs1 hs2
structure Tariff where
 Name : Bs
 Fee : Expr
 Cap : Int
 deriving Inhabited
def rp_Tariff : Rp Tariff where
 k := 6
 R := fun F cs x => ∃ (a4 : Option Addr) (n4 : Nat) (c4 : Nat), cs = [vs x.Name, .int .i64 x.Fee.Op, .int .i64 x.Fee.N, vs x.Fee.Name, .slice a4 n4 c4, .int .i64 x.Cap] ∧ SlR rp_Expr F a4 n4 c4 x.Fee.Args
 len := by rintro F cs x ⟨a4, n4, c4, h, _⟩; simp [h]
 mono := by rintro F F' cs x hF ⟨a4, n4, c4, h, h0⟩; exact ⟨a4, n4, c4, h, h0.mono hF⟩
 one := by rintro F cs x ⟨a4, n4, c4, h, _⟩ u hu; subst h; simp at hu; rcases hu with rfl | rfl | rfl | rfl | rfl | rfl <;> rfl
theorem fa26_0 : FieldIs Tryz.prog 26 0 0 := fun _ _ _ => by kernel_rfl
theorem fa26_1 : FieldIs Tryz.prog 26 1 1 := fun _ _ _ => by kernel_rfl
theorem fa26_2 : FieldIs Tryz.prog 26 2 5 := fun _ _ _ => by kernel_rfl
def ref35_SameTariff (n : Nat) (ax1 : Tariff) (b1 : Tariff) : Option Bool :=
 (bif ax1.Name == b1.Name then
  some (ax1.Cap == b1.Cap)
 else
  some false).bind fun v1 =>
 (bif v1 then
  (ref35_Same n ax1.Fee b1.Fee).bind fun v3 =>
  some v3
 else
  some false).bind fun v2 =>
 some v2
set_option maxHeartbeats 1000000 in
set_option maxRecDepth 1000000 in
theorem ref35_SameTariff_ok (n : Nat) (ax1 : Tariff) (b1 : Tariff) (r : Bool) (hm : ref35_SameTariff n ax1 b1 = some r) {w : World} {F : Frz} (hs : Sat F w) {as1 : Option Addr} {ns1 : Nat} {cs1 : Nat} {as2 : Option Addr} {ns2 : Nat} {cs2 : Nat} (hs1 : SlR rp_Expr F as1 ns1 cs1 ax1.Fee.Args) (hs2 : SlR rp_Expr F as2 ns2 cs2 b1.Fee.Args) :
  Calls Tryz.prog 13 #[.agg #[vs ax1.Name, .int .i64 ax1.Fee.Op, .int .i64 ax1.Fee.N, vs ax1.Fee.Name, .slice as1 ns1 cs1, .int .i64 ax1.Cap], .agg #[vs b1.Name, .int .i64 b1.Fee.Op, .int .i64 b1.Fee.N, vs b1.Fee.Name, .slice as2 ns2 cs2, .int .i64 b1.Cap]] w fun e w' => ∃ v F' O', e = .returned v ∧ HS F w [] F' O' w' ∧ (v = .bool r ∧ O' = []) := by
 unfold ref35_SameTariff at hm
 have h := HS.init hs
 refine calls_of 24 Tryz.func13 rfl rfl rfl ?_
 refine c_seq (c_region ?_)
 refine r_box rfl rfl rfl rfl h ?_
 intro b2 wx1 hx1
 refine r_box rfl rfl rfl rfl hx1 ?_
 intro b3 wx2 hx2
 refine r_assign rfl rfl rfl (r_nil (q_then (c_seq (c_region ?_))))
 refine r_fieldAddr fa26_0 rfl rfl rfl ?_
 refine r_loadB1 ag9 rfl rfl hx2 rfl (i := 1) rfl rfl ?_
 refine r_fieldAddr fa26_0 rfl rfl rfl ?_
 refine r_loadB1 ag9 rfl rfl hx2 rfl (i := 0) rfl rfl ?_
 refine r_str rfl rfl rfl rfl rfl ?_
 refine r_move rfl rfl rfl ?_
 obtain ⟨v1, hb1, hm⟩ := bind_some hm
 refine r_mid 6 (fun a w' => wx2 = w' ∧ Has 24 a [(2, .pointer (some ⟨b2, 0, none⟩)), (3, .pointer (some ⟨b3, 0, none⟩)), (16, .bool v1)]) ?_ ?_
 ·rintro a wx3 ⟨rfl, hax1⟩
  refine rw_apply hax1 ?_
  refine r_move rfl rfl rfl ?_
  obtain ⟨v2, hb2, hm⟩ := bind_some hm
  refine r_mid 6 (fun a w' => ∃ (Fx1 : Frz), Frz.le F Fx1 ∧ HS F w [] Fx1 [.box b3 26 [vs b1.Name, .int .i64 b1.Fee.Op, .int .i64 b1.Fee.N, vs b1.Fee.Name, .slice as2 ns2 cs2, .int .i64 b1.Cap], .box b2 26 [vs ax1.Name, .int .i64 ax1.Fee.Op, .int .i64 ax1.Fee.N, vs ax1.Fee.Name, .slice as1 ns1 cs1, .int .i64 ax1.Cap]] w' ∧ Has 24 a [(23, .bool v2)]) ?_ ?_
  ·rintro a wx4 ⟨Fx1, hF1, hx3, hax2⟩
   refine rw_apply hax2 ?_
   refine r_assign rfl rfl rfl (r_nil (q_then (c_ret ?_)))
   refine b_ret1 rfl rfl ?_
   obtain rfl := Option.some.inj hm
   exact ⟨_, _, _, rfl, hx3.pick [] (by decide) rfl, rfl, rfl⟩
  ·clear hm
   rcases cond_some hb2 with ⟨hb3, hb2⟩ | ⟨hb3, hb2⟩
   ·refine r_lit 17 rfl hb3 ?_
    refine r_fieldAddr fa26_1 rfl rfl rfl ?_
    refine r_loadBA (cs' := [.int .i64 ax1.Fee.Op, .int .i64 ax1.Fee.N, vs ax1.Fee.Name, .slice as1 ns1 cs1]) ag24 sz24 rfl rfl hx2 rfl (i := 1) rfl rfl rfl ?_
    refine r_fieldAddr fa26_1 rfl rfl rfl ?_
    refine r_loadBA (cs' := [.int .i64 b1.Fee.Op, .int .i64 b1.Fee.N, vs b1.Fee.Name, .slice as2 ns2 cs2]) ag24 sz24 rfl rfl hx2 rfl (i := 0) rfl rfl rfl ?_
    obtain ⟨v3, hv1, hb2⟩ := bind_some hb2
    refine r_callG0 ent50 rfl rfl rfl rfl hx2 (ref35_Same_ok _ _ _ _ hv1 hx2.sat hs1 hs2) ?_
    rintro _ Fx2 _ wx5 hF2 hx4 ⟨rfl, rfl⟩
    refine r_pick_true rfl rfl rfl rfl (r_nil ?_)
    refine q_next (fun a ha => ?_)
    cases hb2
    exact ⟨_, hF2, hx4.pick [0, 1] (by decide) rfl, ha.cut (l := [23]) rfl⟩
   ·refine r_lit 17 rfl hb3 ?_
    refine r_off rfl (by decide) rfl (r_off rfl (by decide) rfl (r_off rfl (by decide) rfl (r_off rfl (by decide) rfl (r_off rfl (by decide) rfl (r_pick_false rfl rfl rfl rfl (r_nil ?_))))))
    refine q_next (fun a ha => ?_)
    cases hb2
    exact ⟨_, Frz.refl _, hx2.pick [0, 1] (by decide) rfl, ha.cut (l := [23]) rfl⟩
 ·clear hm
  rcases cond_some hb1 with ⟨hb4, hb1⟩ | ⟨hb4, hb1⟩
  ·refine r_lit 10 rfl hb4 ?_
   refine r_fieldAddr fa26_2 rfl rfl rfl ?_
   refine r_loadB1 ag3 rfl rfl hx2 rfl (i := 1) rfl rfl ?_
   refine r_fieldAddr fa26_2 rfl rfl rfl ?_
   refine r_loadB1 ag3 rfl rfl hx2 rfl (i := 0) rfl rfl ?_
   refine r_bin rfl rfl rfl rfl rfl ?_
   refine r_pick_true rfl rfl rfl rfl (r_nil ?_)
   refine q_next (fun a ha => ?_)
   cases hb1
   exact ⟨rfl, ha.cut (l := [2, 3, 16]) rfl⟩
  ·refine r_lit 10 rfl hb4 ?_
   refine r_off rfl (by decide) rfl (r_off rfl (by decide) rfl (r_off rfl (by decide) rfl (r_off rfl (by decide) rfl (r_off rfl (by decide) rfl (r_pick_false rfl rfl rfl rfl (r_nil ?_))))))
   refine q_next (fun a ha => ?_)
   cases hb1
   exact ⟨rfl, ha.cut (l := [2, 3, 16]) rfl⟩
theorem ent51 : Ent Tryz.prog 51 := fun _ _ => by kernel_rfl
def ref35_size_L1 (n : Nat) (rec_ref35_size : Expr → Int → Int → Option Int) (x1 : Expr) (levels1 : Int) (kont1 : Int → Option Int) : Nat → Int → Int → Option Int
 | 0, _, _ => none
 | mx1 + 1, nx2, i1 =>
  (bif decide (i1 < (x1.Args.length : Int)) then
   some (decide (0 ≤ nx2))
  else
   some false).bind fun v1 =>
  bif v1 then
   (ix x1.Args i1).bind fun ex1 =>
   (rec_ref35_size ex1 nx2 (isub .i64 levels1 1)).bind fun v2 =>
   ref35_size_L1 n rec_ref35_size x1 levels1 kont1 mx1 v2 (iadd .i64 i1 1)
  else
   kont1 nx2
theorem ref35_size_L1_s (n : Nat) (rec_ref35_size : Expr → Int → Int → Option Int) (x1 : Expr) (levels1 : Int) (kont1 : Int → Option Int) (mx1 : Nat) (nx2 : Int) (i1 : Int) : ref35_size_L1 n rec_ref35_size x1 levels1 kont1 (mx1 + 1) nx2 i1 =
  (bif decide (i1 < (x1.Args.length : Int)) then
   some (decide (0 ≤ nx2))
  else
   some false).bind fun v1 =>
  bif v1 then
   (ix x1.Args i1).bind fun ex1 =>
   (rec_ref35_size ex1 nx2 (isub .i64 levels1 1)).bind fun v2 =>
   ref35_size_L1 n rec_ref35_size x1 levels1 kont1 mx1 v2 (iadd .i64 i1 1)
  else
   kont1 nx2 := rfl
def ref35_size : Nat → Expr → Int → Int → Option Int
 | 0, _, _, _ => none
 | n + 1, x1, nx1, levels1 =>
  bif decide (levels1 < 1) then
   some (-1)
  else
   ref35_size_L1 n (ref35_size n) x1 levels1 (fun (nx3 : Int) =>
    some nx3) n (isub .i64 nx1 1) 0
theorem ref35_size_s (n : Nat) (x1 : Expr) (nx1 : Int) (levels1 : Int) : ref35_size (n + 1) x1 nx1 levels1 =
  bif decide (levels1 < 1) then
   some (-1)
  else
   ref35_size_L1 n (ref35_size n) x1 levels1 (fun (nx3 : Int) =>
    some nx3) n (isub .i64 nx1 1) 0 := rfl
set_option maxHeartbeats 1000000 in
set_option maxRecDepth 1000000 in
theorem ref35_size_all (n : Nat) : (∀ (x1 : Expr) (nx1 : Int) (levels1 : Int) (r : Int) (_ : ref35_size n x1 nx1 levels1 = some r) {w : World} {F : Frz} (_ : Sat F w) {as1 : Option Addr} {ns1 : Nat} {cs1 : Nat} (_ : SlR rp_Expr F as1 ns1 cs1 x1.Args), Calls Tryz.prog 51 #[.agg #[.int .i64 x1.Op, .int .i64 x1.N, vs x1.Name, .slice as1 ns1 cs1], .int .i64 nx1, .int .i64 levels1] w fun e w' => ∃ v F' O', e = .returned v ∧ HS F w [] F' O' w' ∧ (v = .int .i64 r ∧ O' = [])) := by
 induction n with
 | zero =>
  ·intro x1 nx1 levels1 r hm
   exact absurd (show (none : Option Int) = some r from hm) (by simp)
 | succ n ih =>
  ·intro x1 nx1 levels1 r hm w F hs as1 ns1 cs1 hs1
   rw [ref35_size_s] at hm
   have h := HS.init hs
   refine calls_of 33 Tryz.func51 rfl rfl rfl ?_
   refine c_seq (c_region ?_)
   refine r_box rfl rfl rfl rfl h ?_
   intro b1 wx1 hx1
   refine r_assign rfl rfl rfl (r_nil (q_then (c_seq (c_region (r_move rfl rfl rfl ?_)))))
   refine r_bin rfl rfl rfl rfl rfl ?_
   refine r_assign rfl rfl rfl (r_nil (q_then (c_seq (c_seq (c_region (r_move rfl rfl rfl ?_))))))
   refine r_bin rfl rfl rfl rfl rfl ?_
   refine r_nil (q_then ?_)
   rcases cond_some hm with ⟨hb1, hm⟩ | ⟨hb1, hm⟩
   ·refine c_lit 11 rfl hb1 ?_
    refine c_true rfl (c_seq (c_region (r_assign rfl rfl rfl (r_nil (q_then (c_ret (q_then_ret ?_)))))))
    refine b_ret1 rfl rfl ?_
    obtain rfl := Option.some.inj hm
    exact ⟨_, _, _, rfl, hx1.pick [] (by decide) rfl, rfl, rfl⟩
   ·refine c_lit 11 rfl hb1 ?_
    refine c_false rfl (c_skip (q_then (c_seq (c_seq (c_region (r_assign rfl rfl rfl (r_nil (q_then (c_block ?_)))))))))
    intro a hax4
    obtain ⟨kont1, hkont1⟩ : ∃ kont1 : Int → Option Int, kont1 = (fun (nx3 : Int) =>
       some nx3) := ⟨_, rfl⟩
    replace hm : (fun m (s : Int × Int) => ref35_size_L1 n (ref35_size n) x1 levels1 kont1 m s.1 s.2) n ((isub .i64 nx1 1), 0) = some r := by rw [hkont1]; exact hm
    refine loopX (id := 0) (fun m (s : Int × Int) => ref35_size_L1 n (ref35_size n) x1 levels1 kont1 m s.1 s.2) (fun (y : Int) => kont1 y) r (fun (s : Int × Int) a w' => ∃ (Fx1 : Frz), Frz.le F Fx1 ∧ HS F w [] Fx1 [.box b1 24 [.int .i64 x1.Op, .int .i64 x1.N, vs x1.Name, .slice as1 ns1 cs1]] w' ∧ Has 33 a [(1, .int .i64 s.1), (2, .int .i64 levels1), (3, .pointer (some ⟨b1, 0, none⟩)), (7, .int .i64 s.2)]) (fun (y : Int) a w' => ∃ (Fx2 : Frz), Frz.le F Fx2 ∧ HS F w [] Fx2 [] w' ∧ Has 33 a [(1, .int .i64 y)]) (fun _ => rfl) ?_ ?_ hm ⟨_, Frz.refl _, hx1.pick [0] (by decide) rfl, hax4.cut (l := [1, 2, 3, 7]) rfl⟩
    ·clear hm; rintro nx3 a wx2 hm ⟨Fx2, hF2, hx3, hax1⟩
     rw [hkont1] at hm
     replace hm := hm
     refine qw_apply (e := .exit 0) hax1 ?_
     refine q_block_hit (q_then (c_seq (c_region (r_move rfl rfl rfl (r_assign rfl rfl rfl (r_nil (q_then (c_ret ?_))))))))
     refine b_ret1 rfl rfl ?_
     obtain rfl := Option.some.inj hm
     exact ⟨_, _, _, rfl, hx3.pick [] (by decide) rfl, rfl, rfl⟩
    ·clear hm hkont1; intro hk1 mx1 K ihx1
     rintro ⟨nx2, i1⟩ a wx3 hm ⟨Fx1, hF1, hx2, hax2⟩
     simp only [ref35_size_L1_s] at hm
     refine cw_apply hax2 ?_
     refine c_seq (c_seq (c_region (r_move rfl rfl rfl ?_)))
     refine r_fieldAddr fa24_3 rfl rfl rfl ?_
     refine r_loadB1 ag22 rfl rfl hx2 rfl (i := 0) rfl rfl ?_
     refine r_lenS hs1.len u22 rfl rfl rfl ?_
     refine r_bin rfl rfl rfl rfl rfl ?_
     refine r_move rfl rfl rfl ?_
     obtain ⟨v1, hb2, hm⟩ := bind_some hm
     refine r_mid 3 (fun a w' => wx3 = w' ∧ Has 33 a [(1, .int .i64 nx2), (2, .int .i64 levels1), (3, .pointer (some ⟨b1, 0, none⟩)), (7, .int .i64 i1), (20, .bool v1)]) ?_ ?_
     ·rintro a wx4 ⟨rfl, hax3⟩
      refine rw_apply hax3 ?_
      refine r_nil (q_then ?_)
      rcases cond_some hm with ⟨hb3, hm⟩ | ⟨hb3, hm⟩
      ·refine c_lit 20 rfl hb3 ?_
       refine c_true rfl (c_skip (q_then (c_seq (c_block (c_region ?_)))))
       refine r_fieldAddr fa24_3 rfl rfl rfl ?_
       refine r_loadB1 ag22 rfl rfl hx2 rfl (i := 0) rfl rfl ?_
       refine r_move rfl rfl rfl ?_
       obtain ⟨ex1, he1, hm⟩ := bind_some hm
       refine r_findex (r := rp_Expr) u22 sz24 rfl rfl rfl rfl (hs1.mono hF1) he1 ?_
       intro b2 o1 cs1 hf1 hr1
       obtain ⟨as2, ns2, cs2, hc1, hs2⟩ := expr_iff.1 hr1
       subst hc1
       refine r_loadFW ag24 sz24 rfl rfl hx2 hf1 rfl rfl ?_
       refine r_move rfl rfl rfl (r_move rfl rfl rfl ?_)
       refine r_bin rfl rfl rfl rfl rfl ?_
       obtain ⟨v2, hv1, hm⟩ := bind_some hm
       refine r_callG0 ent51 rfl rfl rfl rfl hx2 (ih _ _ _ _ hv1 hx2.sat hs2) ?_
       rintro _ Fx3 _ wx5 hF3 hx4 ⟨rfl, rfl⟩
       refine r_assign rfl rfl rfl (r_nil (q_block (q_then (c_region (r_move rfl rfl rfl ?_)))))
       refine r_bin rfl rfl rfl rfl rfl ?_
       refine r_assign rfl rfl rfl (r_nil ?_)
       refine q_next (fun a ha => ihx1 (v2, (iadd .i64 i1 1)) a _ hm ?_)
       exact ⟨_, (hF1.trans hF3), hx4.pick [0] (by decide) rfl, ha.cut (l := [1, 2, 3, 7]) rfl⟩
      ·refine c_lit 20 rfl hb3 ?_
       refine c_false rfl (c_exit (q_then_exit (q_then_exit ?_)))
       refine fun a ha => hk1 nx2 a _ hm ?_
       exact ⟨_, hF1, hx2.pick [] (by decide) rfl, ha.cut (l := [1]) rfl⟩
     ·clear hm
      rcases cond_some hb2 with ⟨hb4, hb2⟩ | ⟨hb4, hb2⟩
      ·refine r_lit 17 rfl hb4 ?_
       refine r_move rfl rfl rfl ?_
       refine r_bin rfl rfl rfl rfl rfl ?_
       refine r_pick_true rfl rfl rfl rfl (r_nil ?_)
       refine q_next (fun a ha => ?_)
       cases hb2
       exact ⟨rfl, ha.cut (l := [1, 2, 3, 7, 20]) rfl⟩
      ·refine r_lit 17 rfl hb4 ?_
       refine r_off rfl (by decide) rfl (r_off rfl (by decide) rfl (r_pick_false rfl rfl rfl rfl (r_nil ?_)))
       refine q_next (fun a ha => ?_)
       cases hb2
       exact ⟨rfl, ha.cut (l := [1, 2, 3, 7, 20]) rfl⟩
theorem ref35_size_ok (n : Nat) (x1 : Expr) (nx1 : Int) (levels1 : Int) (r : Int) (hm : ref35_size n x1 nx1 levels1 = some r) {w : World} {F : Frz} (hs : Sat F w) {as1 : Option Addr} {ns1 : Nat} {cs1 : Nat} (hs1 : SlR rp_Expr F as1 ns1 cs1 x1.Args) :
  Calls Tryz.prog 51 #[.agg #[.int .i64 x1.Op, .int .i64 x1.N, vs x1.Name, .slice as1 ns1 cs1], .int .i64 nx1, .int .i64 levels1] w fun e w' => ∃ v F' O', e = .returned v ∧ HS F w [] F' O' w' ∧ (v = .int .i64 r ∧ O' = []) :=
 (ref35_size_all n) x1 nx1 levels1 r hm hs hs1
def ref35_Few (n : Nat) (x1 : Expr) (nodes1 : Int) (levels1 : Int) : Option Bool :=
 (ref35_size n x1 nodes1 levels1).bind fun v1 =>
 some (decide (0 ≤ v1))
set_option maxHeartbeats 1000000 in
set_option maxRecDepth 1000000 in
theorem ref35_Few_ok (n : Nat) (x1 : Expr) (nodes1 : Int) (levels1 : Int) (r : Bool) (hm : ref35_Few n x1 nodes1 levels1 = some r) {w : World} {F : Frz} (hs : Sat F w) {as1 : Option Addr} {ns1 : Nat} {cs1 : Nat} (hs1 : SlR rp_Expr F as1 ns1 cs1 x1.Args) :
  Calls Tryz.prog 18 #[.agg #[.int .i64 x1.Op, .int .i64 x1.N, vs x1.Name, .slice as1 ns1 cs1], .int .i64 nodes1, .int .i64 levels1] w fun e w' => ∃ v F' O', e = .returned v ∧ HS F w [] F' O' w' ∧ (v = .bool r ∧ O' = []) := by
 unfold ref35_Few at hm
 have h := HS.init hs
 refine calls_of 12 Tryz.func18 rfl rfl rfl ?_
 refine c_seq (c_region ?_)
 refine r_box rfl rfl rfl rfl h ?_
 intro b1 wx1 hx1
 refine r_assign rfl rfl rfl (r_nil (q_then (c_seq (c_region ?_))))
 refine r_loadBW ag24 sz24 rfl rfl hx1 rfl (i := 0) rfl rfl ?_
 refine r_move rfl rfl rfl (r_move rfl rfl rfl ?_)
 obtain ⟨v1, hv1, hm⟩ := bind_some hm
 refine r_callG0 ent51 rfl rfl rfl rfl hx1 (ref35_size_ok _ _ _ _ _ hv1 hx1.sat hs1) ?_
 rintro _ Fx1 _ wx2 hF1 hx2 ⟨rfl, rfl⟩
 refine r_bin rfl rfl rfl rfl rfl ?_
 refine r_assign rfl rfl rfl (r_nil (q_then (c_ret ?_)))
 refine b_ret1 rfl rfl ?_
 obtain rfl := Option.some.inj hm
 exact ⟨_, _, _, rfl, hx2.pick [] (by decide) rfl, rfl, rfl⟩
theorem ze24 : ZeroIs Tryz.prog 24 (.agg #[.int .i64 0, .int .i64 0, vs [], .slice none 0 0]) := fun _ => by kernel_rfl
theorem ent25 : Ent Tryz.prog 25 := fun _ _ => by kernel_rfl
def tariff_sized_L1 (n : Nat) (rec_tariff_sized : Expr → Int → Int → Option (Int × Bool)) (x1 : Expr) (levels1 : Int) (kont1 : Int → Option (Int × Bool)) : Nat → Int → Int → Option (Int × Bool)
 | 0, _, _ => none
 | mx1 + 1, i1, f1 =>
  bif decide (i1 < (x1.Args.length : Int)) then
   (ix x1.Args i1).bind fun ex1 =>
   (rec_tariff_sized ex1 (isub .i64 levels1 1) f1).bind fun v2 =>
   bif !v2.2 then
    some (v2.1, false)
   else
    tariff_sized_L1 n rec_tariff_sized x1 levels1 kont1 mx1 (iadd .i64 i1 1) v2.1
  else
   kont1 f1
theorem tariff_sized_L1_s (n : Nat) (rec_tariff_sized : Expr → Int → Int → Option (Int × Bool)) (x1 : Expr) (levels1 : Int) (kont1 : Int → Option (Int × Bool)) (mx1 : Nat) (i1 : Int) (f1 : Int) : tariff_sized_L1 n rec_tariff_sized x1 levels1 kont1 (mx1 + 1) i1 f1 =
  bif decide (i1 < (x1.Args.length : Int)) then
   (ix x1.Args i1).bind fun ex1 =>
   (rec_tariff_sized ex1 (isub .i64 levels1 1) f1).bind fun v2 =>
   bif !v2.2 then
    some (v2.1, false)
   else
    tariff_sized_L1 n rec_tariff_sized x1 levels1 kont1 mx1 (iadd .i64 i1 1) v2.1
  else
   kont1 f1 := rfl
def tariff_sized : Nat → Expr → Int → Int → Option (Int × Bool)
 | 0, _, _, _ => none
 | n + 1, x1, levels1, left1 =>
  (bif decide (levels1 < 1) then
   some true
  else
   some (decide ((isub .i64 left1 1) < 0))).bind fun v1 =>
  bif v1 then
   some (isub .i64 left1 1, false)
  else
   tariff_sized_L1 n (tariff_sized n) x1 levels1 (fun (f2 : Int) =>
    some (f2, true)) n 0 (isub .i64 left1 1)
theorem tariff_sized_s (n : Nat) (x1 : Expr) (levels1 : Int) (left1 : Int) : tariff_sized (n + 1) x1 levels1 left1 =
  (bif decide (levels1 < 1) then
   some true
  else
   some (decide ((isub .i64 left1 1) < 0))).bind fun v1 =>
  bif v1 then
   some (isub .i64 left1 1, false)
  else
   tariff_sized_L1 n (tariff_sized n) x1 levels1 (fun (f2 : Int) =>
    some (f2, true)) n 0 (isub .i64 left1 1) := rfl
set_option maxHeartbeats 1000000 in
set_option maxRecDepth 1000000 in
theorem tariff_sized_all (n : Nat) : (∀ (x1 : Expr) (levels1 : Int) (left1 : Int) (r : (Int × Bool)) (_ : tariff_sized n x1 levels1 left1 = some r) {w : World} {F : Frz} (_ : Sat F w) {as1 : Option Addr} {ns1 : Nat} {cs1 : Nat} {bleft1 : Nat} (_ : SlR rp_Expr F as1 ns1 cs1 x1.Args) (_ : (OE.box bleft1 3 [.int .i64 left1]).ok w) (_ : F bleft1 = none), Calls Tryz.prog 25 #[.agg #[.int .i64 x1.Op, .int .i64 x1.N, vs x1.Name, .slice as1 ns1 cs1], .int .i64 levels1, .pointer (some ⟨bleft1, 0, none⟩)] w fun e w' => ∃ v F' cs' O', e = .returned v ∧ HS F w [bleft1] F' (.box bleft1 3 cs' :: O') w' ∧ (v = .bool r.2 ∧ cs' = [.int .i64 r.1] ∧ O' = [])) := by
 induction n with
 | zero =>
  ·intro x1 levels1 left1 r hm
   exact absurd (show (none : Option (Int × Bool)) = some r from hm) (by simp)
 | succ n ih =>
  ·intro x1 levels1 left1 r hm w F hs as1 ns1 cs1 bleft1 hs1 hbleft1 hfleft1
   rw [tariff_sized_s] at hm
   have h := HS.lend hs hbleft1 hfleft1
   refine calls_of 36 Tryz.func25 rfl rfl rfl ?_
   refine c_seq (c_region ?_)
   refine r_box rfl rfl rfl rfl h ?_
   intro b1 wx1 hx1
   refine r_assign rfl rfl rfl (r_nil (q_then (c_seq (c_region (r_move rfl rfl rfl ?_)))))
   refine r_nilC rfl rfl rfl ?_
   refine r_loadB1 ag3 rfl rfl hx1 rfl (i := 1) rfl rfl ?_
   refine r_bin rfl rfl rfl rfl rfl ?_
   refine r_nilC rfl rfl rfl ?_
   refine r_store sz3 rfl hx1 rfl rfl rfl rfl (i := 1) rfl rfl rfl rfl ?_
   intro wx2 hx2
   refine r_nil (q_then (c_seq (c_seq (c_region (r_move rfl rfl rfl ?_)))))
   refine r_bin rfl rfl rfl rfl rfl ?_
   refine r_move rfl rfl rfl ?_
   obtain ⟨v1, hb1, hm⟩ := bind_some hm
   refine r_mid 5 (fun a w' => wx2 = w' ∧ Has 36 a [(1, .int .i64 levels1), (2, .pointer (some ⟨bleft1, 0, none⟩)), (3, .pointer (some ⟨b1, 0, none⟩)), (21, .bool v1)]) ?_ ?_
   ·rintro a wx3 ⟨rfl, hax1⟩
    refine rw_apply hax1 ?_
    refine r_nil (q_then ?_)
    rcases cond_some hm with ⟨hb2, hm⟩ | ⟨hb2, hm⟩
    ·refine c_lit 21 rfl hb2 ?_
     refine c_true rfl (c_seq (c_region (r_assign rfl rfl rfl (r_nil (q_then (c_ret (q_then_ret ?_)))))))
     refine b_ret1 rfl rfl ?_
     obtain rfl := Option.some.inj hm
     exact ⟨_, _, _, _, rfl, hx2.pick [1] (by decide) rfl, rfl, rfl, rfl⟩
    ·refine c_lit 21 rfl hb2 ?_
     refine c_false rfl (c_skip (q_then (c_seq (c_seq (c_region ?_)))))
     refine r_fieldAddr fa24_3 rfl rfl rfl ?_
     refine r_loadB1 ag22 rfl rfl hx2 rfl (i := 0) rfl rfl ?_
     refine r_lenS hs1.len u22 rfl rfl rfl ?_
     refine r_move rfl rfl rfl (r_nil (q_then (c_block ?_)))
     intro a hax4
     obtain ⟨kont1, hkont1⟩ : ∃ kont1 : Int → Option (Int × Bool), kont1 = (fun (f2 : Int) =>
       some (f2, true)) := ⟨_, rfl⟩
     replace hm : (fun m (s : Int × Int) => tariff_sized_L1 n (tariff_sized n) x1 levels1 kont1 m s.1 s.2) n (0, (isub .i64 left1 1)) = some r := by rw [hkont1]; exact hm
     refine loopX (id := 0) (fun m (s : Int × Int) => tariff_sized_L1 n (tariff_sized n) x1 levels1 kont1 m s.1 s.2) (fun (y : Int) => kont1 y) r (fun (s : Int × Int) a w' => ∃ (Fx1 : Frz), Frz.le F Fx1 ∧ HS F w [bleft1] Fx1 [.box bleft1 3 [.int .i64 s.2]] w' ∧ Has 36 a [(1, .int .i64 levels1), (2, .pointer (some ⟨bleft1, 0, none⟩)), (23, .slice as1 ns1 cs1), (24, .int .i64 (x1.Args.length : Int)), (25, .int .i64 s.1)]) (fun (y : Int) a w' => ∃ (Fx2 : Frz), Frz.le F Fx2 ∧ HS F w [bleft1] Fx2 [.box bleft1 3 [.int .i64 y]] w' ∧ Has 36 a []) (fun _ => rfl) ?_ ?_ hm ⟨_, Frz.refl _, hx2.pick [1] (by decide) rfl, hax4.cut (l := [1, 2, 23, 24, 25]) rfl⟩
     ·clear hm; rintro f2 a wx4 hm ⟨Fx2, hF2, hx4, hax2⟩
      rw [hkont1] at hm
      replace hm := hm
      refine qw_apply (e := .exit 0) hax2 ?_
      refine q_block_hit (q_then (c_seq (c_region (r_assign rfl rfl rfl (r_nil (q_then (c_ret ?_)))))))
      refine b_ret1 rfl rfl ?_
      obtain rfl := Option.some.inj hm
      exact ⟨_, _, _, _, rfl, hx4.pick [0] (by decide) rfl, rfl, rfl, rfl⟩
     ·clear hm hkont1; intro hk1 mx1 K ihx1
      rintro ⟨i1, f1⟩ a wx5 hm ⟨Fx1, hF1, hx3, hax3⟩
      simp only [tariff_sized_L1_s] at hm
      refine cw_apply hax3 ?_
      refine c_seq (c_region ?_)
      refine r_bin rfl rfl rfl rfl rfl ?_
      refine r_nil (q_then (c_seq ?_))
      rcases cond_some hm with ⟨hb3, hm⟩ | ⟨hb3, hm⟩
      ·refine c_lit 26 rfl hb3 ?_
       refine c_true rfl (c_skip (q_then (c_seq (c_block (c_seq (c_region ?_))))))
       obtain ⟨ex1, he1, hm⟩ := bind_some hm
       refine r_findex (r := rp_Expr) u22 sz24 rfl rfl rfl rfl (hs1.mono hF1) he1 ?_
       intro b2 o1 cs1 hf1 hr1
       obtain ⟨as2, ns2, cs2, hc1, hs2⟩ := expr_iff.1 hr1
       subst hc1
       refine r_loadFW ag24 sz24 rfl rfl hx3 hf1 rfl rfl ?_
       refine r_alloc ze24 rfl rfl rfl hx3 ?_
       intro b3 wx6 hx5
       refine r_store sz24 rfl hx5 rfl rfl rfl rfl (i := 0) rfl rfl rfl rfl ?_
       intro wx7 hx6
       refine r_nil (q_then (c_seq (c_region ?_)))
       refine r_loadBW ag24 sz24 rfl rfl hx6 rfl (i := 0) rfl rfl ?_
       refine r_move rfl rfl rfl ?_
       refine r_bin rfl rfl rfl rfl rfl ?_
       refine r_move rfl rfl rfl ?_
       obtain ⟨v2, hv1, hm⟩ := bind_some hm
       refine r_callL ent25 rfl rfl rfl rfl hx6 (i := 1) rfl (ih _ _ _ _ hv1 hx6.sat hs2 (hx6.get (i := 1) rfl) (hx6.lendable (i := 1) rfl)) ?_
       rintro _ Fx3 _ _ wx8 hF3 hx7 ⟨rfl, rfl, rfl⟩
       refine r_not rfl rfl rfl (r_nil (q_then ?_))
       rcases cond_some hm with ⟨hb4, hm⟩ | ⟨hb4, hm⟩
       ·refine c_lit 34 rfl hb4 ?_
        refine c_true rfl (c_seq (c_region (r_assign rfl rfl rfl (r_nil (q_then (c_ret (q_block_ret (q_then_ret (q_then_ret (q_block_ret (q_then_ret ?_)))))))))))
        refine b_ret1 rfl rfl ?_
        obtain rfl := Option.some.inj hm
        exact ⟨_, _, _, _, rfl, hx7.pick [1] (by decide) rfl, rfl, rfl, rfl⟩
       ·refine c_lit 34 rfl hb4 ?_
        refine c_false rfl (c_skip (q_block (q_then (c_region ?_))))
        refine r_bin rfl rfl rfl rfl rfl ?_
        refine r_move rfl rfl rfl (r_nil ?_)
        refine q_next (fun a ha => ihx1 ((iadd .i64 i1 1), v2.1) a _ hm ?_)
        exact ⟨_, (hF1.trans hF3), hx7.pick [1] (by decide) rfl, ha.cut (l := [1, 2, 23, 24, 25]) rfl⟩
      ·refine c_lit 26 rfl hb3 ?_
       refine c_false rfl (c_exit (q_then_exit (q_then_exit ?_)))
       refine fun a ha => hk1 f1 a _ hm ?_
       exact ⟨_, hF1, hx3.pick [0] (by decide) rfl, ha.cut (l := []) rfl⟩
   ·clear hm
    rcases cond_some hb1 with ⟨hb5, hb1⟩ | ⟨hb5, hb1⟩
    ·refine r_lit 16 rfl hb5 ?_
     refine r_off rfl (by decide) rfl (r_off rfl (by decide) rfl (r_off rfl (by decide) rfl (r_off rfl (by decide) rfl (r_pick_true rfl rfl rfl rfl (r_nil ?_)))))
     refine q_next (fun a ha => ?_)
     cases hb1
     exact ⟨rfl, ha.cut (l := [1, 2, 3, 21]) rfl⟩
    ·refine r_lit 16 rfl hb5 ?_
     refine r_move rfl rfl rfl ?_
     refine r_nilC rfl rfl rfl ?_
     refine r_loadB1 ag3 rfl rfl hx2 rfl (i := 1) rfl rfl ?_
     refine r_bin rfl rfl rfl rfl rfl ?_
     refine r_pick_false rfl rfl rfl rfl (r_nil ?_)
     refine q_next (fun a ha => ?_)
     cases hb1
     exact ⟨rfl, ha.cut (l := [1, 2, 3, 21]) rfl⟩
theorem tariff_sized_ok (n : Nat) (x1 : Expr) (levels1 : Int) (left1 : Int) (r : (Int × Bool)) (hm : tariff_sized n x1 levels1 left1 = some r) {w : World} {F : Frz} (hs : Sat F w) {as1 : Option Addr} {ns1 : Nat} {cs1 : Nat} {bleft1 : Nat} (hs1 : SlR rp_Expr F as1 ns1 cs1 x1.Args) (hbleft1 : (OE.box bleft1 3 [.int .i64 left1]).ok w) (hfleft1 : F bleft1 = none) :
  Calls Tryz.prog 25 #[.agg #[.int .i64 x1.Op, .int .i64 x1.N, vs x1.Name, .slice as1 ns1 cs1], .int .i64 levels1, .pointer (some ⟨bleft1, 0, none⟩)] w fun e w' => ∃ v F' cs' O', e = .returned v ∧ HS F w [bleft1] F' (.box bleft1 3 cs' :: O') w' ∧ (v = .bool r.2 ∧ cs' = [.int .i64 r.1] ∧ O' = []) :=
 (tariff_sized_all n) x1 levels1 left1 r hm hs hs1 hbleft1 hfleft1
end Go.Proofs.YtpihabofmnnbbaaGreatDoor.M

namespace Go.Proofs.YtpihabofmnnbbaaGreatDoor.M
open Go Go.RowKit Rt
theorem key9 : KeyIs Tryz.prog 9 (K := Bs) vs .string := KeyIs.str (by kernel_rfl)
theorem um77 : Tryz.prog.underlying 77 = some (.map 9 3) := by kernel_rfl
def tariff_operators (_n : Nat)  : Option (List (Bs × Int)) :=
 some (mput (mput (mput (mput (mput (mput (mput (mput ([] : (List (Bs × Int))) [43] 5) [45] 6) [42] 7) [47] 8) [60] 12) [61] 13) [97, 110, 100] 15) [111, 114] 16)
set_option maxHeartbeats 1000000 in
set_option maxRecDepth 1000000 in
theorem tariff_operators_ok (n : Nat)  (r : (List (Bs × Int))) (hm : tariff_operators n  = some r) {w : World} {F : Frz} (hs : Sat F w)  :
  Calls Tryz.prog 56 #[] w fun e w' => ∃ v F' O', e = .returned v ∧ HS F w [] F' O' w' ∧ (∃ (b0_0 : Nat) (es0_0 : List MapEntry) (cl0_0 : Nat), v = .map (some b0_0) ∧ O' = [.mp b0_0 es0_0 cl0_0] ∧ MpR vs (Value.int .i64) es0_0 r) := by
 unfold tariff_operators at hm
 have h := HS.init hs
 refine calls_of 3 Tryz.func56 rfl rfl rfl ?_
 refine c_seq (c_region (r_assign rfl rfl rfl (r_nil (q_then (c_seq (c_region ?_))))))
 refine r_makeMap rfl rfl h ?_
 intro b1 wx1 hx1
 refine r_mapPut (l := ([] : (List (Bs × Int)))) (k := [43]) (v := 5) (i := 0) (.inl rfl) key9 um77 rfl hx1 rfl rfl rfl rfl (show MpR vs (Value.int .i64) [] ([] : (List (Bs × Int))) from trivial) ?_
 intro wx2 es1 cl1 hx2 hr1
 refine r_mapPut (l := (mput ([] : (List (Bs × Int))) [43] 5)) (k := [45]) (v := 6) (i := 0) (.inl rfl) key9 um77 rfl hx2 rfl rfl rfl rfl hr1 ?_
 intro wx3 es2 cl2 hx3 hr2
 refine r_mapPut (l := (mput (mput ([] : (List (Bs × Int))) [43] 5) [45] 6)) (k := [42]) (v := 7) (i := 0) (.inl rfl) key9 um77 rfl hx3 rfl rfl rfl rfl hr2 ?_
 intro wx4 es3 cl3 hx4 hr3
 refine r_mapPut (l := (mput (mput (mput ([] : (List (Bs × Int))) [43] 5) [45] 6) [42] 7)) (k := [47]) (v := 8) (i := 0) (.inl rfl) key9 um77 rfl hx4 rfl rfl rfl rfl hr3 ?_
 intro wx5 es4 cl4 hx5 hr4
 refine r_mapPut (l := (mput (mput (mput (mput ([] : (List (Bs × Int))) [43] 5) [45] 6) [42] 7) [47] 8)) (k := [60]) (v := 12) (i := 0) (.inl rfl) key9 um77 rfl hx5 rfl rfl rfl rfl hr4 ?_
 intro wx6 es5 cl5 hx6 hr5
 refine r_mapPut (l := (mput (mput (mput (mput (mput ([] : (List (Bs × Int))) [43] 5) [45] 6) [42] 7) [47] 8) [60] 12)) (k := [61]) (v := 13) (i := 0) (.inl rfl) key9 um77 rfl hx6 rfl rfl rfl rfl hr5 ?_
 intro wx7 es6 cl6 hx7 hr6
 refine r_mapPut (l := (mput (mput (mput (mput (mput (mput ([] : (List (Bs × Int))) [43] 5) [45] 6) [42] 7) [47] 8) [60] 12) [61] 13)) (k := [97, 110, 100]) (v := 15) (i := 0) (.inl rfl) key9 um77 rfl hx7 rfl rfl rfl rfl hr6 ?_
 intro wx8 es7 cl7 hx8 hr7
 refine r_mapPut (l := (mput (mput (mput (mput (mput (mput (mput ([] : (List (Bs × Int))) [43] 5) [45] 6) [42] 7) [47] 8) [60] 12) [61] 13) [97, 110, 100] 15)) (k := [111, 114]) (v := 16) (i := 0) (.inl rfl) key9 um77 rfl hx8 rfl rfl rfl rfl hr7 ?_
 intro wx9 es8 cl8 hx9 hr8
 refine r_move rfl rfl rfl (r_assign rfl rfl rfl (r_nil (q_then (c_ret ?_))))
 refine b_ret1 rfl rfl ?_
 obtain rfl := Option.some.inj hm
 exact ⟨_, _, _, rfl, hx9.pick [0] (by decide) rfl, b1, es8, cl8, rfl, rfl, hr8⟩
end Go.Proofs.YtpihabofmnnbbaaGreatDoor.M

namespace Go.Proofs.YtpihabofmnnbbaaGreatDoor.M
open Go Go.RowKit Rt
theorem ent55 : Ent Tryz.prog 55 := fun _ _ => by kernel_rfl
theorem ent21 : Ent Tryz.prog 21 := fun _ _ => by kernel_rfl
theorem ent56 : Ent Tryz.prog 56 := fun _ _ => by kernel_rfl
theorem zv3 : ∀ w, (zeroValue 3).run Tryz.prog w = .ok ((Value.int .i64) 0) w := fun _ => by kernel_rfl
theorem fa53_2 : FieldIs Tryz.prog 53 2 2 := fun _ _ _ => by kernel_rfl
theorem ent23 : Ent Tryz.prog 23 := fun _ _ => by kernel_rfl
theorem ent22 : Ent Tryz.prog 22 := fun _ _ => by kernel_rfl
theorem ap22 : AppIs Tryz.prog 22 24 4 56 := AppIs.of (z := .agg #[.int .i64 0, .int .i64 0, vs [], .slice none 0 0]) (by kernel_rfl) (by kernel_rfl) rfl (by decide) (by decide)
theorem sz22 : SizeIs Tryz.prog 22 1 := fun _ => by kernel_rfl
mutual
def tariff_reader_expr : Nat → reader → Option (reader × Expr)
 | 0, _ => none
 | n + 1, rx1 =>
  (tariff_reader_take n rx1 [110, 111, 116]).bind fun v1 =>
  bif v1.2 then
   (tariff_reader_atom n v1.1).bind fun v2 =>
   some (v2.1, (⟨14, 0, [], [v2.2]⟩ : Expr))
  else
   (tariff_reader_take n v1.1 [105, 102]).bind fun v3 =>
   bif v3.2 then
    (tariff_reader_atom n v3.1).bind fun v4 =>
    (tariff_reader_need n v4.1 [[116, 104, 101, 110]]).bind fun v5 =>
    (tariff_reader_atom n v5).bind fun v6 =>
    (tariff_reader_need n v6.1 [[101, 108, 115, 101]]).bind fun v7 =>
    (tariff_reader_atom n v7).bind fun v8 =>
    some (v8.1, (⟨11, 0, [], [v4.2, v6.2, v8.2]⟩ : Expr))
   else
    (tariff_reader_atom n v3.1).bind fun v9 =>
    (tariff_reader_next n v9.1).bind fun v10 =>
    (tariff_operators n).bind fun v11 =>
    (bif !((mget v11 v10.2.Text).isSome) then
     some (true, v10.1.l, v10.1.at_, v10.1.e)
    else
     (tariff_reader_take n v10.1 v10.2.Text).bind fun v14 =>
     some (!v14.2, v14.1.l, v14.1.at_, v14.1.e)).bind fun (v12, f1, f2, f3) =>
    bif v12 then
     some ((⟨f1, f2, f3⟩ : reader), v9.2)
    else
     (tariff_reader_atom n (⟨f1, f2, f3⟩ : reader)).bind fun v13 =>
     some (v13.1, (⟨(mget v11 v10.2.Text).getD 0, 0, [], [v9.2, v13.2]⟩ : Expr))
def tariff_reader_atom : Nat → reader → Option (reader × Expr)
 | 0, _ => none
 | n + 1, rx1 =>
  (tariff_reader_next n rx1).bind fun v1 =>
  bif v1.2.Kind == 1 then
   some ((⟨v1.1.l, iadd .i64 v1.1.at_ 1, v1.1.e⟩ : reader), (⟨0, v1.2.N, [], []⟩ : Expr))
  else
   (bif v1.2.Kind != 0 then
    some (v1.2.Kind != 3)
   else
    some false).bind fun v2 =>
   bif v2 then
    (tariff_reader_fail n v1.1 12).bind fun v3 =>
    some (v3, (⟨0, 0, [], []⟩ : Expr))
   else
    bif v1.2.Text == [40] then
     (tariff_reader_expr n (⟨v1.1.l, iadd .i64 v1.1.at_ 1, v1.1.e⟩ : reader)).bind fun v4 =>
     (tariff_reader_need n v4.1 [[41]]).bind fun v5 =>
     some (v5, v4.2)
    else
     bif v1.2.Text == [112, 101, 114, 115, 111, 110, 115] then
      some ((⟨v1.1.l, iadd .i64 v1.1.at_ 1, v1.1.e⟩ : reader), (⟨2, 0, [], []⟩ : Expr))
     else
      bif v1.2.Text == [102, 108, 97, 116, 115] then
       some ((⟨v1.1.l, iadd .i64 v1.1.at_ 1, v1.1.e⟩ : reader), (⟨3, 0, [], []⟩ : Expr))
      else
       (bif v1.2.Text == [108, 105, 102, 116, 115] then
        some true
       else
        some (v1.2.Text == [119, 101, 105, 103, 104, 116])).bind fun v6 =>
       bif v6 then
        (bif v1.2.Text == [119, 101, 105, 103, 104, 116] then
         some 4
        else
         some 1).bind fun f1 =>
        (tariff_reader_need n (⟨v1.1.l, iadd .i64 v1.1.at_ 1, v1.1.e⟩ : reader) [[40]]).bind fun v7 =>
        (tariff_reader_one n v7 0).bind fun v8 =>
        (tariff_reader_need n v8.1 [[41]]).bind fun v9 =>
        some (v9, (⟨f1, 0, v8.2.Text, []⟩ : Expr))
       else
        (bif v1.2.Text == [109, 105, 110] then
         some true
        else
         some (v1.2.Text == [109, 97, 120])).bind fun v10 =>
        bif v10 then
         (bif v1.2.Text == [109, 97, 120] then
          some 10
         else
          some 9).bind fun f2 =>
         (tariff_reader_need n (⟨v1.1.l, iadd .i64 v1.1.at_ 1, v1.1.e⟩ : reader) [[40]]).bind fun v11 =>
         ((tariff_reader_expr n v11).bind fun v15 =>
         (app 56 ([] : List Expr) [v15.2]).bind fun l4 =>
         some (l4, v15.1.l, v15.1.at_, v15.1.e)).bind fun (l1, f3, f4, f5) =>
         (tariff_reader_need n (⟨f3, f4, f5⟩ : reader) [[44]]).bind fun v12 =>
         ((tariff_reader_expr n v12).bind fun v14 =>
         (app 56 l1 [v14.2]).bind fun l3 =>
         some (l3, v14.1.l, v14.1.at_, v14.1.e)).bind fun (l2, f6, f7, f8) =>
         (tariff_reader_need n (⟨f6, f7, f8⟩ : reader) [[41]]).bind fun v13 =>
         some (v13, (⟨f2, 0, [], l2⟩ : Expr))
        else
         (tariff_reader_fail n (⟨v1.1.l, isub .i64 (iadd .i64 v1.1.at_ 1) 1, v1.1.e⟩ : reader) 12).bind fun v16 =>
         some (v16, (⟨0, 0, [], []⟩ : Expr))
 end
theorem tariff_reader_expr_s (n : Nat) (rx1 : reader) : tariff_reader_expr (n + 1) rx1 =
  (tariff_reader_take n rx1 [110, 111, 116]).bind fun v1 =>
  bif v1.2 then
   (tariff_reader_atom n v1.1).bind fun v2 =>
   some (v2.1, (⟨14, 0, [], [v2.2]⟩ : Expr))
  else
   (tariff_reader_take n v1.1 [105, 102]).bind fun v3 =>
   bif v3.2 then
    (tariff_reader_atom n v3.1).bind fun v4 =>
    (tariff_reader_need n v4.1 [[116, 104, 101, 110]]).bind fun v5 =>
    (tariff_reader_atom n v5).bind fun v6 =>
    (tariff_reader_need n v6.1 [[101, 108, 115, 101]]).bind fun v7 =>
    (tariff_reader_atom n v7).bind fun v8 =>
    some (v8.1, (⟨11, 0, [], [v4.2, v6.2, v8.2]⟩ : Expr))
   else
    (tariff_reader_atom n v3.1).bind fun v9 =>
    (tariff_reader_next n v9.1).bind fun v10 =>
    (tariff_operators n).bind fun v11 =>
    (bif !((mget v11 v10.2.Text).isSome) then
     some (true, v10.1.l, v10.1.at_, v10.1.e)
    else
     (tariff_reader_take n v10.1 v10.2.Text).bind fun v14 =>
     some (!v14.2, v14.1.l, v14.1.at_, v14.1.e)).bind fun (v12, f1, f2, f3) =>
    bif v12 then
     some ((⟨f1, f2, f3⟩ : reader), v9.2)
    else
     (tariff_reader_atom n (⟨f1, f2, f3⟩ : reader)).bind fun v13 =>
     some (v13.1, (⟨(mget v11 v10.2.Text).getD 0, 0, [], [v9.2, v13.2]⟩ : Expr)) := rfl
theorem tariff_reader_atom_s (n : Nat) (rx1 : reader) : tariff_reader_atom (n + 1) rx1 =
  (tariff_reader_next n rx1).bind fun v1 =>
  bif v1.2.Kind == 1 then
   some ((⟨v1.1.l, iadd .i64 v1.1.at_ 1, v1.1.e⟩ : reader), (⟨0, v1.2.N, [], []⟩ : Expr))
  else
   (bif v1.2.Kind != 0 then
    some (v1.2.Kind != 3)
   else
    some false).bind fun v2 =>
   bif v2 then
    (tariff_reader_fail n v1.1 12).bind fun v3 =>
    some (v3, (⟨0, 0, [], []⟩ : Expr))
   else
    bif v1.2.Text == [40] then
     (tariff_reader_expr n (⟨v1.1.l, iadd .i64 v1.1.at_ 1, v1.1.e⟩ : reader)).bind fun v4 =>
     (tariff_reader_need n v4.1 [[41]]).bind fun v5 =>
     some (v5, v4.2)
    else
     bif v1.2.Text == [112, 101, 114, 115, 111, 110, 115] then
      some ((⟨v1.1.l, iadd .i64 v1.1.at_ 1, v1.1.e⟩ : reader), (⟨2, 0, [], []⟩ : Expr))
     else
      bif v1.2.Text == [102, 108, 97, 116, 115] then
       some ((⟨v1.1.l, iadd .i64 v1.1.at_ 1, v1.1.e⟩ : reader), (⟨3, 0, [], []⟩ : Expr))
      else
       (bif v1.2.Text == [108, 105, 102, 116, 115] then
        some true
       else
        some (v1.2.Text == [119, 101, 105, 103, 104, 116])).bind fun v6 =>
       bif v6 then
        (bif v1.2.Text == [119, 101, 105, 103, 104, 116] then
         some 4
        else
         some 1).bind fun f1 =>
        (tariff_reader_need n (⟨v1.1.l, iadd .i64 v1.1.at_ 1, v1.1.e⟩ : reader) [[40]]).bind fun v7 =>
        (tariff_reader_one n v7 0).bind fun v8 =>
        (tariff_reader_need n v8.1 [[41]]).bind fun v9 =>
        some (v9, (⟨f1, 0, v8.2.Text, []⟩ : Expr))
       else
        (bif v1.2.Text == [109, 105, 110] then
         some true
        else
         some (v1.2.Text == [109, 97, 120])).bind fun v10 =>
        bif v10 then
         (bif v1.2.Text == [109, 97, 120] then
          some 10
         else
          some 9).bind fun f2 =>
         (tariff_reader_need n (⟨v1.1.l, iadd .i64 v1.1.at_ 1, v1.1.e⟩ : reader) [[40]]).bind fun v11 =>
         ((tariff_reader_expr n v11).bind fun v15 =>
         (app 56 ([] : List Expr) [v15.2]).bind fun l4 =>
         some (l4, v15.1.l, v15.1.at_, v15.1.e)).bind fun (l1, f3, f4, f5) =>
         (tariff_reader_need n (⟨f3, f4, f5⟩ : reader) [[44]]).bind fun v12 =>
         ((tariff_reader_expr n v12).bind fun v14 =>
         (app 56 l1 [v14.2]).bind fun l3 =>
         some (l3, v14.1.l, v14.1.at_, v14.1.e)).bind fun (l2, f6, f7, f8) =>
         (tariff_reader_need n (⟨f6, f7, f8⟩ : reader) [[41]]).bind fun v13 =>
         some (v13, (⟨f2, 0, [], l2⟩ : Expr))
        else
         (tariff_reader_fail n (⟨v1.1.l, isub .i64 (iadd .i64 v1.1.at_ 1) 1, v1.1.e⟩ : reader) 12).bind fun v16 =>
         some (v16, (⟨0, 0, [], []⟩ : Expr)) := rfl
set_option maxHeartbeats 1000000 in
set_option maxRecDepth 1000000 in
theorem tariff_reader_expr_all (n : Nat) : (∀ (rx1 : reader) (r : (reader × Expr)) (_ : tariff_reader_expr n rx1 = some r) {w : World} {F : Frz} (_ : Sat F w) {as1 : Option Addr} {ns1 : Nat} {cs1 : Nat} {brx1 : Nat} (_ : SlR rp_Token F as1 ns1 cs1 rx1.l) (_ : (OE.box brx1 50 [.slice as1 ns1 cs1, .int .i64 rx1.at_, .int .i64 rx1.e]).ok w) (_ : F brx1 = none), Calls Tryz.prog 23 #[.pointer (some ⟨brx1, 0, none⟩)] w fun e w' => ∃ v F' cs' O', e = .returned v ∧ HS F w [brx1] F' (.box brx1 50 cs' :: O') w' ∧ (∃ (al_0 : Option Addr) (nl_0 : Nat) (cl_0 : Nat) (a0_3 : Option Addr) (n0_3 : Nat) (c0_3 : Nat), v = .agg #[.int .i64 r.2.Op, .int .i64 r.2.N, vs r.2.Name, .slice a0_3 n0_3 c0_3] ∧ cs' = [.slice al_0 nl_0 cl_0, .int .i64 r.1.at_, .int .i64 r.1.e] ∧ O' = [] ∧ SlR rp_Token F' al_0 nl_0 cl_0 r.1.l ∧ SlR rp_Expr F' a0_3 n0_3 c0_3 r.2.Args)) ∧
  (∀ (rx1 : reader) (r : (reader × Expr)) (_ : tariff_reader_atom n rx1 = some r) {w : World} {F : Frz} (_ : Sat F w) {as1 : Option Addr} {ns1 : Nat} {cs1 : Nat} {brx1 : Nat} (_ : SlR rp_Token F as1 ns1 cs1 rx1.l) (_ : (OE.box brx1 50 [.slice as1 ns1 cs1, .int .i64 rx1.at_, .int .i64 rx1.e]).ok w) (_ : F brx1 = none), Calls Tryz.prog 55 #[.pointer (some ⟨brx1, 0, none⟩)] w fun e w' => ∃ v F' cs' O', e = .returned v ∧ HS F w [brx1] F' (.box brx1 50 cs' :: O') w' ∧ (∃ (al_0 : Option Addr) (nl_0 : Nat) (cl_0 : Nat) (a0_3 : Option Addr) (n0_3 : Nat) (c0_3 : Nat), v = .agg #[.int .i64 r.2.Op, .int .i64 r.2.N, vs r.2.Name, .slice a0_3 n0_3 c0_3] ∧ cs' = [.slice al_0 nl_0 cl_0, .int .i64 r.1.at_, .int .i64 r.1.e] ∧ O' = [] ∧ SlR rp_Token F' al_0 nl_0 cl_0 r.1.l ∧ SlR rp_Expr F' a0_3 n0_3 c0_3 r.2.Args)) := by
 induction n with
 | zero =>
  refine ⟨?_, ?_⟩
  ·intro rx1 r hm
   exact absurd (show (none : Option (reader × Expr)) = some r from hm) (by simp)
  ·intro rx1 r hm
   exact absurd (show (none : Option (reader × Expr)) = some r from hm) (by simp)
 | succ n ih =>
  refine ⟨?_, ?_⟩
  ·intro rx1 r hm w F hs as1 ns1 cs1 brx1 hs1 hbrx1 hfrx1
   rw [tariff_reader_expr_s] at hm
   have h := HS.lend hs hbrx1 hfrx1
   refine calls_of 62 Tryz.func23 rfl rfl rfl ?_
   refine c_seq (c_region ?_)
   refine r_alloc ze24 rfl rfl rfl h ?_
   intro b1 wx1 hx1
   refine r_nil (q_then (c_seq (c_block (c_seq (c_region (r_move rfl rfl rfl ?_))))))
   obtain ⟨v1, hv1, hm⟩ := bind_some hm
   refine r_callL ent27 rfl rfl rfl rfl hx1 (i := 1) rfl (tariff_reader_take_ok _ _ _ _ hv1 hx1.sat hs1 (hx1.get (i := 1) rfl) (hx1.lendable (i := 1) rfl)) ?_
   rintro _ Fx1 _ _ wx2 hF1 hx2 ⟨as2, ns2, cs2, rfl, rfl, rfl, hs2⟩
   refine r_assign rfl rfl rfl (r_nil (q_then ?_))
   rcases cond_some hm with ⟨hb1, hm⟩ | ⟨hb1, hm⟩
   ·refine c_lit 9 rfl hb1 ?_
    refine c_true rfl (c_seq (c_region (r_move rfl rfl rfl ?_)))
    obtain ⟨v2, hv2, hm⟩ := bind_some hm
    refine r_callL ent55 rfl rfl rfl rfl hx2 (i := 1) rfl (ih.2 _ _ hv2 hx2.sat hs2 (hx2.get (i := 1) rfl) (hx2.lendable (i := 1) rfl)) ?_
    rintro _ Fx2 _ _ wx3 hF2 hx3 ⟨as3, ns3, cs3, as4, ns4, cs4, rfl, rfl, rfl, hs3, hs4⟩
    refine r_buildSlice (e := 24) (cs := [.int .i64 v2.2.Op, .int .i64 v2.2.N, vs v2.2.Name, .slice as4 ns4 cs4]) (q := 4) rfl rfl hx3 rfl (fun _ => by kernel_rfl) rfl rfl ?_
    intro b2 wx4 hx4
    obtain ⟨Fx3, hF3, hx5, hsx1⟩ := freezeRowL hx4 (k := 2) rfl (i := 0) rfl (by decide) ((show RowN rp_Expr Fx2 1 [.int .i64 v2.2.Op, .int .i64 v2.2.N, vs v2.2.Name, .slice as4 ns4 cs4] [v2.2] from ⟨rfl, ⟨_, _, rfl, (expr_iff.2 ⟨as4, ns4, cs4, rfl, hs4⟩), (rfl : RowR rp_Expr _ [] [])⟩⟩))
    refine r_build (v := .agg #[.int .i64 14, .int .i64 0, vs [], .slice (some ⟨b2, 0, none⟩) 1 1]) rfl rfl rfl (fun _ => by kernel_rfl) ?_
    refine r_store sz24 rfl hx5 rfl rfl rfl rfl (i := 0) rfl rfl rfl rfl ?_
    intro wx5 hx6
    refine r_nil (q_then (c_ret (q_block_ret (q_then_ret ?_))))
    refine b_retC rfl ag24 sz24 rfl hx6 rfl (i := 0) rfl ?_
    obtain rfl := Option.some.inj hm
    exact ⟨_, _, _, _, rfl, hx6.pick [1] (by decide) rfl, as3, ns3, cs3, (some ⟨b2, 0, none⟩), 1, 1, rfl, rfl, rfl, (hs3.mono hF3), hsx1⟩
   ·refine c_lit 9 rfl hb1 ?_
    refine c_false rfl (c_seq (c_region (r_move rfl rfl rfl ?_)))
    obtain ⟨v3, hv3, hm⟩ := bind_some hm
    refine r_callL ent27 rfl rfl rfl rfl hx2 (i := 1) rfl (tariff_reader_take_ok _ _ _ _ hv3 hx2.sat hs2 (hx2.get (i := 1) rfl) (hx2.lendable (i := 1) rfl)) ?_
    rintro _ Fx4 _ _ wx6 hF4 hx7 ⟨as5, ns5, cs5, rfl, rfl, rfl, hs5⟩
    refine r_assign rfl rfl rfl (r_nil (q_then ?_))
    rcases cond_some hm with ⟨hb2, hm⟩ | ⟨hb2, hm⟩
    ·refine c_lit 16 rfl hb2 ?_
     refine c_true rfl (c_seq (c_region (r_move rfl rfl rfl ?_)))
     obtain ⟨v4, hv4, hm⟩ := bind_some hm
     refine r_callL ent55 rfl rfl rfl rfl hx7 (i := 1) rfl (ih.2 _ _ hv4 hx7.sat hs5 (hx7.get (i := 1) rfl) (hx7.lendable (i := 1) rfl)) ?_
     rintro _ Fx5 _ _ wx7 hF5 hx8 ⟨as6, ns6, cs6, as7, ns7, cs7, rfl, rfl, rfl, hs6, hs7⟩
     refine r_alloc ze24 rfl rfl rfl hx8 ?_
     intro b3 wx8 hx9
     refine r_store sz24 rfl hx9 rfl rfl rfl rfl (i := 0) rfl rfl rfl rfl ?_
     intro wx9 hx10
     refine r_nil (q_then (c_seq (c_region (r_move rfl rfl rfl ?_))))
     refine r_buildSlice (e := 9) (cs := [vs [116, 104, 101, 110]]) (q := 1) rfl rfl hx10 rfl (fun _ => by kernel_rfl) rfl rfl ?_
     intro b4 wx10 hx11
     obtain ⟨Fx6, hF6, hx12, hsx2⟩ := freezeRowL hx11 (k := 3) rfl (i := 0) rfl (by decide) ((show RowN Rp.str Fx5 1 [vs [116, 104, 101, 110]] [[116, 104, 101, 110]] from ⟨rfl, ⟨_, _, rfl, rfl, (rfl : RowR Rp.str _ [] [])⟩⟩))
     obtain ⟨v5, hv5, hm⟩ := bind_some hm
     refine r_callL ent21 rfl rfl rfl rfl hx12 (i := 2) rfl (tariff_reader_need_ok _ _ _ _ hv5 hx12.sat (hs6.mono hF6) (hx12.get (i := 2) rfl) (hx12.lendable (i := 2) rfl) hsx2) ?_
     rintro _ Fx7 _ _ wx11 hF7 hx13 ⟨as8, ns8, cs8, rfl, rfl, rfl, hs8⟩
     refine r_nil (q_then (c_seq (c_region (r_move rfl rfl rfl ?_))))
     obtain ⟨v6, hv6, hm⟩ := bind_some hm
     refine r_callL ent55 rfl rfl rfl rfl hx13 (i := 2) rfl (ih.2 _ _ hv6 hx13.sat hs8 (hx13.get (i := 2) rfl) (hx13.lendable (i := 2) rfl)) ?_
     rintro _ Fx8 _ _ wx12 hF8 hx14 ⟨as9, ns9, cs9, as10, ns10, cs10, rfl, rfl, rfl, hs9, hs10⟩
     refine r_alloc ze24 rfl rfl rfl hx14 ?_
     intro b5 wx13 hx15
     refine r_store sz24 rfl hx15 rfl rfl rfl rfl (i := 0) rfl rfl rfl rfl ?_
     intro wx14 hx16
     refine r_nil (q_then (c_seq (c_region (r_move rfl rfl rfl ?_))))
     refine r_buildSlice (e := 9) (cs := [vs [101, 108, 115, 101]]) (q := 1) rfl rfl hx16 rfl (fun _ => by kernel_rfl) rfl rfl ?_
     intro b6 wx15 hx17
     obtain ⟨Fx9, hF9, hx18, hsx3⟩ := freezeRowL hx17 (k := 4) rfl (i := 0) rfl (by decide) ((show RowN Rp.str Fx8 1 [vs [101, 108, 115, 101]] [[101, 108, 115, 101]] from ⟨rfl, ⟨_, _, rfl, rfl, (rfl : RowR Rp.str _ [] [])⟩⟩))
     obtain ⟨v7, hv7, hm⟩ := bind_some hm
     refine r_callL ent21 rfl rfl rfl rfl hx18 (i := 3) rfl (tariff_reader_need_ok _ _ _ _ hv7 hx18.sat (hs9.mono hF9) (hx18.get (i := 3) rfl) (hx18.lendable (i := 3) rfl) hsx3) ?_
     rintro _ Fx10 _ _ wx16 hF10 hx19 ⟨as11, ns11, cs11, rfl, rfl, rfl, hs11⟩
     refine r_nil (q_then (c_seq ?_))
     refine c_regionH (SH Fx10 [.box b5 24 [.int .i64 v6.2.Op, .int .i64 v6.2.N, vs v6.2.Name, .slice as10 ns10 cs10], .box b3 24 [.int .i64 v4.2.Op, .int .i64 v4.2.N, vs v4.2.Name, .slice as7 ns7 cs7]]) 7 rfl (by kernel_rfl) hx19 ?_
     intro wx17 hx20
     refine d_tk 0 rfl (by kernel_rfl) rfl rfl rfl rfl (hx20.sh (Frz.refl _) [0, 1] (by decide) rfl) (fun _ _ _ _ hq => r_loadBW ag24 sz24 rfl rfl hq rfl (i := 1) rfl rfl (r_nil (qq rfl))) ?_
     refine d_tk 1 rfl (by kernel_rfl) rfl rfl rfl rfl (hx20.sh (Frz.refl _) [0, 1] (by decide) rfl) (fun _ _ _ _ hq => r_loadBW ag24 sz24 rfl rfl hq rfl (i := 0) rfl rfl (r_nil (qq rfl))) ?_
     refine d_tk 2 rfl (by kernel_rfl) rfl rfl rfl rfl (hx20.sh (Frz.refl _) [0, 1] (by decide) rfl) (fun _ _ _ _ _ => r_move rfl rfl rfl (r_nil (qq rfl))) ?_
     refine d_step 3 rfl (by kernel_rfl) ?_
     obtain ⟨v8, hv8, hm⟩ := bind_some hm
     refine r_callL ent55 rfl rfl rfl rfl hx20 (i := 3) rfl (ih.2 _ _ hv8 hx20.sat hs11 (hx20.get (i := 3) rfl) (hx20.lendable (i := 3) rfl)) ?_
     rintro _ Fx11 _ _ wx18 hF11 hx21 ⟨as12, ns12, cs12, as13, ns13, cs13, rfl, rfl, rfl, hs12, hs13⟩
     refine d_next (hx21.sh hF11 [0, 1] (by decide) rfl) ?_
     refine d_step 4 rfl (by kernel_rfl) ?_
     refine r_buildSlice (e := 24) (cs := [.int .i64 v4.2.Op, .int .i64 v4.2.N, vs v4.2.Name, .slice as7 ns7 cs7, .int .i64 v6.2.Op, .int .i64 v6.2.N, vs v6.2.Name, .slice as10 ns10 cs10, .int .i64 v8.2.Op, .int .i64 v8.2.N, vs v8.2.Name, .slice as13 ns13 cs13]) (q := 4) rfl rfl hx21 rfl (fun _ => by kernel_rfl) rfl rfl ?_
     intro b7 wx19 hx22
     refine d_next (hx22.sh hF11 [1, 2] (by decide) rfl) ?_
     obtain ⟨Fx12, hF12, hx23, hsx4⟩ := freezeRowL hx22 (k := 4) rfl (i := 0) rfl (by decide) ((show RowN rp_Expr Fx11 3 [.int .i64 v4.2.Op, .int .i64 v4.2.N, vs v4.2.Name, .slice as7 ns7 cs7, .int .i64 v6.2.Op, .int .i64 v6.2.N, vs v6.2.Name, .slice as10 ns10 cs10, .int .i64 v8.2.Op, .int .i64 v8.2.N, vs v8.2.Name, .slice as13 ns13 cs13] [v4.2, v6.2, v8.2] from ⟨rfl, ⟨_, _, rfl, (expr_iff.2 ⟨as7, ns7, cs7, rfl, ((((((hs7.mono hF6).mono hF7).mono hF8).mono hF9).mono hF10).mono hF11)⟩), ⟨_, _, rfl, (expr_iff.2 ⟨as10, ns10, cs10, rfl, (((hs10.mono hF9).mono hF10).mono hF11)⟩), ⟨_, _, rfl, (expr_iff.2 ⟨as13, ns13, cs13, rfl, hs13⟩), (rfl : RowR rp_Expr _ [] [])⟩⟩⟩⟩))
     refine d_tk 5 rfl (by kernel_rfl) rfl rfl rfl rfl (hx23.sh (hF11.trans hF12) [0, 1] (by decide) rfl) (fun _ _ _ _ _ => r_build (v := .agg #[.int .i64 11, .int .i64 0, vs [], .slice (some ⟨b7, 0, none⟩) 3 3]) rfl rfl rfl (fun _ => by kernel_rfl) (r_nil (qq rfl))) ?_
     refine d_step 6 rfl (by kernel_rfl) ?_
     refine r_store sz24 rfl hx23 rfl rfl rfl rfl (i := 2) rfl rfl rfl rfl ?_
     intro wx20 hx24
     refine d_next (hx24.sh (hF11.trans hF12) [0, 1] (by decide) rfl) ?_
     refine d_done (by kernel_rfl) ?_
     refine q_then (c_ret (q_block_ret (q_then_ret ?_)))
     refine b_retC rfl ag24 sz24 rfl hx24 rfl (i := 2) rfl ?_
     obtain rfl := Option.some.inj hm
     exact ⟨_, _, _, _, rfl, hx24.pick [3] (by decide) rfl, as12, ns12, cs12, (some ⟨b7, 0, none⟩), 3, 3, rfl, rfl, rfl, (hs12.mono hF12), hsx4⟩
    ·refine c_lit 16 rfl hb2 ?_
     refine c_false rfl (c_skip (q_block (q_then (c_seq (c_region (r_move rfl rfl rfl ?_))))))
     obtain ⟨v9, hv9, hm⟩ := bind_some hm
     refine r_callL ent55 rfl rfl rfl rfl hx7 (i := 1) rfl (ih.2 _ _ hv9 hx7.sat hs5 (hx7.get (i := 1) rfl) (hx7.lendable (i := 1) rfl)) ?_
     rintro _ Fx13 _ _ wx21 hF13 hx25 ⟨as14, ns14, cs14, as15, ns15, cs15, rfl, rfl, rfl, hs14, hs15⟩
     refine r_alloc ze24 rfl rfl rfl hx25 ?_
     intro b8 wx22 hx26
     refine r_store sz24 rfl hx26 rfl rfl rfl rfl (i := 0) rfl rfl rfl rfl ?_
     intro wx23 hx27
     refine r_nil (q_then (c_seq (c_region (r_move rfl rfl rfl ?_))))
     obtain ⟨v10, hv10, hm⟩ := bind_some hm
     refine r_callL ent54 rfl rfl rfl rfl hx27 (i := 2) rfl (tariff_reader_next_ok _ _ _ hv10 hx27.sat hs14 (hx27.get (i := 2) rfl) (hx27.lendable (i := 2) rfl)) ?_
     rintro _ Fx14 _ _ wx24 hF14 hx28 ⟨as16, ns16, cs16, rfl, rfl, rfl, hs16⟩
     refine r_alloc ze53 rfl rfl rfl hx28 ?_
     intro b9 wx25 hx29
     refine r_store sz53 rfl hx29 rfl rfl rfl rfl (i := 0) rfl rfl rfl rfl ?_
     intro wx26 hx30
     refine r_nil (q_then (c_seq ?_))
     refine c_regionH (SH Fx14 [.box b9 53 [.int .i64 v10.2.Kind, vs v10.2.Text, .int .i64 v10.2.N, .int .i64 v10.2.Pos], .box b8 24 [.int .i64 v9.2.Op, .int .i64 v9.2.N, vs v9.2.Name, .slice as15 ns15 cs15], .box b1 24 [.int .i64 0, .int .i64 0, vs [], .slice none 0 0], .box brx1 50 [.slice as16 ns16 cs16, .int .i64 v10.1.at_, .int .i64 v10.1.e]]) 9 rfl (by kernel_rfl) hx30 ?_
     intro wx27 hx31
     refine d_tk 1 rfl (by kernel_rfl) rfl rfl rfl rfl (hx31.sh (Frz.refl _) [0, 1, 2, 3] (by decide) rfl) (fun _ _ _ _ _ => r_fieldAddr fa53_1 rfl rfl rfl (r_nil (qq rfl))) ?_
     refine d_tk 2 rfl (by kernel_rfl) rfl rfl rfl rfl (hx31.sh (Frz.refl _) [0, 1, 2, 3] (by decide) rfl) (fun _ _ _ _ hq => r_loadB1 ag9 rfl rfl hq rfl (i := 0) rfl rfl (r_nil (qq rfl))) ?_
     refine d_step 0 rfl (by kernel_rfl) ?_
     obtain ⟨v11, hv11, hm⟩ := bind_some hm
     refine r_callG0 ent56 rfl rfl rfl rfl hx31 (tariff_operators_ok _ _ hv11 hx31.sat) ?_
     rintro _ Fx15 _ wx28 hF15 hx32 ⟨bs17, ess17, cls17, rfl, rfl, hs17⟩
     refine d_next (hx32.sh hF15 [1, 2, 3, 4] (by decide) rfl) ?_
     refine d_step 3 rfl (by kernel_rfl) ?_
     refine r_lookup (k := v10.2.Text) (z := 0) (i := 0) key9 um77 zv3 rfl rfl hx32 rfl rfl rfl hs17 ?_
     refine d_next (hx32.sh hF15 [1, 2, 3, 4] (by decide) rfl) ?_
     refine d_tk 4 rfl (by kernel_rfl) rfl rfl rfl rfl (hx32.sh hF15 [1, 2, 3, 4] (by decide) rfl) (fun _ _ _ _ _ => r_move rfl rfl rfl (r_nil (qq rfl))) ?_
     refine d_tk 5 rfl (by kernel_rfl) rfl rfl rfl rfl (hx32.sh hF15 [1, 2, 3, 4] (by decide) rfl) (fun _ _ _ _ _ => r_extract rfl rfl rfl rfl (r_nil (qq rfl))) ?_
     refine d_tk 6 rfl (by kernel_rfl) rfl rfl rfl rfl (hx32.sh hF15 [1, 2, 3, 4] (by decide) rfl) (fun _ _ _ _ _ => r_extract rfl rfl rfl rfl (r_nil (qq rfl))) ?_
     refine d_tk 7 rfl (by kernel_rfl) rfl rfl rfl rfl (hx32.sh hF15 [1, 2, 3, 4] (by decide) rfl) (fun _ _ _ _ _ => r_assign rfl rfl rfl (r_nil (qq rfl))) ?_
     refine d_tk 8 rfl (by kernel_rfl) rfl rfl rfl rfl (hx32.sh hF15 [1, 2, 3, 4] (by decide) rfl) (fun _ _ _ _ _ => r_assign rfl rfl rfl (r_nil (qq rfl))) ?_
     refine d_done (by kernel_rfl) ?_
     refine q_then (c_seq (c_seq (c_region (r_move rfl rfl rfl (r_not rfl rfl rfl (r_move rfl rfl rfl ?_))))))
     obtain ⟨⟨v12, f1, f2, f3⟩, hb3, hm⟩ := bind_some hm
     refine r_mid 6 (fun a w' => ∃ (Fx16 : Frz) (as18 : Option Addr) (ns18 : Nat) (cs18 : Nat), Frz.le Fx15 Fx16 ∧ HS F w [brx1] Fx16 [.mp bs17 ess17 cls17, .box b9 53 [.int .i64 v10.2.Kind, vs v10.2.Text, .int .i64 v10.2.N, .int .i64 v10.2.Pos], .box b8 24 [.int .i64 v9.2.Op, .int .i64 v9.2.N, vs v9.2.Name, .slice as15 ns15 cs15], .box b1 24 [.int .i64 0, .int .i64 0, vs [], .slice none 0 0], .box brx1 50 [.slice as18 ns18 cs18, .int .i64 f2, .int .i64 f3]] w' ∧ (SlR rp_Token Fx16 as18 ns18 cs18 f1) ∧ Has 62 a [(0, .pointer (some ⟨brx1, 0, none⟩)), (2, .pointer (some ⟨b1, 0, none⟩)), (5, .pointer (some ⟨b8, 0, none⟩)), (7, .int .i64 ((mget v11 v10.2.Text).getD 0)), (54, .bool v12)]) ?_ ?_
     ·rintro a wx29 ⟨Fx16, as18, ns18, cs18, hF16, hx33, hs18, hax1⟩
      refine rw_apply hax1 ?_
      refine r_nil (q_then ?_)
      rcases cond_some hm with ⟨hb4, hm⟩ | ⟨hb4, hm⟩
      ·refine c_lit 54 rfl hb4 ?_
       refine c_true rfl (c_seq (c_region ?_))
       refine r_loadBW ag24 sz24 rfl rfl hx33 rfl (i := 2) rfl rfl ?_
       refine r_store sz24 rfl hx33 rfl rfl rfl rfl (i := 3) rfl rfl rfl rfl ?_
       intro wx30 hx34
       refine r_nil (q_then (c_ret (q_then_ret ?_)))
       refine b_retC rfl ag24 sz24 rfl hx34 rfl (i := 3) rfl ?_
       obtain rfl := Option.some.inj hm
       exact ⟨_, _, _, _, rfl, hx34.pick [4] (by decide) rfl, as18, ns18, cs18, as15, ns15, cs15, rfl, rfl, rfl, hs18, (((hs15.mono hF14).mono hF15).mono hF16)⟩
      ·refine c_lit 54 rfl hb4 ?_
       refine c_false rfl (c_skip (q_then (c_seq ?_)))
       refine c_regionH (SH Fx16 [.mp bs17 ess17 cls17, .box b9 53 [.int .i64 v10.2.Kind, vs v10.2.Text, .int .i64 v10.2.N, .int .i64 v10.2.Pos], .box b8 24 [.int .i64 v9.2.Op, .int .i64 v9.2.N, vs v9.2.Name, .slice as15 ns15 cs15]]) 7 rfl (by kernel_rfl) hx33 ?_
       intro wx31 hx35
       refine d_tk 0 rfl (by kernel_rfl) rfl rfl rfl rfl (hx35.sh (Frz.refl _) [0, 1, 2] (by decide) rfl) (fun _ _ _ _ _ => r_move rfl rfl rfl (r_nil (qq rfl))) ?_
       refine d_tk 1 rfl (by kernel_rfl) rfl rfl rfl rfl (hx35.sh (Frz.refl _) [0, 1, 2] (by decide) rfl) (fun _ _ _ _ hq => r_loadBW ag24 sz24 rfl rfl hq rfl (i := 2) rfl rfl (r_nil (qq rfl))) ?_
       refine d_tk 2 rfl (by kernel_rfl) rfl rfl rfl rfl (hx35.sh (Frz.refl _) [0, 1, 2] (by decide) rfl) (fun _ _ _ _ _ => r_move rfl rfl rfl (r_nil (qq rfl))) ?_
       refine d_step 3 rfl (by kernel_rfl) ?_
       obtain ⟨v13, hv12, hm⟩ := bind_some hm
       refine r_callL ent55 rfl rfl rfl rfl hx35 (i := 4) rfl (ih.2 _ _ hv12 hx35.sat hs18 (hx35.get (i := 4) rfl) (hx35.lendable (i := 4) rfl)) ?_
       rintro _ Fx17 _ _ wx32 hF17 hx36 ⟨as19, ns19, cs19, as20, ns20, cs20, rfl, rfl, rfl, hs19, hs20⟩
       refine d_next (hx36.sh hF17 [0, 1, 2] (by decide) rfl) ?_
       refine d_step 4 rfl (by kernel_rfl) ?_
       refine r_buildSlice (e := 24) (cs := [.int .i64 v9.2.Op, .int .i64 v9.2.N, vs v9.2.Name, .slice as15 ns15 cs15, .int .i64 v13.2.Op, .int .i64 v13.2.N, vs v13.2.Name, .slice as20 ns20 cs20]) (q := 4) rfl rfl hx36 rfl (fun _ => by kernel_rfl) rfl rfl ?_
       intro b10 wx33 hx37
       refine d_next (hx37.sh hF17 [1, 2, 3] (by decide) rfl) ?_
       obtain ⟨Fx18, hF18, hx38, hsx5⟩ := freezeRowL hx37 (k := 5) rfl (i := 0) rfl (by decide) ((show RowN rp_Expr Fx17 2 [.int .i64 v9.2.Op, .int .i64 v9.2.N, vs v9.2.Name, .slice as15 ns15 cs15, .int .i64 v13.2.Op, .int .i64 v13.2.N, vs v13.2.Name, .slice as20 ns20 cs20] [v9.2, v13.2] from ⟨rfl, ⟨_, _, rfl, (expr_iff.2 ⟨as15, ns15, cs15, rfl, ((((hs15.mono hF14).mono hF15).mono hF16).mono hF17)⟩), ⟨_, _, rfl, (expr_iff.2 ⟨as20, ns20, cs20, rfl, hs20⟩), (rfl : RowR rp_Expr _ [] [])⟩⟩⟩))
       refine d_tk 5 rfl (by kernel_rfl) rfl rfl rfl rfl (hx38.sh (hF17.trans hF18) [0, 1, 2] (by decide) rfl) (fun _ _ _ _ _ => r_build (v := .agg #[.int .i64 ((mget v11 v10.2.Text).getD 0), .int .i64 0, vs [], .slice (some ⟨b10, 0, none⟩) 2 2]) rfl rfl rfl (fun _ => by kernel_rfl) (r_nil (qq rfl))) ?_
       refine d_step 6 rfl (by kernel_rfl) ?_
       refine r_store sz24 rfl hx38 rfl rfl rfl rfl (i := 3) rfl rfl rfl rfl ?_
       intro wx34 hx39
       refine d_next (hx39.sh (hF17.trans hF18) [0, 1, 2] (by decide) rfl) ?_
       refine d_done (by kernel_rfl) ?_
       refine q_then (c_ret ?_)
       refine b_retC rfl ag24 sz24 rfl hx39 rfl (i := 3) rfl ?_
       obtain rfl := Option.some.inj hm
       exact ⟨_, _, _, _, rfl, hx39.pick [4] (by decide) rfl, as19, ns19, cs19, (some ⟨b10, 0, none⟩), 2, 2, rfl, rfl, rfl, (hs19.mono hF18), hsx5⟩
     ·clear hm
      rcases cond_some hb3 with ⟨hb5, hb3⟩ | ⟨hb5, hb3⟩
      ·refine r_lit 48 rfl hb5 ?_
       refine r_off rfl (by decide) rfl (r_off rfl (by decide) rfl (r_off rfl (by decide) rfl (r_off rfl (by decide) rfl (r_off rfl (by decide) rfl (r_pick_true rfl rfl rfl rfl (r_nil ?_))))))
       refine q_next (fun a ha => ?_)
       cases hb3
       exact ⟨_, as16, ns16, cs16, Frz.refl _, hx32.pick [0, 1, 2, 3, 4] (by decide) rfl, (hs16.mono hF15), ha.cut (l := [0, 2, 5, 7, 54]) rfl⟩
      ·refine r_lit 48 rfl hb5 ?_
       refine r_move rfl rfl rfl ?_
       refine r_fieldAddr fa53_1 rfl rfl rfl ?_
       refine r_loadB1 ag9 rfl rfl hx32 rfl (i := 1) rfl rfl ?_
       obtain ⟨v14, hv13, hb3⟩ := bind_some hb3
       refine r_callL ent27 rfl rfl rfl rfl hx32 (i := 4) rfl (tariff_reader_take_ok _ _ _ _ hv13 hx32.sat (hs16.mono hF15) (hx32.get (i := 4) rfl) (hx32.lendable (i := 4) rfl)) ?_
       rintro _ Fx19 _ _ wx35 hF19 hx40 ⟨as21, ns21, cs21, rfl, rfl, rfl, hs21⟩
       refine r_not rfl rfl rfl (r_pick_false rfl rfl rfl rfl (r_nil ?_))
       refine q_next (fun a ha => ?_)
       cases hb3
       exact ⟨_, as21, ns21, cs21, hF19, hx40.pick [0, 1, 2, 3, 4] (by decide) rfl, hs21, ha.cut (l := [0, 2, 5, 7, 54]) rfl⟩
  ·intro rx1 r hm w F hs as1 ns1 cs1 brx1 hs1 hbrx1 hfrx1
   rw [tariff_reader_atom_s] at hm
   have h := HS.lend hs hbrx1 hfrx1
   refine calls_of 117 Tryz.func55 rfl rfl rfl ?_
   refine c_seq (c_region ?_)
   refine r_alloc ze24 rfl rfl rfl h ?_
   intro b1 wx1 hx1
   refine r_nil (q_then (c_seq (c_region (r_move rfl rfl rfl ?_))))
   obtain ⟨v1, hv1, hm⟩ := bind_some hm
   refine r_callL ent54 rfl rfl rfl rfl hx1 (i := 1) rfl (tariff_reader_next_ok _ _ _ hv1 hx1.sat hs1 (hx1.get (i := 1) rfl) (hx1.lendable (i := 1) rfl)) ?_
   rintro _ Fx1 _ _ wx2 hF1 hx2 ⟨as2, ns2, cs2, rfl, rfl, rfl, hs2⟩
   refine r_alloc ze53 rfl rfl rfl hx2 ?_
   intro b2 wx3 hx3
   refine r_store sz53 rfl hx3 rfl rfl rfl rfl (i := 0) rfl rfl rfl rfl ?_
   intro wx4 hx4
   refine r_nil (q_then (c_seq (c_seq (c_region ?_))))
   refine r_fieldAddr fa53_0 rfl rfl rfl ?_
   refine r_loadB1 ag3 rfl rfl hx4 rfl (i := 0) rfl rfl ?_
   refine r_bin rfl rfl rfl rfl rfl ?_
   refine r_nil (q_then ?_)
   rcases cond_some hm with ⟨hb1, hm⟩ | ⟨hb1, hm⟩
   ·refine c_lit 11 rfl hb1 ?_
    refine c_true rfl (c_seq (c_region (r_move rfl rfl rfl ?_)))
    refine r_nilC rfl rfl rfl ?_
    refine r_fieldAddr fa50_1 rfl rfl rfl ?_
    refine r_loadB1 ag3 rfl rfl hx4 rfl (i := 2) rfl rfl ?_
    refine r_bin rfl rfl rfl rfl rfl ?_
    refine r_nilC rfl rfl rfl ?_
    refine r_fieldAddr fa50_1 rfl rfl rfl ?_
    refine r_store sz3 rfl hx4 rfl rfl rfl rfl (i := 2) rfl rfl rfl rfl ?_
    intro wx5 hx5
    refine r_nil (q_then (c_seq (c_region ?_)))
    refine r_fieldAddr fa53_2 rfl rfl rfl ?_
    refine r_loadB1 ag3 rfl rfl hx5 rfl (i := 0) rfl rfl ?_
    refine r_build (v := .agg #[.int .i64 0, .int .i64 v1.2.N, vs [], .slice none 0 0]) rfl rfl rfl (fun _ => by kernel_rfl) ?_
    refine r_store sz24 rfl hx5 rfl rfl rfl rfl (i := 1) rfl rfl rfl rfl ?_
    intro wx6 hx6
    refine r_nil (q_then (c_ret (q_then_ret ?_)))
    refine b_retC rfl ag24 sz24 rfl hx6 rfl (i := 1) rfl ?_
    obtain rfl := Option.some.inj hm
    exact ⟨_, _, _, _, rfl, hx6.pick [2] (by decide) rfl, as2, ns2, cs2, none, 0, 0, rfl, rfl, rfl, hs2, SlR.nil _ _⟩
   ·refine c_lit 11 rfl hb1 ?_
    refine c_false rfl (c_skip (q_then (c_seq (c_seq (c_region ?_)))))
    refine r_fieldAddr fa53_0 rfl rfl rfl ?_
    refine r_loadB1 ag3 rfl rfl hx4 rfl (i := 0) rfl rfl ?_
    refine r_bin rfl rfl rfl rfl rfl ?_
    refine r_move rfl rfl rfl ?_
    obtain ⟨v2, hb2, hm⟩ := bind_some hm
    refine r_mid 4 (fun a w' => wx4 = w' ∧ Has 117 a [(0, .pointer (some ⟨brx1, 0, none⟩)), (2, .pointer (some ⟨b1, 0, none⟩)), (3, .pointer (some ⟨b2, 0, none⟩)), (29, .bool v2)]) ?_ ?_
    ·rintro a wx7 ⟨rfl, hax1⟩
     refine rw_apply hax1 ?_
     refine r_nil (q_then ?_)
     rcases cond_some hm with ⟨hb3, hm⟩ | ⟨hb3, hm⟩
     ·refine c_lit 29 rfl hb3 ?_
      refine c_true rfl (c_seq (c_region (r_move rfl rfl rfl ?_)))
      obtain ⟨v3, hv2, hm⟩ := bind_some hm
      refine r_callL ent26 rfl rfl rfl rfl hx4 (i := 2) rfl (tariff_reader_fail_ok _ _ _ _ hv2 hx4.sat hs2 (hx4.get (i := 2) rfl) (hx4.lendable (i := 2) rfl)) ?_
      rintro _ Fx2 _ _ wx8 hF2 hx7 ⟨as3, ns3, cs3, rfl, rfl, rfl, hs3⟩
      refine r_nil (q_then (c_seq (c_region ?_)))
      refine r_build (v := .agg #[.int .i64 0, .int .i64 0, vs [], .slice none 0 0]) rfl rfl rfl (fun _ => by kernel_rfl) ?_
      refine r_store sz24 rfl hx7 rfl rfl rfl rfl (i := 1) rfl rfl rfl rfl ?_
      intro wx9 hx8
      refine r_nil (q_then (c_ret (q_then_ret ?_)))
      refine b_retC rfl ag24 sz24 rfl hx8 rfl (i := 1) rfl ?_
      obtain rfl := Option.some.inj hm
      exact ⟨_, _, _, _, rfl, hx8.pick [2] (by decide) rfl, as3, ns3, cs3, none, 0, 0, rfl, rfl, rfl, hs3, SlR.nil _ _⟩
     ·refine c_lit 29 rfl hb3 ?_
      refine c_false rfl (c_skip (q_then (c_seq (c_region (r_move rfl rfl rfl ?_)))))
      refine r_nilC rfl rfl rfl ?_
      refine r_fieldAddr fa50_1 rfl rfl rfl ?_
      refine r_loadB1 ag3 rfl rfl hx4 rfl (i := 2) rfl rfl ?_
      refine r_bin rfl rfl rfl rfl rfl ?_
      refine r_nilC rfl rfl rfl ?_
      refine r_fieldAddr fa50_1 rfl rfl rfl ?_
      refine r_store sz3 rfl hx4 rfl rfl rfl rfl (i := 2) rfl rfl rfl rfl ?_
      intro wx10 hx9
      refine r_nil (q_then (c_seq (c_seq (c_region ?_))))
      refine r_fieldAddr fa53_1 rfl rfl rfl ?_
      refine r_loadB1 ag9 rfl rfl hx9 rfl (i := 0) rfl rfl ?_
      refine r_nil (q_then (c_block (c_seq (c_region ?_))))
      refine r_str rfl rfl rfl rfl rfl ?_
      refine r_assign rfl rfl rfl (r_nil (q_then ?_))
      rcases cond_some hm with ⟨hb4, hm⟩ | ⟨hb4, hm⟩
      ·refine c_lit 42 rfl hb4 ?_
       refine c_true rfl (c_seq (c_region (r_move rfl rfl rfl ?_)))
       obtain ⟨v4, hv3, hm⟩ := bind_some hm
       refine r_callL ent23 rfl rfl rfl rfl hx9 (i := 2) rfl (ih.1 _ _ hv3 hx9.sat hs2 (hx9.get (i := 2) rfl) (hx9.lendable (i := 2) rfl)) ?_
       rintro _ Fx3 _ _ wx11 hF3 hx10 ⟨as4, ns4, cs4, as5, ns5, cs5, rfl, rfl, rfl, hs4, hs5⟩
       refine r_alloc ze24 rfl rfl rfl hx10 ?_
       intro b3 wx12 hx11
       refine r_store sz24 rfl hx11 rfl rfl rfl rfl (i := 0) rfl rfl rfl rfl ?_
       intro wx13 hx12
       refine r_nil (q_then (c_seq (c_region (r_move rfl rfl rfl ?_))))
       refine r_buildSlice (e := 9) (cs := [vs [41]]) (q := 1) rfl rfl hx12 rfl (fun _ => by kernel_rfl) rfl rfl ?_
       intro b4 wx14 hx13
       obtain ⟨Fx4, hF4, hx14, hsx1⟩ := freezeRowL hx13 (k := 4) rfl (i := 0) rfl (by decide) ((show RowN Rp.str Fx3 1 [vs [41]] [[41]] from ⟨rfl, ⟨_, _, rfl, rfl, (rfl : RowR Rp.str _ [] [])⟩⟩))
       obtain ⟨v5, hv4, hm⟩ := bind_some hm
       refine r_callL ent21 rfl rfl rfl rfl hx14 (i := 3) rfl (tariff_reader_need_ok _ _ _ _ hv4 hx14.sat (hs4.mono hF4) (hx14.get (i := 3) rfl) (hx14.lendable (i := 3) rfl) hsx1) ?_
       rintro _ Fx5 _ _ wx15 hF5 hx15 ⟨as6, ns6, cs6, rfl, rfl, rfl, hs6⟩
       refine r_nil (q_then (c_seq (c_region ?_)))
       refine r_loadBW ag24 sz24 rfl rfl hx15 rfl (i := 0) rfl rfl ?_
       refine r_store sz24 rfl hx15 rfl rfl rfl rfl (i := 2) rfl rfl rfl rfl ?_
       intro wx16 hx16
       refine r_nil (q_then (c_ret (q_block_ret (q_then_ret ?_))))
       refine b_retC rfl ag24 sz24 rfl hx16 rfl (i := 2) rfl ?_
       obtain rfl := Option.some.inj hm
       exact ⟨_, _, _, _, rfl, hx16.pick [3] (by decide) rfl, as6, ns6, cs6, as5, ns5, cs5, rfl, rfl, rfl, hs6, ((hs5.mono hF4).mono hF5)⟩
      ·refine c_lit 42 rfl hb4 ?_
       refine c_false rfl (c_seq (c_region ?_))
       refine r_str rfl rfl rfl rfl rfl ?_
       refine r_assign rfl rfl rfl (r_nil (q_then ?_))
       rcases cond_some hm with ⟨hb5, hm⟩ | ⟨hb5, hm⟩
       ·refine c_lit 50 rfl hb5 ?_
        refine c_true rfl (c_seq (c_region ?_))
        refine r_build (v := .agg #[.int .i64 2, .int .i64 0, vs [], .slice none 0 0]) rfl rfl rfl (fun _ => by kernel_rfl) ?_
        refine r_store sz24 rfl hx9 rfl rfl rfl rfl (i := 1) rfl rfl rfl rfl ?_
        intro wx17 hx17
        refine r_nil (q_then (c_ret (q_block_ret (q_then_ret ?_))))
        refine b_retC rfl ag24 sz24 rfl hx17 rfl (i := 1) rfl ?_
        obtain rfl := Option.some.inj hm
        exact ⟨_, _, _, _, rfl, hx17.pick [2] (by decide) rfl, as2, ns2, cs2, none, 0, 0, rfl, rfl, rfl, hs2, SlR.nil _ _⟩
       ·refine c_lit 50 rfl hb5 ?_
        refine c_false rfl (c_seq (c_region ?_))
        refine r_str rfl rfl rfl rfl rfl ?_
        refine r_assign rfl rfl rfl (r_nil (q_then ?_))
        rcases cond_some hm with ⟨hb6, hm⟩ | ⟨hb6, hm⟩
        ·refine c_lit 53 rfl hb6 ?_
         refine c_true rfl (c_seq (c_region ?_))
         refine r_build (v := .agg #[.int .i64 3, .int .i64 0, vs [], .slice none 0 0]) rfl rfl rfl (fun _ => by kernel_rfl) ?_
         refine r_store sz24 rfl hx9 rfl rfl rfl rfl (i := 1) rfl rfl rfl rfl ?_
         intro wx18 hx18
         refine r_nil (q_then (c_ret (q_block_ret (q_then_ret ?_))))
         refine b_retC rfl ag24 sz24 rfl hx18 rfl (i := 1) rfl ?_
         obtain rfl := Option.some.inj hm
         exact ⟨_, _, _, _, rfl, hx18.pick [2] (by decide) rfl, as2, ns2, cs2, none, 0, 0, rfl, rfl, rfl, hs2, SlR.nil _ _⟩
        ·refine c_lit 53 rfl hb6 ?_
         refine c_false rfl (c_seq (c_seq (c_region ?_)))
         refine r_str rfl rfl rfl rfl rfl ?_
         refine r_assign rfl rfl rfl (r_nil (q_then ?_))
         obtain ⟨v6, hb7, hm⟩ := bind_some hm
         refine c_midT (fun a w' => wx10 = w' ∧ Has 117 a [(0, .pointer (some ⟨brx1, 0, none⟩)), (2, .pointer (some ⟨b1, 0, none⟩)), (3, .pointer (some ⟨b2, 0, none⟩)), (41, vs v1.2.Text), (56, .bool v6)]) ?_ ?_
         ·rintro a wx19 ⟨rfl, hax2⟩
          refine cw_apply hax2 ?_
          rcases cond_some hm with ⟨hb8, hm⟩ | ⟨hb8, hm⟩
          ·refine c_lit 56 rfl hb8 ?_
           refine c_true rfl (c_seq (c_region ?_))
           refine r_build (v := .agg #[.int .i64 1, .int .i64 0, vs [], .slice none 0 0]) rfl rfl rfl (fun _ => by kernel_rfl) ?_
           refine r_alloc ze24 rfl rfl rfl hx9 ?_
           intro b5 wx20 hx19
           refine r_store sz24 rfl hx19 rfl rfl rfl rfl (i := 0) rfl rfl rfl rfl ?_
           intro wx21 hx20
           refine r_nil (q_then (c_seq (c_seq (c_region ?_))))
           refine r_fieldAddr fa53_1 rfl rfl rfl ?_
           refine r_loadB1 ag9 rfl rfl hx20 rfl (i := 1) rfl rfl ?_
           refine r_str rfl rfl rfl rfl rfl ?_
           refine r_nil (q_then ?_)
           obtain ⟨f1, hb9, hm⟩ := bind_some hm
           refine c_midT (fun a w' => ∃ (Fx6 : Frz), Frz.le Fx1 Fx6 ∧ HS F w [brx1] Fx6 [.box b5 24 [.int .i64 f1, .int .i64 0, vs [], .slice none 0 0], .box b2 53 [.int .i64 v1.2.Kind, vs v1.2.Text, .int .i64 v1.2.N, .int .i64 v1.2.Pos], .box b1 24 [.int .i64 0, .int .i64 0, vs [], .slice none 0 0], .box brx1 50 [.slice as2 ns2 cs2, .int .i64 (iadd .i64 v1.1.at_ 1), .int .i64 v1.1.e]] w' ∧ Has 117 a [(0, .pointer (some ⟨brx1, 0, none⟩)), (2, .pointer (some ⟨b1, 0, none⟩)), (5, .pointer (some ⟨b5, 0, none⟩))]) ?_ ?_
           ·rintro a wx22 ⟨Fx6, hF6, hx21, hax3⟩
            refine cw_apply hax3 ?_
            refine c_seq (c_region (r_move rfl rfl rfl ?_))
            refine r_buildSlice (e := 9) (cs := [vs [40]]) (q := 1) rfl rfl hx21 rfl (fun _ => by kernel_rfl) rfl rfl ?_
            intro b6 wx23 hx22
            obtain ⟨Fx7, hF7, hx23, hsx2⟩ := freezeRowL hx22 (k := 4) rfl (i := 0) rfl (by decide) ((show RowN Rp.str Fx6 1 [vs [40]] [[40]] from ⟨rfl, ⟨_, _, rfl, rfl, (rfl : RowR Rp.str _ [] [])⟩⟩))
            obtain ⟨v7, hv5, hm⟩ := bind_some hm
            refine r_callL ent21 rfl rfl rfl rfl hx23 (i := 3) rfl (tariff_reader_need_ok _ _ _ _ hv5 hx23.sat ((hs2.mono hF6).mono hF7) (hx23.get (i := 3) rfl) (hx23.lendable (i := 3) rfl) hsx2) ?_
            rintro _ Fx8 _ _ wx24 hF8 hx24 ⟨as7, ns7, cs7, rfl, rfl, rfl, hs7⟩
            refine r_nil (q_then (c_seq (c_region (r_move rfl rfl rfl ?_))))
            obtain ⟨v8, hv6, hm⟩ := bind_some hm
            refine r_callL ent22 rfl rfl rfl rfl hx24 (i := 3) rfl (tariff_reader_one_ok _ _ _ _ hv6 hx24.sat hs7 (hx24.get (i := 3) rfl) (hx24.lendable (i := 3) rfl)) ?_
            rintro _ Fx9 _ _ wx25 hF9 hx25 ⟨as8, ns8, cs8, rfl, rfl, rfl, hs8⟩
            refine r_field (v := .agg #[.int .i64 v8.2.Kind, vs v8.2.Text, .int .i64 v8.2.N, .int .i64 v8.2.Pos]) (u := vs v8.2.Text) (fun _ => by kernel_rfl) rfl rfl rfl ?_
            refine r_fieldAddr fa24_2 rfl rfl rfl ?_
            refine r_store sz9 rfl hx25 rfl rfl rfl rfl (i := 0) rfl rfl rfl rfl ?_
            intro wx26 hx26
            refine r_nil (q_then (c_seq (c_region (r_move rfl rfl rfl ?_))))
            refine r_buildSlice (e := 9) (cs := [vs [41]]) (q := 1) rfl rfl hx26 rfl (fun _ => by kernel_rfl) rfl rfl ?_
            intro b7 wx27 hx27
            obtain ⟨Fx10, hF10, hx28, hsx3⟩ := freezeRowL hx27 (k := 4) rfl (i := 0) rfl (by decide) ((show RowN Rp.str Fx9 1 [vs [41]] [[41]] from ⟨rfl, ⟨_, _, rfl, rfl, (rfl : RowR Rp.str _ [] [])⟩⟩))
            obtain ⟨v9, hv7, hm⟩ := bind_some hm
            refine r_callL ent21 rfl rfl rfl rfl hx28 (i := 3) rfl (tariff_reader_need_ok _ _ _ _ hv7 hx28.sat (hs8.mono hF10) (hx28.get (i := 3) rfl) (hx28.lendable (i := 3) rfl) hsx3) ?_
            rintro _ Fx11 _ _ wx28 hF11 hx29 ⟨as9, ns9, cs9, rfl, rfl, rfl, hs9⟩
            refine r_nil (q_then (c_seq (c_region ?_)))
            refine r_loadBW ag24 sz24 rfl rfl hx29 rfl (i := 0) rfl rfl ?_
            refine r_store sz24 rfl hx29 rfl rfl rfl rfl (i := 2) rfl rfl rfl rfl ?_
            intro wx29 hx30
            refine r_nil (q_then (c_ret (q_block_ret (q_then_ret ?_))))
            refine b_retC rfl ag24 sz24 rfl hx30 rfl (i := 2) rfl ?_
            obtain rfl := Option.some.inj hm
            exact ⟨_, _, _, _, rfl, hx30.pick [3] (by decide) rfl, as9, ns9, cs9, none, 0, 0, rfl, rfl, rfl, hs9, SlR.nil _ _⟩
           ·clear hm
            rcases cond_some hb9 with ⟨hb10, hb9⟩ | ⟨hb10, hb9⟩
            ·refine c_lit 62 rfl hb10 ?_
             refine c_true rfl (c_region ?_)
             refine r_fieldAddr fa24_0 rfl rfl rfl ?_
             refine r_store sz3 rfl hx20 rfl rfl rfl rfl (i := 0) rfl rfl rfl rfl ?_
             intro wx30 hx31
             refine r_nil ?_
             refine q_next (fun a ha => ?_)
             cases hb9
             exact ⟨_, Frz.refl _, hx31.pick [0, 1, 2, 3] (by decide) rfl, ha.cut (l := [0, 2, 5]) rfl⟩
            ·refine c_lit 62 rfl hb10 ?_
             refine c_false rfl (c_skip ?_)
             refine q_next (fun a ha => ?_)
             cases hb9
             exact ⟨_, Frz.refl _, hx20.pick [0, 1, 2, 3] (by decide) rfl, ha.cut (l := [0, 2, 5]) rfl⟩
          ·refine c_lit 56 rfl hb8 ?_
           refine c_false rfl (c_seq (c_seq (c_region ?_)))
           refine r_str rfl rfl rfl rfl rfl ?_
           refine r_assign rfl rfl rfl (r_nil (q_then ?_))
           obtain ⟨v10, hb11, hm⟩ := bind_some hm
           refine c_midT (fun a w' => wx10 = w' ∧ Has 117 a [(0, .pointer (some ⟨brx1, 0, none⟩)), (2, .pointer (some ⟨b1, 0, none⟩)), (3, .pointer (some ⟨b2, 0, none⟩)), (75, .bool v10)]) ?_ ?_
           ·rintro a wx31 ⟨rfl, hax4⟩
            refine cw_apply hax4 ?_
            rcases cond_some hm with ⟨hb12, hm⟩ | ⟨hb12, hm⟩
            ·refine c_lit 75 rfl hb12 ?_
             refine c_true rfl (c_seq (c_region ?_))
             refine r_build (v := .agg #[.int .i64 9, .int .i64 0, vs [], .slice none 0 0]) rfl rfl rfl (fun _ => by kernel_rfl) ?_
             refine r_alloc ze24 rfl rfl rfl hx9 ?_
             intro b8 wx32 hx32
             refine r_store sz24 rfl hx32 rfl rfl rfl rfl (i := 0) rfl rfl rfl rfl ?_
             intro wx33 hx33
             refine r_nil (q_then (c_seq (c_seq (c_region ?_))))
             refine r_fieldAddr fa53_1 rfl rfl rfl ?_
             refine r_loadB1 ag9 rfl rfl hx33 rfl (i := 1) rfl rfl ?_
             refine r_str rfl rfl rfl rfl rfl ?_
             refine r_nil (q_then ?_)
             obtain ⟨f2, hb13, hm⟩ := bind_some hm
             refine c_midT (fun a w' => ∃ (Fx12 : Frz), Frz.le Fx1 Fx12 ∧ HS F w [brx1] Fx12 [.box b8 24 [.int .i64 f2, .int .i64 0, vs [], .slice none 0 0], .box b2 53 [.int .i64 v1.2.Kind, vs v1.2.Text, .int .i64 v1.2.N, .int .i64 v1.2.Pos], .box b1 24 [.int .i64 0, .int .i64 0, vs [], .slice none 0 0], .box brx1 50 [.slice as2 ns2 cs2, .int .i64 (iadd .i64 v1.1.at_ 1), .int .i64 v1.1.e]] w' ∧ Has 117 a [(0, .pointer (some ⟨brx1, 0, none⟩)), (2, .pointer (some ⟨b1, 0, none⟩)), (6, .pointer (some ⟨b8, 0, none⟩))]) ?_ ?_
             ·rintro a wx34 ⟨Fx12, hF12, hx34, hax5⟩
              refine cw_apply hax5 ?_
              refine c_seq (c_region (r_move rfl rfl rfl ?_))
              refine r_buildSlice (e := 9) (cs := [vs [40]]) (q := 1) rfl rfl hx34 rfl (fun _ => by kernel_rfl) rfl rfl ?_
              intro b9 wx35 hx35
              obtain ⟨Fx13, hF13, hx36, hsx4⟩ := freezeRowL hx35 (k := 4) rfl (i := 0) rfl (by decide) ((show RowN Rp.str Fx12 1 [vs [40]] [[40]] from ⟨rfl, ⟨_, _, rfl, rfl, (rfl : RowR Rp.str _ [] [])⟩⟩))
              obtain ⟨v11, hv8, hm⟩ := bind_some hm
              refine r_callL ent21 rfl rfl rfl rfl hx36 (i := 3) rfl (tariff_reader_need_ok _ _ _ _ hv8 hx36.sat ((hs2.mono hF12).mono hF13) (hx36.get (i := 3) rfl) (hx36.lendable (i := 3) rfl) hsx4) ?_
              rintro _ Fx14 _ _ wx36 hF14 hx37 ⟨as10, ns10, cs10, rfl, rfl, rfl, hs10⟩
              refine r_nil (q_then ?_)
              have hx38 := hx37.nilRow 24 4
              obtain ⟨⟨l1, f3, f4, f5⟩, hb14, hm⟩ := bind_some hm
              refine c_mid (fun a w' => ∃ (Fx15 : Frz) (as11 : Option Addr) (ns11 : Nat) (cs11 : Nat) (xss11 : List Value) (as12 : Option Addr) (ns12 : Nat) (cs12 : Nat), Frz.le Fx14 Fx15 ∧ HS F w [brx1] Fx15 [.row 24 4 as11 ns11 cs11 xss11, .box b8 24 [.int .i64 f2, .int .i64 0, vs [], .slice as11 ns11 cs11], .box b2 53 [.int .i64 v1.2.Kind, vs v1.2.Text, .int .i64 v1.2.N, .int .i64 v1.2.Pos], .box b1 24 [.int .i64 0, .int .i64 0, vs [], .slice none 0 0], .box brx1 50 [.slice as12 ns12 cs12, .int .i64 f4, .int .i64 f5]] w' ∧ (RowN rp_Expr Fx15 ns11 xss11 l1) ∧ (SlR rp_Token Fx15 as12 ns12 cs12 f3) ∧ Has 117 a [(0, .pointer (some ⟨brx1, 0, none⟩)), (2, .pointer (some ⟨b1, 0, none⟩)), (6, .pointer (some ⟨b8, 0, none⟩))]) ?_ ?_
              ·rintro a wx37 ⟨Fx15, as11, ns11, cs11, xss11, as12, ns12, cs12, hF15, hx39, hs11, hs12, hax6⟩
               refine cw_apply hax6 ?_
               refine c_seq (c_region (r_move rfl rfl rfl ?_))
               refine r_buildSlice (e := 9) (cs := [vs [44]]) (q := 1) rfl rfl hx39 rfl (fun _ => by kernel_rfl) rfl rfl ?_
               intro b10 wx38 hx40
               obtain ⟨Fx16, hF16, hx41, hsx5⟩ := freezeRowL hx40 (k := 5) rfl (i := 0) rfl (by decide) ((show RowN Rp.str Fx15 1 [vs [44]] [[44]] from ⟨rfl, ⟨_, _, rfl, rfl, (rfl : RowR Rp.str _ [] [])⟩⟩))
               obtain ⟨v12, hv9, hm⟩ := bind_some hm
               refine r_callL ent21 rfl rfl rfl rfl hx41 (i := 4) rfl (tariff_reader_need_ok _ _ _ _ hv9 hx41.sat (hs12.mono hF16) (hx41.get (i := 4) rfl) (hx41.lendable (i := 4) rfl) hsx5) ?_
               rintro _ Fx17 _ _ wx39 hF17 hx42 ⟨as13, ns13, cs13, rfl, rfl, rfl, hs13⟩
               refine r_nil (q_then ?_)
               obtain ⟨⟨l2, f6, f7, f8⟩, hb15, hm⟩ := bind_some hm
               refine c_mid (fun a w' => ∃ (Fx18 : Frz) (as14 : Option Addr) (ns14 : Nat) (cs14 : Nat) (xss14 : List Value) (as15 : Option Addr) (ns15 : Nat) (cs15 : Nat), Frz.le Fx17 Fx18 ∧ HS F w [brx1] Fx18 [.row 24 4 as14 ns14 cs14 xss14, .box b8 24 [.int .i64 f2, .int .i64 0, vs [], .slice as14 ns14 cs14], .box b2 53 [.int .i64 v1.2.Kind, vs v1.2.Text, .int .i64 v1.2.N, .int .i64 v1.2.Pos], .box b1 24 [.int .i64 0, .int .i64 0, vs [], .slice none 0 0], .box brx1 50 [.slice as15 ns15 cs15, .int .i64 f7, .int .i64 f8]] w' ∧ (RowN rp_Expr Fx18 ns14 xss14 l2) ∧ (SlR rp_Token Fx18 as15 ns15 cs15 f6) ∧ Has 117 a [(0, .pointer (some ⟨brx1, 0, none⟩)), (2, .pointer (some ⟨b1, 0, none⟩)), (6, .pointer (some ⟨b8, 0, none⟩))]) ?_ ?_
               ·rintro a wx40 ⟨Fx18, as14, ns14, cs14, xss14, as15, ns15, cs15, hF18, hx43, hs14, hs15, hax7⟩
                refine cw_apply hax7 ?_
                refine c_seq (c_region (r_move rfl rfl rfl ?_))
                refine r_buildSlice (e := 9) (cs := [vs [41]]) (q := 1) rfl rfl hx43 rfl (fun _ => by kernel_rfl) rfl rfl ?_
                intro b11 wx41 hx44
                obtain ⟨Fx19, hF19, hx45, hsx6⟩ := freezeRowL hx44 (k := 5) rfl (i := 0) rfl (by decide) ((show RowN Rp.str Fx18 1 [vs [41]] [[41]] from ⟨rfl, ⟨_, _, rfl, rfl, (rfl : RowR Rp.str _ [] [])⟩⟩))
                obtain ⟨v13, hv10, hm⟩ := bind_some hm
                refine r_callL ent21 rfl rfl rfl rfl hx45 (i := 4) rfl (tariff_reader_need_ok _ _ _ _ hv10 hx45.sat (hs15.mono hF19) (hx45.get (i := 4) rfl) (hx45.lendable (i := 4) rfl) hsx6) ?_
                rintro _ Fx20 _ _ wx42 hF20 hx46 ⟨as16, ns16, cs16, rfl, rfl, rfl, hs16⟩
                refine r_nil (q_then (c_seq (c_region ?_)))
                refine r_loadBW ag24 sz24 rfl rfl hx46 rfl (i := 1) rfl rfl ?_
                refine r_store sz24 rfl hx46 rfl rfl rfl rfl (i := 3) rfl rfl rfl rfl ?_
                intro wx43 hx47
                refine r_nil (q_then (c_ret (q_block_ret (q_then_ret ?_))))
                obtain ⟨Fx21, hF21, hx48, hsx7⟩ := freezeRowL hx47 (k := 4) rfl (i := 0) rfl (by decide) ((hs14.mono hF19).mono hF20)
                refine b_retC rfl ag24 sz24 rfl hx48 rfl (i := 2) rfl ?_
                obtain rfl := Option.some.inj hm
                exact ⟨_, _, _, _, rfl, hx48.pick [3] (by decide) rfl, as16, ns16, cs16, as14, ns14, cs14, rfl, rfl, rfl, (hs16.mono hF21), hsx7⟩
               ·clear hm
                refine c_regionH (SH Fx17 [.box b2 53 [.int .i64 v1.2.Kind, vs v1.2.Text, .int .i64 v1.2.N, .int .i64 v1.2.Pos], .box b1 24 [.int .i64 0, .int .i64 0, vs [], .slice none 0 0]]) 8 rfl (by kernel_rfl) hx42 ?_
                intro wx44 hx49
                refine d_tk 0 rfl (by kernel_rfl) rfl rfl rfl rfl (hx49.sh (Frz.refl _) [2, 3] (by decide) rfl) (fun _ _ _ _ _ => r_fieldAddr fa24_3 rfl rfl rfl (r_nil (qq rfl))) ?_
                refine d_tk 2 rfl (by kernel_rfl) rfl rfl rfl rfl (hx49.sh (Frz.refl _) [2, 3] (by decide) rfl) (fun _ _ _ _ _ => r_move rfl rfl rfl (r_nil (qq rfl))) ?_
                refine d_two 1 3 rfl rfl (by kernel_rfl) ?_ ?_
                ·refine r_loadB1 ag22 rfl rfl hx49 rfl (i := 1) rfl rfl ?_
                 refine d_next (hx49.sh (Frz.refl _) [2, 3] (by decide) rfl) ?_
                 refine d_step 3 rfl (by kernel_rfl) ?_
                 obtain ⟨v14, hv11, hb15⟩ := bind_some hb15
                 refine r_callL ent23 rfl rfl rfl rfl hx49 (i := 4) rfl (ih.1 _ _ hv11 hx49.sat hs13 (hx49.get (i := 4) rfl) (hx49.lendable (i := 4) rfl)) ?_
                 rintro _ Fx22 _ _ wx45 hF22 hx50 ⟨as17, ns17, cs17, as18, ns18, cs18, rfl, rfl, rfl, hs17, hs18⟩
                 refine d_next (hx50.sh hF22 [2, 3] (by decide) rfl) ?_
                 refine d_step 4 rfl (by kernel_rfl) ?_
                 refine r_buildSlice (e := 24) (cs := [.int .i64 v14.2.Op, .int .i64 v14.2.N, vs v14.2.Name, .slice as18 ns18 cs18]) (q := 4) rfl rfl hx50 rfl (fun _ => by kernel_rfl) rfl rfl ?_
                 intro b12 wx46 hx51
                 refine d_next (hx51.sh hF22 [3, 4] (by decide) rfl) ?_
                 refine d_step 5 rfl (by kernel_rfl) ?_
                 obtain ⟨l3, hr1, hb15⟩ := bind_some hb15
                 refine r_appendN (r := rp_Expr) ap22 rfl rfl hx51 rfl rfl (i := 1) (j := 0) rfl rfl (((hs11.mono hF16).mono hF17).mono hF22) ((show RowN rp_Expr Fx22 1 [.int .i64 v14.2.Op, .int .i64 v14.2.N, vs v14.2.Name, .slice as18 ns18 cs18] [v14.2] from ⟨rfl, ⟨_, _, rfl, (expr_iff.2 ⟨as18, ns18, cs18, rfl, hs18⟩), (rfl : RowR rp_Expr _ [] [])⟩⟩)) hr1 ?_
                 intro as19 cs19 wx47 hx52 hs19
                 refine d_next (hx52.sh hF22 [3, 4] (by decide) rfl) ?_
                 refine d_tk 6 rfl (by kernel_rfl) rfl rfl rfl rfl (hx52.sh hF22 [3, 4] (by decide) rfl) (fun _ _ _ _ _ => r_fieldAddr fa24_3 rfl rfl rfl (r_nil (qq rfl))) ?_
                 refine d_step 7 rfl (by kernel_rfl) ?_
                 refine r_store sz22 rfl hx52 rfl rfl rfl rfl (i := 2) rfl rfl rfl rfl ?_
                 intro wx48 hx53
                 refine d_next (hx53.sh hF22 [3, 4] (by decide) rfl) ?_
                 refine d_done (by kernel_rfl) ?_
                 refine q_next (fun a ha => ?_)
                 cases hb15
                 exact ⟨_, as19, (ns11 + 1), cs19, (xss11 ++ [.int .i64 v14.2.Op, .int .i64 v14.2.N, vs v14.2.Name, .slice as18 ns18 cs18]), as17, ns17, cs17, hF22, hx53.pick [1, 2, 3, 4, 5] (by decide) rfl, hs19, hs17, ha.cut (l := [0, 2, 6]) rfl⟩
                ·obtain ⟨v14, hv11, hb15⟩ := bind_some hb15
                 refine r_callL ent23 rfl rfl rfl rfl hx49 (i := 4) rfl (ih.1 _ _ hv11 hx49.sat hs13 (hx49.get (i := 4) rfl) (hx49.lendable (i := 4) rfl)) ?_
                 rintro _ Fx22 _ _ wx45 hF22 hx50 ⟨as17, ns17, cs17, as18, ns18, cs18, rfl, rfl, rfl, hs17, hs18⟩
                 refine d_next (hx50.sh hF22 [2, 3] (by decide) rfl) ?_
                 refine d_two 1 4 rfl rfl (by kernel_rfl) ?_ ?_
                 ·refine r_loadB1 ag22 rfl rfl hx50 rfl (i := 1) rfl rfl ?_
                  refine d_next (hx50.sh hF22 [2, 3] (by decide) rfl) ?_
                  refine d_step 4 rfl (by kernel_rfl) ?_
                  refine r_buildSlice (e := 24) (cs := [.int .i64 v14.2.Op, .int .i64 v14.2.N, vs v14.2.Name, .slice as18 ns18 cs18]) (q := 4) rfl rfl hx50 rfl (fun _ => by kernel_rfl) rfl rfl ?_
                  intro b12 wx46 hx51
                  refine d_next (hx51.sh hF22 [3, 4] (by decide) rfl) ?_
                  refine d_step 5 rfl (by kernel_rfl) ?_
                  obtain ⟨l3, hr1, hb15⟩ := bind_some hb15
                  refine r_appendN (r := rp_Expr) ap22 rfl rfl hx51 rfl rfl (i := 1) (j := 0) rfl rfl (((hs11.mono hF16).mono hF17).mono hF22) ((show RowN rp_Expr Fx22 1 [.int .i64 v14.2.Op, .int .i64 v14.2.N, vs v14.2.Name, .slice as18 ns18 cs18] [v14.2] from ⟨rfl, ⟨_, _, rfl, (expr_iff.2 ⟨as18, ns18, cs18, rfl, hs18⟩), (rfl : RowR rp_Expr _ [] [])⟩⟩)) hr1 ?_
                  intro as19 cs19 wx47 hx52 hs19
                  refine d_next (hx52.sh hF22 [3, 4] (by decide) rfl) ?_
                  refine d_tk 6 rfl (by kernel_rfl) rfl rfl rfl rfl (hx52.sh hF22 [3, 4] (by decide) rfl) (fun _ _ _ _ _ => r_fieldAddr fa24_3 rfl rfl rfl (r_nil (qq rfl))) ?_
                  refine d_step 7 rfl (by kernel_rfl) ?_
                  refine r_store sz22 rfl hx52 rfl rfl rfl rfl (i := 2) rfl rfl rfl rfl ?_
                  intro wx48 hx53
                  refine d_next (hx53.sh hF22 [3, 4] (by decide) rfl) ?_
                  refine d_done (by kernel_rfl) ?_
                  refine q_next (fun a ha => ?_)
                  cases hb15
                  exact ⟨_, as19, (ns11 + 1), cs19, (xss11 ++ [.int .i64 v14.2.Op, .int .i64 v14.2.N, vs v14.2.Name, .slice as18 ns18 cs18]), as17, ns17, cs17, hF22, hx53.pick [1, 2, 3, 4, 5] (by decide) rfl, hs19, hs17, ha.cut (l := [0, 2, 6]) rfl⟩
                 ·refine r_buildSlice (e := 24) (cs := [.int .i64 v14.2.Op, .int .i64 v14.2.N, vs v14.2.Name, .slice as18 ns18 cs18]) (q := 4) rfl rfl hx50 rfl (fun _ => by kernel_rfl) rfl rfl ?_
                  intro b12 wx46 hx51
                  refine d_next (hx51.sh hF22 [3, 4] (by decide) rfl) ?_
                  refine d_step 1 rfl (by kernel_rfl) ?_
                  refine r_loadB1 ag22 rfl rfl hx51 rfl (i := 2) rfl rfl ?_
                  refine d_next (hx51.sh hF22 [3, 4] (by decide) rfl) ?_
                  refine d_step 5 rfl (by kernel_rfl) ?_
                  obtain ⟨l3, hr1, hb15⟩ := bind_some hb15
                  refine r_appendN (r := rp_Expr) ap22 rfl rfl hx51 rfl rfl (i := 1) (j := 0) rfl rfl (((hs11.mono hF16).mono hF17).mono hF22) ((show RowN rp_Expr Fx22 1 [.int .i64 v14.2.Op, .int .i64 v14.2.N, vs v14.2.Name, .slice as18 ns18 cs18] [v14.2] from ⟨rfl, ⟨_, _, rfl, (expr_iff.2 ⟨as18, ns18, cs18, rfl, hs18⟩), (rfl : RowR rp_Expr _ [] [])⟩⟩)) hr1 ?_
                  intro as19 cs19 wx47 hx52 hs19
                  refine d_next (hx52.sh hF22 [3, 4] (by decide) rfl) ?_
                  refine d_tk 6 rfl (by kernel_rfl) rfl rfl rfl rfl (hx52.sh hF22 [3, 4] (by decide) rfl) (fun _ _ _ _ _ => r_fieldAddr fa24_3 rfl rfl rfl (r_nil (qq rfl))) ?_
                  refine d_step 7 rfl (by kernel_rfl) ?_
                  refine r_store sz22 rfl hx52 rfl rfl rfl rfl (i := 2) rfl rfl rfl rfl ?_
                  intro wx48 hx53
                  refine d_next (hx53.sh hF22 [3, 4] (by decide) rfl) ?_
                  refine d_done (by kernel_rfl) ?_
                  refine q_next (fun a ha => ?_)
                  cases hb15
                  exact ⟨_, as19, (ns11 + 1), cs19, (xss11 ++ [.int .i64 v14.2.Op, .int .i64 v14.2.N, vs v14.2.Name, .slice as18 ns18 cs18]), as17, ns17, cs17, hF22, hx53.pick [1, 2, 3, 4, 5] (by decide) rfl, hs19, hs17, ha.cut (l := [0, 2, 6]) rfl⟩
              ·clear hm
               refine c_regionH (SH Fx14 [.box b2 53 [.int .i64 v1.2.Kind, vs v1.2.Text, .int .i64 v1.2.N, .int .i64 v1.2.Pos], .box b1 24 [.int .i64 0, .int .i64 0, vs [], .slice none 0 0]]) 8 rfl (by kernel_rfl) hx38 ?_
               intro wx49 hx54
               refine d_tk 0 rfl (by kernel_rfl) rfl rfl rfl rfl (hx54.sh (Frz.refl _) [2, 3] (by decide) rfl) (fun _ _ _ _ _ => r_fieldAddr fa24_3 rfl rfl rfl (r_nil (qq rfl))) ?_
               refine d_tk 2 rfl (by kernel_rfl) rfl rfl rfl rfl (hx54.sh (Frz.refl _) [2, 3] (by decide) rfl) (fun _ _ _ _ _ => r_move rfl rfl rfl (r_nil (qq rfl))) ?_
               refine d_two 1 3 rfl rfl (by kernel_rfl) ?_ ?_
               ·refine r_loadB1 ag22 rfl rfl hx54 rfl (i := 1) rfl rfl ?_
                refine d_next (hx54.sh (Frz.refl _) [2, 3] (by decide) rfl) ?_
                refine d_step 3 rfl (by kernel_rfl) ?_
                obtain ⟨v15, hv12, hb14⟩ := bind_some hb14
                refine r_callL ent23 rfl rfl rfl rfl hx54 (i := 4) rfl (ih.1 _ _ hv12 hx54.sat hs10 (hx54.get (i := 4) rfl) (hx54.lendable (i := 4) rfl)) ?_
                rintro _ Fx23 _ _ wx50 hF23 hx55 ⟨as20, ns20, cs20, as21, ns21, cs21, rfl, rfl, rfl, hs20, hs21⟩
                refine d_next (hx55.sh hF23 [2, 3] (by decide) rfl) ?_
                refine d_step 4 rfl (by kernel_rfl) ?_
                refine r_buildSlice (e := 24) (cs := [.int .i64 v15.2.Op, .int .i64 v15.2.N, vs v15.2.Name, .slice as21 ns21 cs21]) (q := 4) rfl rfl hx55 rfl (fun _ => by kernel_rfl) rfl rfl ?_
                intro b13 wx51 hx56
                refine d_next (hx56.sh hF23 [3, 4] (by decide) rfl) ?_
                refine d_step 5 rfl (by kernel_rfl) ?_
                obtain ⟨l4, hr2, hb14⟩ := bind_some hb14
                refine r_appendN (r := rp_Expr) ap22 rfl rfl hx56 rfl rfl (i := 1) (j := 0) rfl rfl ((show RowN rp_Expr _ 0 [] [] from ⟨rfl, rfl⟩).mono hF23) ((show RowN rp_Expr Fx23 1 [.int .i64 v15.2.Op, .int .i64 v15.2.N, vs v15.2.Name, .slice as21 ns21 cs21] [v15.2] from ⟨rfl, ⟨_, _, rfl, (expr_iff.2 ⟨as21, ns21, cs21, rfl, hs21⟩), (rfl : RowR rp_Expr _ [] [])⟩⟩)) hr2 ?_
                intro as22 cs22 wx52 hx57 hs22
                refine d_next (hx57.sh hF23 [3, 4] (by decide) rfl) ?_
                refine d_tk 6 rfl (by kernel_rfl) rfl rfl rfl rfl (hx57.sh hF23 [3, 4] (by decide) rfl) (fun _ _ _ _ _ => r_fieldAddr fa24_3 rfl rfl rfl (r_nil (qq rfl))) ?_
                refine d_step 7 rfl (by kernel_rfl) ?_
                refine r_store sz22 rfl hx57 rfl rfl rfl rfl (i := 2) rfl rfl rfl rfl ?_
                intro wx53 hx58
                refine d_next (hx58.sh hF23 [3, 4] (by decide) rfl) ?_
                refine d_done (by kernel_rfl) ?_
                refine q_next (fun a ha => ?_)
                cases hb14
                exact ⟨_, as22, (0 + 1), cs22, ([] ++ [.int .i64 v15.2.Op, .int .i64 v15.2.N, vs v15.2.Name, .slice as21 ns21 cs21]), as20, ns20, cs20, hF23, hx58.pick [1, 2, 3, 4, 5] (by decide) rfl, hs22, hs20, ha.cut (l := [0, 2, 6]) rfl⟩
               ·obtain ⟨v15, hv12, hb14⟩ := bind_some hb14
                refine r_callL ent23 rfl rfl rfl rfl hx54 (i := 4) rfl (ih.1 _ _ hv12 hx54.sat hs10 (hx54.get (i := 4) rfl) (hx54.lendable (i := 4) rfl)) ?_
                rintro _ Fx23 _ _ wx50 hF23 hx55 ⟨as20, ns20, cs20, as21, ns21, cs21, rfl, rfl, rfl, hs20, hs21⟩
                refine d_next (hx55.sh hF23 [2, 3] (by decide) rfl) ?_
                refine d_two 1 4 rfl rfl (by kernel_rfl) ?_ ?_
                ·refine r_loadB1 ag22 rfl rfl hx55 rfl (i := 1) rfl rfl ?_
                 refine d_next (hx55.sh hF23 [2, 3] (by decide) rfl) ?_
                 refine d_step 4 rfl (by kernel_rfl) ?_
                 refine r_buildSlice (e := 24) (cs := [.int .i64 v15.2.Op, .int .i64 v15.2.N, vs v15.2.Name, .slice as21 ns21 cs21]) (q := 4) rfl rfl hx55 rfl (fun _ => by kernel_rfl) rfl rfl ?_
                 intro b13 wx51 hx56
                 refine d_next (hx56.sh hF23 [3, 4] (by decide) rfl) ?_
                 refine d_step 5 rfl (by kernel_rfl) ?_
                 obtain ⟨l4, hr2, hb14⟩ := bind_some hb14
                 refine r_appendN (r := rp_Expr) ap22 rfl rfl hx56 rfl rfl (i := 1) (j := 0) rfl rfl ((show RowN rp_Expr _ 0 [] [] from ⟨rfl, rfl⟩).mono hF23) ((show RowN rp_Expr Fx23 1 [.int .i64 v15.2.Op, .int .i64 v15.2.N, vs v15.2.Name, .slice as21 ns21 cs21] [v15.2] from ⟨rfl, ⟨_, _, rfl, (expr_iff.2 ⟨as21, ns21, cs21, rfl, hs21⟩), (rfl : RowR rp_Expr _ [] [])⟩⟩)) hr2 ?_
                 intro as22 cs22 wx52 hx57 hs22
                 refine d_next (hx57.sh hF23 [3, 4] (by decide) rfl) ?_
                 refine d_tk 6 rfl (by kernel_rfl) rfl rfl rfl rfl (hx57.sh hF23 [3, 4] (by decide) rfl) (fun _ _ _ _ _ => r_fieldAddr fa24_3 rfl rfl rfl (r_nil (qq rfl))) ?_
                 refine d_step 7 rfl (by kernel_rfl) ?_
                 refine r_store sz22 rfl hx57 rfl rfl rfl rfl (i := 2) rfl rfl rfl rfl ?_
                 intro wx53 hx58
                 refine d_next (hx58.sh hF23 [3, 4] (by decide) rfl) ?_
                 refine d_done (by kernel_rfl) ?_
                 refine q_next (fun a ha => ?_)
                 cases hb14
                 exact ⟨_, as22, (0 + 1), cs22, ([] ++ [.int .i64 v15.2.Op, .int .i64 v15.2.N, vs v15.2.Name, .slice as21 ns21 cs21]), as20, ns20, cs20, hF23, hx58.pick [1, 2, 3, 4, 5] (by decide) rfl, hs22, hs20, ha.cut (l := [0, 2, 6]) rfl⟩
                ·refine r_buildSlice (e := 24) (cs := [.int .i64 v15.2.Op, .int .i64 v15.2.N, vs v15.2.Name, .slice as21 ns21 cs21]) (q := 4) rfl rfl hx55 rfl (fun _ => by kernel_rfl) rfl rfl ?_
                 intro b13 wx51 hx56
                 refine d_next (hx56.sh hF23 [3, 4] (by decide) rfl) ?_
                 refine d_step 1 rfl (by kernel_rfl) ?_
                 refine r_loadB1 ag22 rfl rfl hx56 rfl (i := 2) rfl rfl ?_
                 refine d_next (hx56.sh hF23 [3, 4] (by decide) rfl) ?_
                 refine d_step 5 rfl (by kernel_rfl) ?_
                 obtain ⟨l4, hr2, hb14⟩ := bind_some hb14
                 refine r_appendN (r := rp_Expr) ap22 rfl rfl hx56 rfl rfl (i := 1) (j := 0) rfl rfl ((show RowN rp_Expr _ 0 [] [] from ⟨rfl, rfl⟩).mono hF23) ((show RowN rp_Expr Fx23 1 [.int .i64 v15.2.Op, .int .i64 v15.2.N, vs v15.2.Name, .slice as21 ns21 cs21] [v15.2] from ⟨rfl, ⟨_, _, rfl, (expr_iff.2 ⟨as21, ns21, cs21, rfl, hs21⟩), (rfl : RowR rp_Expr _ [] [])⟩⟩)) hr2 ?_
                 intro as22 cs22 wx52 hx57 hs22
                 refine d_next (hx57.sh hF23 [3, 4] (by decide) rfl) ?_
                 refine d_tk 6 rfl (by kernel_rfl) rfl rfl rfl rfl (hx57.sh hF23 [3, 4] (by decide) rfl) (fun _ _ _ _ _ => r_fieldAddr fa24_3 rfl rfl rfl (r_nil (qq rfl))) ?_
                 refine d_step 7 rfl (by kernel_rfl) ?_
                 refine r_store sz22 rfl hx57 rfl rfl rfl rfl (i := 2) rfl rfl rfl rfl ?_
                 intro wx53 hx58
                 refine d_next (hx58.sh hF23 [3, 4] (by decide) rfl) ?_
                 refine d_done (by kernel_rfl) ?_
                 refine q_next (fun a ha => ?_)
                 cases hb14
                 exact ⟨_, as22, (0 + 1), cs22, ([] ++ [.int .i64 v15.2.Op, .int .i64 v15.2.N, vs v15.2.Name, .slice as21 ns21 cs21]), as20, ns20, cs20, hF23, hx58.pick [1, 2, 3, 4, 5] (by decide) rfl, hs22, hs20, ha.cut (l := [0, 2, 6]) rfl⟩
             ·clear hm
              rcases cond_some hb13 with ⟨hb16, hb13⟩ | ⟨hb16, hb13⟩
              ·refine c_lit 81 rfl hb16 ?_
               refine c_true rfl (c_region ?_)
               refine r_fieldAddr fa24_0 rfl rfl rfl ?_
               refine r_store sz3 rfl hx33 rfl rfl rfl rfl (i := 0) rfl rfl rfl rfl ?_
               intro wx54 hx59
               refine r_nil ?_
               refine q_next (fun a ha => ?_)
               cases hb13
               exact ⟨_, Frz.refl _, hx59.pick [0, 1, 2, 3] (by decide) rfl, ha.cut (l := [0, 2, 6]) rfl⟩
              ·refine c_lit 81 rfl hb16 ?_
               refine c_false rfl (c_skip ?_)
               refine q_next (fun a ha => ?_)
               cases hb13
               exact ⟨_, Frz.refl _, hx33.pick [0, 1, 2, 3] (by decide) rfl, ha.cut (l := [0, 2, 6]) rfl⟩
            ·refine c_lit 75 rfl hb12 ?_
             refine c_false rfl (c_skip (q_block (q_then (c_seq (c_region (r_move rfl rfl rfl ?_))))))
             refine r_nilC rfl rfl rfl ?_
             refine r_fieldAddr fa50_1 rfl rfl rfl ?_
             refine r_loadB1 ag3 rfl rfl hx9 rfl (i := 2) rfl rfl ?_
             refine r_bin rfl rfl rfl rfl rfl ?_
             refine r_nilC rfl rfl rfl ?_
             refine r_fieldAddr fa50_1 rfl rfl rfl ?_
             refine r_store sz3 rfl hx9 rfl rfl rfl rfl (i := 2) rfl rfl rfl rfl ?_
             intro wx55 hx60
             refine r_nil (q_then (c_seq (c_region (r_move rfl rfl rfl ?_))))
             obtain ⟨v16, hv13, hm⟩ := bind_some hm
             refine r_callL ent26 rfl rfl rfl rfl hx60 (i := 2) rfl (tariff_reader_fail_ok _ _ _ _ hv13 hx60.sat hs2 (hx60.get (i := 2) rfl) (hx60.lendable (i := 2) rfl)) ?_
             rintro _ Fx24 _ _ wx56 hF24 hx61 ⟨as23, ns23, cs23, rfl, rfl, rfl, hs23⟩
             refine r_nil (q_then (c_seq (c_region ?_)))
             refine r_build (v := .agg #[.int .i64 0, .int .i64 0, vs [], .slice none 0 0]) rfl rfl rfl (fun _ => by kernel_rfl) ?_
             refine r_store sz24 rfl hx61 rfl rfl rfl rfl (i := 1) rfl rfl rfl rfl ?_
             intro wx57 hx62
             refine r_nil (q_then (c_ret ?_))
             refine b_retC rfl ag24 sz24 rfl hx62 rfl (i := 1) rfl ?_
             obtain rfl := Option.some.inj hm
             exact ⟨_, _, _, _, rfl, hx62.pick [2] (by decide) rfl, as23, ns23, cs23, none, 0, 0, rfl, rfl, rfl, hs23, SlR.nil _ _⟩
           ·clear hm
            rcases cond_some hb11 with ⟨hb17, hb11⟩ | ⟨hb17, hb11⟩
            ·refine c_lit 75 rfl hb17 ?_
             refine c_true rfl (c_skip ?_)
             refine q_next (fun a ha => ?_)
             cases hb11
             exact ⟨rfl, ha.cut (l := [0, 2, 3, 75]) rfl⟩
            ·refine c_lit 75 rfl hb17 ?_
             refine c_false rfl (c_region ?_)
             refine r_str rfl rfl rfl rfl rfl ?_
             refine r_assign rfl rfl rfl (r_nil ?_)
             refine q_next (fun a ha => ?_)
             cases hb11
             exact ⟨rfl, ha.cut (l := [0, 2, 3, 75]) rfl⟩
         ·clear hm
          rcases cond_some hb7 with ⟨hb18, hb7⟩ | ⟨hb18, hb7⟩
          ·refine c_lit 56 rfl hb18 ?_
           refine c_true rfl (c_skip ?_)
           refine q_next (fun a ha => ?_)
           cases hb7
           exact ⟨rfl, ha.cut (l := [0, 2, 3, 41, 56]) rfl⟩
          ·refine c_lit 56 rfl hb18 ?_
           refine c_false rfl (c_region ?_)
           refine r_str rfl rfl rfl rfl rfl ?_
           refine r_assign rfl rfl rfl (r_nil ?_)
           refine q_next (fun a ha => ?_)
           cases hb7
           exact ⟨rfl, ha.cut (l := [0, 2, 3, 41, 56]) rfl⟩
    ·clear hm
     rcases cond_some hb2 with ⟨hb19, hb2⟩ | ⟨hb19, hb2⟩
     ·refine r_lit 25 rfl hb19 ?_
      refine r_fieldAddr fa53_0 rfl rfl rfl ?_
      refine r_loadB1 ag3 rfl rfl hx4 rfl (i := 0) rfl rfl ?_
      refine r_bin rfl rfl rfl rfl rfl ?_
      refine r_pick_true rfl rfl rfl rfl (r_nil ?_)
      refine q_next (fun a ha => ?_)
      cases hb2
      exact ⟨rfl, ha.cut (l := [0, 2, 3, 29]) rfl⟩
     ·refine r_lit 25 rfl hb19 ?_
      refine r_off rfl (by decide) rfl (r_off rfl (by decide) rfl (r_off rfl (by decide) rfl (r_pick_false rfl rfl rfl rfl (r_nil ?_))))
      refine q_next (fun a ha => ?_)
      cases hb2
      exact ⟨rfl, ha.cut (l := [0, 2, 3, 29]) rfl⟩
theorem tariff_reader_expr_ok (n : Nat) (rx1 : reader) (r : (reader × Expr)) (hm : tariff_reader_expr n rx1 = some r) {w : World} {F : Frz} (hs : Sat F w) {as1 : Option Addr} {ns1 : Nat} {cs1 : Nat} {brx1 : Nat} (hs1 : SlR rp_Token F as1 ns1 cs1 rx1.l) (hbrx1 : (OE.box brx1 50 [.slice as1 ns1 cs1, .int .i64 rx1.at_, .int .i64 rx1.e]).ok w) (hfrx1 : F brx1 = none) :
  Calls Tryz.prog 23 #[.pointer (some ⟨brx1, 0, none⟩)] w fun e w' => ∃ v F' cs' O', e = .returned v ∧ HS F w [brx1] F' (.box brx1 50 cs' :: O') w' ∧ (∃ (al_0 : Option Addr) (nl_0 : Nat) (cl_0 : Nat) (a0_3 : Option Addr) (n0_3 : Nat) (c0_3 : Nat), v = .agg #[.int .i64 r.2.Op, .int .i64 r.2.N, vs r.2.Name, .slice a0_3 n0_3 c0_3] ∧ cs' = [.slice al_0 nl_0 cl_0, .int .i64 r.1.at_, .int .i64 r.1.e] ∧ O' = [] ∧ SlR rp_Token F' al_0 nl_0 cl_0 r.1.l ∧ SlR rp_Expr F' a0_3 n0_3 c0_3 r.2.Args) :=
 (tariff_reader_expr_all n).1 rx1 r hm hs hs1 hbrx1 hfrx1
end Go.Proofs.YtpihabofmnnbbaaGreatDoor.M

