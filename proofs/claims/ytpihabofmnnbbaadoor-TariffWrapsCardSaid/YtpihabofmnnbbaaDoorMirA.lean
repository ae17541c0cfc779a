/-
  THE MIRRORS of the tariff's and the lexer's functions, of the references and the laws, and that each call returns what its mirror says. Printed by gen.py.
-/
import Derived.Test.YtpihabofmnnbbaaDoorRows
import Derived.Test.YtpihabofmnnbbaaDoorRtZ
import Derived.Test.YtpihabofmnnbbaaDoorExpr
import Derived.Test.YtpihabofmnnbbaaDoorExtT
namespace Go.Proofs.YtpihabofmnnbbaaDoor.M
open Go Go.RowKit Rt

def lexer_blank (_n : Nat) (c1 : Int) : Option Bool :=
 (bif c1 == 32 then
  some true
 else
  some (c1 == 9)).bind fun v1 =>
 (bif v1 then
  some true
 else
  some (c1 == 10)).bind fun v2 =>
 some v2

set_option maxHeartbeats 1000000 in
set_option maxRecDepth 1000000 in
theorem lexer_blank_ok (n : Nat) (c1 : Int) (r : Bool) (hm : lexer_blank n c1 = some r) {w : World}  :
  Calls Tryd.prog 53 #[.int .u8 c1] w fun e w' => e = .returned (.bool r) ∧ w' = w := by
 unfold lexer_blank at hm
 refine calls_of 13 Tryd.func53 rfl rfl rfl ?_
 refine c_seq (c_region (r_assign rfl rfl rfl (r_nil (q_then (c_seq (c_region (r_move rfl rfl rfl ?_)))))))
 refine r_bin rfl rfl rfl rfl rfl ?_
 refine r_move rfl rfl rfl ?_
 obtain ⟨v1, hb1, hm⟩ := bind_some hm
 refine r_mid 3 (fun a w' => w = w' ∧ Has 13 a [(0, .int .u8 c1), (8, .bool v1)]) ?_ ?_
 ·rintro a wx1 ⟨rfl, hax1⟩
  refine rw_apply hax1 ?_
  refine r_move rfl rfl rfl ?_
  obtain ⟨v2, hb2, hm⟩ := bind_some hm
  refine r_mid 3 (fun a w' => w = w' ∧ Has 13 a [(12, .bool v2)]) ?_ ?_
  ·rintro a wx2 ⟨rfl, hax2⟩
   refine rw_apply hax2 ?_
   refine r_assign rfl rfl rfl (r_nil (q_then (c_ret ?_)))
   refine b_ret1 rfl rfl ?_
   obtain rfl := Option.some.inj hm
   exact ⟨rfl, rfl⟩
  ·clear hm
   rcases cond_some hb2 with ⟨hb3, hb2⟩ | ⟨hb3, hb2⟩
   ·refine r_lit 9 rfl hb3 ?_
    refine r_off rfl (by decide) rfl (r_off rfl (by decide) rfl (r_pick_true rfl rfl rfl rfl (r_nil ?_)))
    refine q_next (fun a ha => ?_)
    cases hb2
    exact ⟨rfl, ha.cut (l := [12]) rfl⟩
   ·refine r_lit 9 rfl hb3 ?_
    refine r_move rfl rfl rfl ?_
    refine r_bin rfl rfl rfl rfl rfl ?_
    refine r_pick_false rfl rfl rfl rfl (r_nil ?_)
    refine q_next (fun a ha => ?_)
    cases hb2
    exact ⟨rfl, ha.cut (l := [12]) rfl⟩
 ·clear hm
  rcases cond_some hb1 with ⟨hb4, hb1⟩ | ⟨hb4, hb1⟩
  ·refine r_lit 5 rfl hb4 ?_
   refine r_off rfl (by decide) rfl (r_off rfl (by decide) rfl (r_pick_true rfl rfl rfl rfl (r_nil ?_)))
   refine q_next (fun a ha => ?_)
   cases hb1
   exact ⟨rfl, ha.cut (l := [0, 8]) rfl⟩
  ·refine r_lit 5 rfl hb4 ?_
   refine r_move rfl rfl rfl ?_
   refine r_bin rfl rfl rfl rfl rfl ?_
   refine r_pick_false rfl rfl rfl rfl (r_nil ?_)
   refine q_next (fun a ha => ?_)
   cases hb1
   exact ⟨rfl, ha.cut (l := [0, 8]) rfl⟩


def lexer_letter (_n : Nat) (c1 : Int) : Option Bool :=
 (bif decide (97 ≤ c1) then
  some (decide (c1 ≤ 122))
 else
  some false).bind fun v1 =>
 (bif v1 then
  some true
 else
  (bif decide (65 ≤ c1) then
   some (decide (c1 ≤ 90))
  else
   some false).bind fun v3 =>
  some v3).bind fun v2 =>
 some v2

set_option maxHeartbeats 1000000 in
set_option maxRecDepth 1000000 in
theorem lexer_letter_ok (n : Nat) (c1 : Int) (r : Bool) (hm : lexer_letter n c1 = some r) {w : World}  :
  Calls Tryd.prog 54 #[.int .u8 c1] w fun e w' => e = .returned (.bool r) ∧ w' = w := by
 unfold lexer_letter at hm
 refine calls_of 17 Tryd.func54 rfl rfl rfl ?_
 refine c_seq (c_region (r_assign rfl rfl rfl (r_nil (q_then (c_seq (c_region (r_move rfl rfl rfl ?_)))))))
 refine r_bin rfl rfl rfl rfl rfl ?_
 refine r_move rfl rfl rfl ?_
 obtain ⟨v1, hb1, hm⟩ := bind_some hm
 refine r_mid 3 (fun a w' => w = w' ∧ Has 17 a [(0, .int .u8 c1), (8, .bool v1)]) ?_ ?_
 ·rintro a wx1 ⟨rfl, hax1⟩
  refine rw_apply hax1 ?_
  refine r_move rfl rfl rfl ?_
  obtain ⟨v2, hb2, hm⟩ := bind_some hm
  refine r_mid 7 (fun a w' => w = w' ∧ Has 17 a [(16, .bool v2)]) ?_ ?_
  ·rintro a wx2 ⟨rfl, hax2⟩
   refine rw_apply hax2 ?_
   refine r_assign rfl rfl rfl (r_nil (q_then (c_ret ?_)))
   refine b_ret1 rfl rfl ?_
   obtain rfl := Option.some.inj hm
   exact ⟨rfl, rfl⟩
  ·clear hm
   rcases cond_some hb2 with ⟨hb3, hb2⟩ | ⟨hb3, hb2⟩
   ·refine r_lit 9 rfl hb3 ?_
    refine r_off rfl (by decide) rfl (r_off rfl (by decide) rfl (r_off rfl (by decide) rfl (r_off rfl (by decide) rfl (r_off rfl (by decide) rfl (r_off rfl (by decide) rfl (r_pick_true rfl rfl rfl rfl (r_nil ?_)))))))
    refine q_next (fun a ha => ?_)
    cases hb2
    exact ⟨rfl, ha.cut (l := [16]) rfl⟩
   ·refine r_lit 9 rfl hb3 ?_
    refine r_move rfl rfl rfl ?_
    refine r_bin rfl rfl rfl rfl rfl ?_
    refine r_move rfl rfl rfl ?_
    obtain ⟨v3, hb4, hb2⟩ := bind_some hb2
    refine r_mid 3 (fun a w' => w = w' ∧ Has 17 a [(9, .bool false), (15, .bool v3)]) ?_ ?_
    ·rintro a wx3 ⟨rfl, hax3⟩
     refine rw_apply hax3 ?_
     refine r_pick_false rfl rfl rfl rfl (r_nil ?_)
     refine q_next (fun a ha => ?_)
     cases hb2
     exact ⟨rfl, ha.cut (l := [16]) rfl⟩
    ·clear hb2
     rcases cond_some hb4 with ⟨hb5, hb4⟩ | ⟨hb5, hb4⟩
     ·refine r_lit 12 rfl hb5 ?_
      refine r_move rfl rfl rfl ?_
      refine r_bin rfl rfl rfl rfl rfl ?_
      refine r_pick_true rfl rfl rfl rfl (r_nil ?_)
      refine q_next (fun a ha => ?_)
      cases hb4
      exact ⟨rfl, ha.cut (l := [9, 15]) rfl⟩
     ·refine r_lit 12 rfl hb5 ?_
      refine r_off rfl (by decide) rfl (r_off rfl (by decide) rfl (r_pick_false rfl rfl rfl rfl (r_nil ?_)))
      refine q_next (fun a ha => ?_)
      cases hb4
      exact ⟨rfl, ha.cut (l := [9, 15]) rfl⟩
 ·clear hm
  rcases cond_some hb1 with ⟨hb6, hb1⟩ | ⟨hb6, hb1⟩
  ·refine r_lit 5 rfl hb6 ?_
   refine r_move rfl rfl rfl ?_
   refine r_bin rfl rfl rfl rfl rfl ?_
   refine r_pick_true rfl rfl rfl rfl (r_nil ?_)
   refine q_next (fun a ha => ?_)
   cases hb1
   exact ⟨rfl, ha.cut (l := [0, 8]) rfl⟩
  ·refine r_lit 5 rfl hb6 ?_
   refine r_off rfl (by decide) rfl (r_off rfl (by decide) rfl (r_pick_false rfl rfl rfl rfl (r_nil ?_)))
   refine q_next (fun a ha => ?_)
   cases hb1
   exact ⟨rfl, ha.cut (l := [0, 8]) rfl⟩


def lexer_digit (_n : Nat) (c1 : Int) : Option Bool :=
 (bif decide (48 ≤ c1) then
  some (decide (c1 ≤ 57))
 else
  some false).bind fun v1 =>
 some v1

set_option maxHeartbeats 1000000 in
set_option maxRecDepth 1000000 in
theorem lexer_digit_ok (n : Nat) (c1 : Int) (r : Bool) (hm : lexer_digit n c1 = some r) {w : World}  :
  Calls Tryd.prog 56 #[.int .u8 c1] w fun e w' => e = .returned (.bool r) ∧ w' = w := by
 unfold lexer_digit at hm
 refine calls_of 9 Tryd.func56 rfl rfl rfl ?_
 refine c_seq (c_region (r_assign rfl rfl rfl (r_nil (q_then (c_seq (c_region (r_move rfl rfl rfl ?_)))))))
 refine r_bin rfl rfl rfl rfl rfl ?_
 refine r_move rfl rfl rfl ?_
 obtain ⟨v1, hb1, hm⟩ := bind_some hm
 refine r_mid 3 (fun a w' => w = w' ∧ Has 9 a [(8, .bool v1)]) ?_ ?_
 ·rintro a wx1 ⟨rfl, hax1⟩
  refine rw_apply hax1 ?_
  refine r_assign rfl rfl rfl (r_nil (q_then (c_ret ?_)))
  refine b_ret1 rfl rfl ?_
  obtain rfl := Option.some.inj hm
  exact ⟨rfl, rfl⟩
 ·clear hm
  rcases cond_some hb1 with ⟨hb2, hb1⟩ | ⟨hb2, hb1⟩
  ·refine r_lit 5 rfl hb2 ?_
   refine r_move rfl rfl rfl ?_
   refine r_bin rfl rfl rfl rfl rfl ?_
   refine r_pick_true rfl rfl rfl rfl (r_nil ?_)
   refine q_next (fun a ha => ?_)
   cases hb1
   exact ⟨rfl, ha.cut (l := [8]) rfl⟩
  ·refine r_lit 5 rfl hb2 ?_
   refine r_off rfl (by decide) rfl (r_off rfl (by decide) rfl (r_pick_false rfl rfl rfl rfl (r_nil ?_)))
   refine q_next (fun a ha => ?_)
   cases hb1
   exact ⟨rfl, ha.cut (l := [8]) rfl⟩


theorem ent54 : Ent Tryd.prog 54 := fun _ _ => by kernel_rfl

theorem ent56 : Ent Tryd.prog 56 := fun _ _ => by kernel_rfl

def lexer_inner (n : Nat) (c1 : Int) : Option Bool :=
 (lexer_letter n c1).bind fun v1 =>
 (bif v1 then
  some true
 else
  (lexer_digit n c1).bind fun v4 =>
  some v4).bind fun v2 =>
 (bif v2 then
  some true
 else
  some (c1 == 95)).bind fun v3 =>
 some v3

set_option maxHeartbeats 1000000 in
set_option maxRecDepth 1000000 in
theorem lexer_inner_ok (n : Nat) (c1 : Int) (r : Bool) (hm : lexer_inner n c1 = some r) {w : World}  :
  Calls Tryd.prog 55 #[.int .u8 c1] w fun e w' => e = .returned (.bool r) ∧ w' = w := by
 unfold lexer_inner at hm
 refine calls_of 13 Tryd.func55 rfl rfl rfl ?_
 refine c_seq (c_region (r_assign rfl rfl rfl (r_nil (q_then (c_seq (c_region (r_move rfl rfl rfl ?_)))))))
 obtain ⟨v1, hv1, hm⟩ := bind_some hm
 refine r_callP0 ent54 rfl rfl rfl rfl (lexer_letter_ok _ _ _ hv1) ?_
 refine r_move rfl rfl rfl ?_
 obtain ⟨v2, hb1, hm⟩ := bind_some hm
 refine r_mid 3 (fun a w' => w = w' ∧ Has 13 a [(0, .int .u8 c1), (8, .bool v2)]) ?_ ?_
 ·rintro a wx1 ⟨rfl, hax1⟩
  refine rw_apply hax1 ?_
  refine r_move rfl rfl rfl ?_
  obtain ⟨v3, hb2, hm⟩ := bind_some hm
  refine r_mid 3 (fun a w' => w = w' ∧ Has 13 a [(12, .bool v3)]) ?_ ?_
  ·rintro a wx2 ⟨rfl, hax2⟩
   refine rw_apply hax2 ?_
   refine r_assign rfl rfl rfl (r_nil (q_then (c_ret ?_)))
   refine b_ret1 rfl rfl ?_
   obtain rfl := Option.some.inj hm
   exact ⟨rfl, rfl⟩
  ·clear hm
   rcases cond_some hb2 with ⟨hb3, hb2⟩ | ⟨hb3, hb2⟩
   ·refine r_lit 9 rfl hb3 ?_
    refine r_off rfl (by decide) rfl (r_off rfl (by decide) rfl (r_pick_true rfl rfl rfl rfl (r_nil ?_)))
    refine q_next (fun a ha => ?_)
    cases hb2
    exact ⟨rfl, ha.cut (l := [12]) rfl⟩
   ·refine r_lit 9 rfl hb3 ?_
    refine r_move rfl rfl rfl ?_
    refine r_bin rfl rfl rfl rfl rfl ?_
    refine r_pick_false rfl rfl rfl rfl (r_nil ?_)
    refine q_next (fun a ha => ?_)
    cases hb2
    exact ⟨rfl, ha.cut (l := [12]) rfl⟩
 ·clear hm
  rcases cond_some hb1 with ⟨hb4, hb1⟩ | ⟨hb4, hb1⟩
  ·refine r_lit 5 rfl hb4 ?_
   refine r_off rfl (by decide) rfl (r_off rfl (by decide) rfl (r_pick_true rfl rfl rfl rfl (r_nil ?_)))
   refine q_next (fun a ha => ?_)
   cases hb1
   exact ⟨rfl, ha.cut (l := [0, 8]) rfl⟩
  ·refine r_lit 5 rfl hb4 ?_
   refine r_move rfl rfl rfl ?_
   obtain ⟨v4, hv2, hb1⟩ := bind_some hb1
   refine r_callP0 ent56 rfl rfl rfl rfl (lexer_digit_ok _ _ _ hv2) ?_
   refine r_pick_false rfl rfl rfl rfl (r_nil ?_)
   refine q_next (fun a ha => ?_)
   cases hb1
   exact ⟨rfl, ha.cut (l := [0, 8]) rfl⟩


def lexer_plain (_n : Nat) (c1 : Int) : Option Bool :=
 (bif decide (32 ≤ c1) then
  some (decide (c1 ≤ 126))
 else
  some false).bind fun v1 =>
 some v1

set_option maxHeartbeats 1000000 in
set_option maxRecDepth 1000000 in
theorem lexer_plain_ok (n : Nat) (c1 : Int) (r : Bool) (hm : lexer_plain n c1 = some r) {w : World}  :
  Calls Tryd.prog 70 #[.int .u8 c1] w fun e w' => e = .returned (.bool r) ∧ w' = w := by
 unfold lexer_plain at hm
 refine calls_of 9 Tryd.func70 rfl rfl rfl ?_
 refine c_seq (c_region (r_assign rfl rfl rfl (r_nil (q_then (c_seq (c_region (r_move rfl rfl rfl ?_)))))))
 refine r_bin rfl rfl rfl rfl rfl ?_
 refine r_move rfl rfl rfl ?_
 obtain ⟨v1, hb1, hm⟩ := bind_some hm
 refine r_mid 3 (fun a w' => w = w' ∧ Has 9 a [(8, .bool v1)]) ?_ ?_
 ·rintro a wx1 ⟨rfl, hax1⟩
  refine rw_apply hax1 ?_
  refine r_assign rfl rfl rfl (r_nil (q_then (c_ret ?_)))
  refine b_ret1 rfl rfl ?_
  obtain rfl := Option.some.inj hm
  exact ⟨rfl, rfl⟩
 ·clear hm
  rcases cond_some hb1 with ⟨hb2, hb1⟩ | ⟨hb2, hb1⟩
  ·refine r_lit 5 rfl hb2 ?_
   refine r_move rfl rfl rfl ?_
   refine r_bin rfl rfl rfl rfl rfl ?_
   refine r_pick_true rfl rfl rfl rfl (r_nil ?_)
   refine q_next (fun a ha => ?_)
   cases hb1
   exact ⟨rfl, ha.cut (l := [8]) rfl⟩
  ·refine r_lit 5 rfl hb2 ?_
   refine r_off rfl (by decide) rfl (r_off rfl (by decide) rfl (r_pick_false rfl rfl rfl rfl (r_nil ?_)))
   refine q_next (fun a ha => ?_)
   cases hb1
   exact ⟨rfl, ha.cut (l := [8]) rfl⟩


theorem u9 : Tryd.prog.underlying 9 = some .string := by kernel_rfl

def lexer_span_L1 (n : Nat) (s1 : Bs) (isx1 : (Int → Option Bool)) (kont1 : Int → Option Int) : Nat → Int → Option Int
 | 0, _ => none
 | mx1 + 1, nx1 =>
  (bif decide (nx1 < (s1.length : Int)) then
   (sidx s1 nx1).bind fun c1 =>
   (isx1 c1).bind fun v2 =>
   some v2
  else
   some false).bind fun v1 =>
  bif v1 then
   lexer_span_L1 n s1 isx1 kont1 mx1 (iadd .i64 nx1 1)
  else
   kont1 nx1

theorem lexer_span_L1_s (n : Nat) (s1 : Bs) (isx1 : (Int → Option Bool)) (kont1 : Int → Option Int) (mx1 : Nat) (nx1 : Int) : lexer_span_L1 n s1 isx1 kont1 (mx1 + 1) nx1 =
  (bif decide (nx1 < (s1.length : Int)) then
   (sidx s1 nx1).bind fun c1 =>
   (isx1 c1).bind fun v2 =>
   some v2
  else
   some false).bind fun v1 =>
  bif v1 then
   lexer_span_L1 n s1 isx1 kont1 mx1 (iadd .i64 nx1 1)
  else
   kont1 nx1 := rfl

def lexer_span (n : Nat) (s1 : Bs) (isx1 : (Int → Option Bool)) : Option Int :=
 lexer_span_L1 n s1 isx1 (fun (nx2 : Int) =>
  some nx2) n 0

set_option maxHeartbeats 1000000 in
set_option maxRecDepth 1000000 in
theorem lexer_span_ok (n : Nat) (s1 : Bs) (isx1 : (Int → Option Bool)) (r : Int) (hm : lexer_span n s1 isx1 = some r) {w : World} {fvisx1 : Value} (hpfisx1 : PFn Tryd.prog fvisx1 (fun l v => ∃ (q0 : Int) (b : Bool), l = [.int .u8 q0] ∧ v = some (.bool b) ∧ isx1 q0 = some b)) :
  Calls Tryd.prog 52 #[vs s1, fvisx1] w fun e w' => e = .returned (.int .i64 r) ∧ w' = w := by
 unfold lexer_span at hm
 refine calls_of 20 Tryd.func52 rfl rfl rfl ?_
 refine c_seq (c_region (r_assign rfl rfl rfl (r_nil (q_then (c_seq (c_region (r_assign rfl rfl rfl (r_nil (q_then (c_seq (c_block ?_)))))))))))
 intro a hax4
 obtain ⟨kont1, hkont1⟩ : ∃ kont1 : Int → Option Int, kont1 = (fun (nx2 : Int) =>
       some nx2) := ⟨_, rfl⟩
 replace hm : (fun m (s : Int) => lexer_span_L1 n s1 isx1 kont1 m s) n 0 = some r := by rw [hkont1]; exact hm
 refine loopX (id := 0) (fun m (s : Int) => lexer_span_L1 n s1 isx1 kont1 m s) (fun (y : Int) => kont1 y) r (fun (s : Int) a w' => w = w' ∧ Has 20 a [(0, vs s1), (1, fvisx1), (5, .int .i64 s)]) (fun (y : Int) a w' => w = w' ∧ Has 20 a [(5, .int .i64 y)]) (fun _ => rfl) ?_ ?_ hm ⟨rfl, hax4.cut (l := [0, 1, 5]) rfl⟩
 ·clear hm; rintro nx2 a wx1 hm ⟨rfl, hax1⟩
  rw [hkont1] at hm
  replace hm := hm
  refine qw_apply (e := .exit 0) hax1 ?_
  refine q_block_hit (q_then (c_seq (c_region (r_move rfl rfl rfl (r_assign rfl rfl rfl (r_nil (q_then (c_ret ?_))))))))
  refine b_ret1 rfl rfl ?_
  obtain rfl := Option.some.inj hm
  exact ⟨rfl, rfl⟩
 ·clear hm hkont1; intro hk1 mx1 K ihx1
  rintro nx1 a wx2 hm ⟨rfl, hax2⟩
  simp only [lexer_span_L1_s] at hm
  refine cw_apply hax2 ?_
  refine c_seq (c_seq (c_region (r_move rfl rfl rfl (r_move rfl rfl rfl ?_))))
  refine r_slen u9 rfl rfl rfl ?_
  refine r_bin rfl rfl rfl rfl rfl ?_
  refine r_move rfl rfl rfl ?_
  obtain ⟨v1, hb1, hm⟩ := bind_some hm
  refine r_mid 6 (fun a w' => w = w' ∧ Has 20 a [(0, vs s1), (1, fvisx1), (5, .int .i64 nx1), (16, .bool v1)]) ?_ ?_
  ·rintro a wx3 ⟨rfl, hax3⟩
   refine rw_apply hax3 ?_
   refine r_nil (q_then ?_)
   rcases cond_some hm with ⟨hb2, hm⟩ | ⟨hb2, hm⟩
   ·refine c_lit 16 rfl hb2 ?_
    refine c_true rfl (c_skip (q_then (c_block (c_region (r_move rfl rfl rfl ?_)))))
    refine r_bin rfl rfl rfl rfl rfl ?_
    refine r_assign rfl rfl rfl (r_nil (q_block ?_))
    refine q_next (fun a ha => ihx1 (iadd .i64 nx1 1) a _ hm ?_)
    exact ⟨rfl, ha.cut (l := [0, 1, 5]) rfl⟩
   ·refine c_lit 16 rfl hb2 ?_
    refine c_false rfl (c_exit (q_then_exit (q_then_exit ?_)))
    refine fun a ha => hk1 nx1 a _ hm ?_
    exact ⟨rfl, ha.cut (l := [5]) rfl⟩
  ·clear hm
   rcases cond_some hb1 with ⟨hb3, hb1⟩ | ⟨hb3, hb1⟩
   ·refine r_lit 10 rfl hb3 ?_
    refine r_move rfl rfl rfl (r_move rfl rfl rfl (r_move rfl rfl rfl ?_))
    obtain ⟨c1, hc1, hb1⟩ := bind_some hb1
    refine r_sidx u9 rfl rfl rfl rfl hc1 ?_
    obtain ⟨v2, hv1, hb1⟩ := bind_some hb1
    refine r_callF hpfisx1 rfl rfl rfl rfl ⟨_, _, rfl, rfl, hv1⟩ ?_
    refine r_pick_true rfl rfl rfl rfl (r_nil ?_)
    refine q_next (fun a ha => ?_)
    cases hb1
    exact ⟨rfl, ha.cut (l := [0, 1, 5, 16]) rfl⟩
   ·refine r_lit 10 rfl hb3 ?_
    refine r_off rfl (by decide) rfl (r_off rfl (by decide) rfl (r_off rfl (by decide) rfl (r_off rfl (by decide) rfl (r_off rfl (by decide) rfl (r_pick_false rfl rfl rfl rfl (r_nil ?_))))))
    refine q_next (fun a ha => ?_)
    cases hb1
    exact ⟨rfl, ha.cut (l := [0, 1, 5, 16]) rfl⟩


theorem ent55 : Ent Tryd.prog 55 := fun _ _ => by kernel_rfl

theorem pf55 : ∀ n, PFn Tryd.prog (.func (.func 55) #[] #[]) (fun l v => ∃ (q0 : Int) (b : Bool), l = [.int .u8 q0] ∧ v = some (.bool b) ∧ lexer_inner n q0 = some b) := fun n => ⟨55, #[], #[], rfl, ent55, by
 rintro args v w ⟨q0, b, rfl, hv, hb⟩
 obtain rfl := Option.some.inj hv
 exact lexer_inner_ok n _ _ hb⟩

theorem ent52 : Ent Tryd.prog 52 := fun _ _ => by kernel_rfl

def lexer_Name (n : Nat) (s1 : Bs) : Option Bool :=
 (bif !(s1 == []) then
  (sidx s1 0).bind fun c1 =>
  (lexer_letter n c1).bind fun v5 =>
  some v5
 else
  some false).bind fun v1 =>
 (bif v1 then
  some (decide ((s1.length : Int) ≤ 20))
 else
  some false).bind fun v2 =>
 (bif v2 then
  (lexer_span n s1 (lexer_inner n)).bind fun v4 =>
  some (v4 == (s1.length : Int))
 else
  some false).bind fun v3 =>
 some v3

set_option maxHeartbeats 1000000 in
set_option maxRecDepth 1000000 in
theorem lexer_Name_ok (n : Nat) (s1 : Bs) (r : Bool) (hm : lexer_Name n s1 = some r) {w : World}  :
  Calls Tryd.prog 42 #[vs s1] w fun e w' => e = .returned (.bool r) ∧ w' = w := by
 unfold lexer_Name at hm
 refine calls_of 22 Tryd.func42 rfl rfl rfl ?_
 refine c_seq (c_region (r_assign rfl rfl rfl (r_nil (q_then (c_seq (c_region (r_move rfl rfl rfl ?_)))))))
 refine r_str rfl rfl rfl rfl rfl ?_
 refine r_move rfl rfl rfl ?_
 obtain ⟨v1, hb1, hm⟩ := bind_some hm
 refine r_mid 4 (fun a w' => w = w' ∧ Has 22 a [(0, vs s1), (9, .bool v1)]) ?_ ?_
 ·rintro a wx1 ⟨rfl, hax1⟩
  refine rw_apply hax1 ?_
  refine r_move rfl rfl rfl ?_
  obtain ⟨v2, hb2, hm⟩ := bind_some hm
  refine r_mid 4 (fun a w' => w = w' ∧ Has 22 a [(0, vs s1), (14, .bool v2)]) ?_ ?_
  ·rintro a wx2 ⟨rfl, hax2⟩
   refine rw_apply hax2 ?_
   refine r_move rfl rfl rfl ?_
   obtain ⟨v3, hb3, hm⟩ := bind_some hm
   refine r_mid 6 (fun a w' => w = w' ∧ Has 22 a [(21, .bool v3)]) ?_ ?_
   ·rintro a wx3 ⟨rfl, hax3⟩
    refine rw_apply hax3 ?_
    refine r_assign rfl rfl rfl (r_nil (q_then (c_ret ?_)))
    refine b_ret1 rfl rfl ?_
    obtain rfl := Option.some.inj hm
    exact ⟨rfl, rfl⟩
   ·clear hm
    rcases cond_some hb3 with ⟨hb4, hb3⟩ | ⟨hb4, hb3⟩
    ·refine r_lit 15 rfl hb4 ?_
     refine r_move rfl rfl rfl ?_
     obtain ⟨v4, hv1, hb3⟩ := bind_some hb3
     refine r_callP0 ent52 rfl rfl rfl rfl (lexer_span_ok _ _ _ _ hv1 (pf55 _)) ?_
     refine r_move rfl rfl rfl ?_
     refine r_slen u9 rfl rfl rfl ?_
     refine r_bin rfl rfl rfl rfl rfl ?_
     refine r_pick_true rfl rfl rfl rfl (r_nil ?_)
     refine q_next (fun a ha => ?_)
     cases hb3
     exact ⟨rfl, ha.cut (l := [21]) rfl⟩
    ·refine r_lit 15 rfl hb4 ?_
     refine r_off rfl (by decide) rfl (r_off rfl (by decide) rfl (r_off rfl (by decide) rfl (r_off rfl (by decide) rfl (r_off rfl (by decide) rfl (r_pick_false rfl rfl rfl rfl (r_nil ?_))))))
     refine q_next (fun a ha => ?_)
     cases hb3
     exact ⟨rfl, ha.cut (l := [21]) rfl⟩
  ·clear hm
   rcases cond_some hb2 with ⟨hb5, hb2⟩ | ⟨hb5, hb2⟩
   ·refine r_lit 10 rfl hb5 ?_
    refine r_move rfl rfl rfl ?_
    refine r_slen u9 rfl rfl rfl ?_
    refine r_bin rfl rfl rfl rfl rfl ?_
    refine r_pick_true rfl rfl rfl rfl (r_nil ?_)
    refine q_next (fun a ha => ?_)
    cases hb2
    exact ⟨rfl, ha.cut (l := [0, 14]) rfl⟩
   ·refine r_lit 10 rfl hb5 ?_
    refine r_off rfl (by decide) rfl (r_off rfl (by decide) rfl (r_off rfl (by decide) rfl (r_pick_false rfl rfl rfl rfl (r_nil ?_))))
    refine q_next (fun a ha => ?_)
    cases hb2
    exact ⟨rfl, ha.cut (l := [0, 14]) rfl⟩
 ·clear hm
  rcases cond_some hb1 with ⟨hb6, hb1⟩ | ⟨hb6, hb1⟩
  ·refine r_lit 5 rfl hb6 ?_
   refine r_move rfl rfl rfl ?_
   obtain ⟨c1, hc1, hb1⟩ := bind_some hb1
   refine r_sidx u9 rfl rfl rfl rfl hc1 ?_
   obtain ⟨v5, hv2, hb1⟩ := bind_some hb1
   refine r_callP0 ent54 rfl rfl rfl rfl (lexer_letter_ok _ _ _ hv2) ?_
   refine r_pick_true rfl rfl rfl rfl (r_nil ?_)
   refine q_next (fun a ha => ?_)
   cases hb1
   exact ⟨rfl, ha.cut (l := [0, 9]) rfl⟩
  ·refine r_lit 5 rfl hb6 ?_
   refine r_off rfl (by decide) rfl (r_off rfl (by decide) rfl (r_off rfl (by decide) rfl (r_pick_false rfl rfl rfl rfl (r_nil ?_))))
   refine q_next (fun a ha => ?_)
   cases hb1
   exact ⟨rfl, ha.cut (l := [0, 9]) rfl⟩


theorem u5 : Tryd.prog.underlying 5 = some (.int .u8) := by kernel_rfl

theorem u3 : Tryd.prog.underlying 3 = some (.int .i64) := by kernel_rfl

theorem pf56 : ∀ n, PFn Tryd.prog (.func (.func 56) #[] #[]) (fun l v => ∃ (q0 : Int) (b : Bool), l = [.int .u8 q0] ∧ v = some (.bool b) ∧ lexer_digit n q0 = some b) := fun n => ⟨56, #[], #[], rfl, ent56, by
 rintro args v w ⟨q0, b, rfl, hv, hb⟩
 obtain rfl := Option.some.inj hv
 exact lexer_digit_ok n _ _ hb⟩

def lexer_Number_L1 (n : Nat) (s1 : Bs) (kont1 : Int → Option (Int × Bool)) : Nat → Int → Int → Option (Int × Bool)
 | 0, _, _ => none
 | mx1 + 1, nx1, i1 =>
  bif decide (i1 < (s1.length : Int)) then
   (sidx s1 i1).bind fun c1 =>
   lexer_Number_L1 n s1 kont1 mx1 (iadd .i64 (imul .i64 10 nx1) (IntKind.i64.wrap (isub .u8 c1 48))) (iadd .i64 i1 1)
  else
   kont1 nx1

theorem lexer_Number_L1_s (n : Nat) (s1 : Bs) (kont1 : Int → Option (Int × Bool)) (mx1 : Nat) (nx1 : Int) (i1 : Int) : lexer_Number_L1 n s1 kont1 (mx1 + 1) nx1 i1 =
  bif decide (i1 < (s1.length : Int)) then
   (sidx s1 i1).bind fun c1 =>
   lexer_Number_L1 n s1 kont1 mx1 (iadd .i64 (imul .i64 10 nx1) (IntKind.i64.wrap (isub .u8 c1 48))) (iadd .i64 i1 1)
  else
   kont1 nx1 := rfl

def lexer_Number (n : Nat) (s1 : Bs) : Option (Int × Bool) :=
 (bif s1 == [] then
  some true
 else
  (lexer_span n s1 (lexer_digit n)).bind fun v5 =>
  some (v5 != (s1.length : Int))).bind fun v1 =>
 (bif v1 then
  some true
 else
  (sidx s1 0).bind fun c2 =>
  (bif c2 == 48 then
   some (!(s1 == [48]))
  else
   some false).bind fun v4 =>
  some v4).bind fun v2 =>
 (bif v2 then
  some true
 else
  some (decide (13 < (s1.length : Int)))).bind fun v3 =>
 bif v3 then
  some (0, false)
 else
  lexer_Number_L1 n s1 (fun (nx2 : Int) =>
   bif decide (1099511627776 < nx2) then
    some (0, false)
   else
    some (nx2, true)) n 0 0

set_option maxHeartbeats 1000000 in
set_option maxRecDepth 1000000 in
theorem lexer_Number_ok (n : Nat) (s1 : Bs) (r : (Int × Bool)) (hm : lexer_Number n s1 = some r) {w : World}  :
  Calls Tryd.prog 57 #[vs s1] w fun e w' => e = .returned (.tuple #[.int .i64 r.1, .bool r.2]) ∧ w' = w := by
 unfold lexer_Number at hm
 refine calls_of 46 Tryd.func57 rfl rfl rfl ?_
 refine c_seq (c_region (r_assign rfl rfl rfl (r_assign rfl rfl rfl (r_nil (q_then (c_seq (c_seq (c_region (r_move rfl rfl rfl ?_)))))))))
 refine r_str rfl rfl rfl rfl rfl ?_
 refine r_move rfl rfl rfl ?_
 obtain ⟨v1, hb1, hm⟩ := bind_some hm
 refine r_mid 6 (fun a w' => w = w' ∧ Has 46 a [(0, vs s1), (14, .bool v1)]) ?_ ?_
 ·rintro a wx1 ⟨rfl, hax1⟩
  refine rw_apply hax1 ?_
  refine r_move rfl rfl rfl ?_
  obtain ⟨v2, hb2, hm⟩ := bind_some hm
  refine r_mid 8 (fun a w' => w = w' ∧ Has 46 a [(0, vs s1), (23, .bool v2)]) ?_ ?_
  ·rintro a wx2 ⟨rfl, hax2⟩
   refine rw_apply hax2 ?_
   refine r_move rfl rfl rfl ?_
   obtain ⟨v3, hb3, hm⟩ := bind_some hm
   refine r_mid 4 (fun a w' => w = w' ∧ Has 46 a [(0, vs s1), (28, .bool v3)]) ?_ ?_
   ·rintro a wx3 ⟨rfl, hax3⟩
    refine rw_apply hax3 ?_
    refine r_nil (q_then ?_)
    rcases cond_some hm with ⟨hb4, hm⟩ | ⟨hb4, hm⟩
    ·refine c_lit 28 rfl hb4 ?_
     refine c_true rfl (c_seq (c_region (r_assign rfl rfl rfl (r_assign rfl rfl rfl (r_nil (q_then (c_ret (q_then_ret ?_))))))))
     refine b_retA (vl := [.int .i64 0, .bool false]) rfl ⟨v_tmp rfl, v_tmp rfl, trivial⟩ (by simp) ?_
     obtain rfl := Option.some.inj hm
     exact ⟨rfl, rfl⟩
    ·refine c_lit 28 rfl hb4 ?_
     refine c_false rfl (c_skip (q_then (c_seq (c_region (r_assign rfl rfl rfl (r_nil (q_then (c_seq (c_seq (c_region (r_move rfl rfl rfl ?_)))))))))))
     refine r_slen u9 rfl rfl rfl ?_
     refine r_move rfl rfl rfl (r_nil (q_then (c_block ?_)))
     intro a hax6
     obtain ⟨kont1, hkont1⟩ : ∃ kont1 : Int → Option (Int × Bool), kont1 = (fun (nx2 : Int) =>
       bif decide (1099511627776 < nx2) then
        some (0, false)
       else
        some (nx2, true)) := ⟨_, rfl⟩
     replace hm : (fun m (s : Int × Int) => lexer_Number_L1 n s1 kont1 m s.1 s.2) n (0, 0) = some r := by rw [hkont1]; exact hm
     refine loopX (id := 0) (fun m (s : Int × Int) => lexer_Number_L1 n s1 kont1 m s.1 s.2) (fun (y : Int) => kont1 y) r (fun (s : Int × Int) a w' => w = w' ∧ Has 46 a [(0, vs s1), (4, .int .i64 s.1), (30, .int .i64 (s1.length : Int)), (31, .int .i64 s.2)]) (fun (y : Int) a w' => w = w' ∧ Has 46 a [(4, .int .i64 y)]) (fun _ => rfl) ?_ ?_ hm ⟨rfl, hax6.cut (l := [0, 4, 30, 31]) rfl⟩
     ·clear hm; rintro nx2 a wx4 hm ⟨rfl, hax4⟩
      rw [hkont1] at hm
      replace hm := hm
      refine qw_apply (e := .exit 0) hax4 ?_
      refine q_block_hit (q_then (c_seq (c_seq (c_region (r_move rfl rfl rfl ?_)))))
      refine r_bin rfl rfl rfl rfl rfl ?_
      refine r_nil (q_then ?_)
      rcases cond_some hm with ⟨hb5, hm⟩ | ⟨hb5, hm⟩
      ·refine c_lit 44 rfl hb5 ?_
       refine c_true rfl (c_seq (c_region (r_assign rfl rfl rfl (r_assign rfl rfl rfl (r_nil (q_then (c_ret (q_then_ret ?_))))))))
       refine b_retA (vl := [.int .i64 0, .bool false]) rfl ⟨v_tmp rfl, v_tmp rfl, trivial⟩ (by simp) ?_
       obtain rfl := Option.some.inj hm
       exact ⟨rfl, rfl⟩
      ·refine c_lit 44 rfl hb5 ?_
       refine c_false rfl (c_skip (q_then (c_seq (c_region (r_move rfl rfl rfl (r_assign rfl rfl rfl (r_assign rfl rfl rfl (r_nil (q_then (c_ret ?_))))))))))
       refine b_retA (vl := [.int .i64 nx2, .bool true]) rfl ⟨v_tmp rfl, v_tmp rfl, trivial⟩ (by simp) ?_
       obtain rfl := Option.some.inj hm
       exact ⟨rfl, rfl⟩
     ·clear hm hkont1; intro hk1 mx1 K ihx1
      rintro ⟨nx1, i1⟩ a wx5 hm ⟨rfl, hax5⟩
      simp only [lexer_Number_L1_s] at hm
      refine cw_apply hax5 ?_
      refine c_seq (c_region ?_)
      refine r_bin rfl rfl rfl rfl rfl ?_
      refine r_nil (q_then (c_seq ?_))
      rcases cond_some hm with ⟨hb6, hm⟩ | ⟨hb6, hm⟩
      ·refine c_lit 32 rfl hb6 ?_
       refine c_true rfl (c_skip (q_then (c_seq (c_block (c_seq (c_region (r_move rfl rfl rfl (r_assign rfl rfl rfl (r_nil (q_then (c_region (r_move rfl rfl rfl ?_))))))))))))
       refine r_bin rfl rfl rfl rfl rfl ?_
       refine r_move rfl rfl rfl (r_move rfl rfl rfl ?_)
       obtain ⟨c1, hc1, hm⟩ := bind_some hm
       refine r_sidx u9 rfl rfl rfl rfl hc1 ?_
       refine r_bin rfl rfl rfl rfl rfl ?_
       refine r_conv u5 u3 rfl rfl rfl ?_
       refine r_bin rfl rfl rfl rfl rfl ?_
       refine r_assign rfl rfl rfl (r_nil (q_block (q_then (c_region ?_))))
       refine r_bin rfl rfl rfl rfl rfl ?_
       refine r_move rfl rfl rfl (r_nil ?_)
       refine q_next (fun a ha => ihx1 ((iadd .i64 (imul .i64 10 nx1) (IntKind.i64.wrap (isub .u8 c1 48))), (iadd .i64 i1 1)) a _ hm ?_)
       exact ⟨rfl, ha.cut (l := [0, 4, 30, 31]) rfl⟩
      ·refine c_lit 32 rfl hb6 ?_
       refine c_false rfl (c_exit (q_then_exit (q_then_exit ?_)))
       refine fun a ha => hk1 nx1 a _ hm ?_
       exact ⟨rfl, ha.cut (l := [4]) rfl⟩
   ·clear hm
    rcases cond_some hb3 with ⟨hb7, hb3⟩ | ⟨hb7, hb3⟩
    ·refine r_lit 24 rfl hb7 ?_
     refine r_off rfl (by decide) rfl (r_off rfl (by decide) rfl (r_off rfl (by decide) rfl (r_pick_true rfl rfl rfl rfl (r_nil ?_))))
     refine q_next (fun a ha => ?_)
     cases hb3
     exact ⟨rfl, ha.cut (l := [0, 28]) rfl⟩
    ·refine r_lit 24 rfl hb7 ?_
     refine r_move rfl rfl rfl ?_
     refine r_slen u9 rfl rfl rfl ?_
     refine r_bin rfl rfl rfl rfl rfl ?_
     refine r_pick_false rfl rfl rfl rfl (r_nil ?_)
     refine q_next (fun a ha => ?_)
     cases hb3
     exact ⟨rfl, ha.cut (l := [0, 28]) rfl⟩
  ·clear hm
   rcases cond_some hb2 with ⟨hb8, hb2⟩ | ⟨hb8, hb2⟩
   ·refine r_lit 15 rfl hb8 ?_
    refine r_off rfl (by decide) rfl (r_off rfl (by decide) rfl (r_off rfl (by decide) rfl (r_off rfl (by decide) rfl (r_off rfl (by decide) rfl (r_off rfl (by decide) rfl (r_off rfl (by decide) rfl (r_pick_true rfl rfl rfl rfl (r_nil ?_))))))))
    refine q_next (fun a ha => ?_)
    cases hb2
    exact ⟨rfl, ha.cut (l := [0, 23]) rfl⟩
   ·refine r_lit 15 rfl hb8 ?_
    refine r_move rfl rfl rfl ?_
    obtain ⟨c2, hc2, hb2⟩ := bind_some hb2
    refine r_sidx u9 rfl rfl rfl rfl hc2 ?_
    refine r_bin rfl rfl rfl rfl rfl ?_
    refine r_move rfl rfl rfl ?_
    obtain ⟨v4, hb9, hb2⟩ := bind_some hb2
    refine r_mid 3 (fun a w' => w = w' ∧ Has 46 a [(0, vs s1), (15, .bool false), (22, .bool v4)]) ?_ ?_
    ·rintro a wx6 ⟨rfl, hax7⟩
     refine rw_apply hax7 ?_
     refine r_pick_false rfl rfl rfl rfl (r_nil ?_)
     refine q_next (fun a ha => ?_)
     cases hb2
     exact ⟨rfl, ha.cut (l := [0, 23]) rfl⟩
    ·clear hb2
     rcases cond_some hb9 with ⟨hb10, hb9⟩ | ⟨hb10, hb9⟩
     ·refine r_lit 19 rfl hb10 ?_
      refine r_move rfl rfl rfl ?_
      refine r_str rfl rfl rfl rfl rfl ?_
      refine r_pick_true rfl rfl rfl rfl (r_nil ?_)
      refine q_next (fun a ha => ?_)
      cases hb9
      exact ⟨rfl, ha.cut (l := [0, 15, 22]) rfl⟩
     ·refine r_lit 19 rfl hb10 ?_
      refine r_off rfl (by decide) rfl (r_off rfl (by decide) rfl (r_pick_false rfl rfl rfl rfl (r_nil ?_)))
      refine q_next (fun a ha => ?_)
      cases hb9
      exact ⟨rfl, ha.cut (l := [0, 15, 22]) rfl⟩
 ·clear hm
  rcases cond_some hb1 with ⟨hb11, hb1⟩ | ⟨hb11, hb1⟩
  ·refine r_lit 8 rfl hb11 ?_
   refine r_off rfl (by decide) rfl (r_off rfl (by decide) rfl (r_off rfl (by decide) rfl (r_off rfl (by decide) rfl (r_off rfl (by decide) rfl (r_pick_true rfl rfl rfl rfl (r_nil ?_))))))
   refine q_next (fun a ha => ?_)
   cases hb1
   exact ⟨rfl, ha.cut (l := [0, 14]) rfl⟩
  ·refine r_lit 8 rfl hb11 ?_
   refine r_move rfl rfl rfl ?_
   obtain ⟨v5, hv1, hb1⟩ := bind_some hb1
   refine r_callP0 ent52 rfl rfl rfl rfl (lexer_span_ok _ _ _ _ hv1 (pf56 _)) ?_
   refine r_move rfl rfl rfl ?_
   refine r_slen u9 rfl rfl rfl ?_
   refine r_bin rfl rfl rfl rfl rfl ?_
   refine r_pick_false rfl rfl rfl rfl (r_nil ?_)
   refine q_next (fun a ha => ?_)
   cases hb1
   exact ⟨rfl, ha.cut (l := [0, 14]) rfl⟩


theorem ent53 : Ent Tryd.prog 53 := fun _ _ => by kernel_rfl

theorem pf53 : ∀ n, PFn Tryd.prog (.func (.func 53) #[] #[]) (fun l v => ∃ (q0 : Int) (b : Bool), l = [.int .u8 q0] ∧ v = some (.bool b) ∧ lexer_blank n q0 = some b) := fun n => ⟨53, #[], #[], rfl, ent53, by
 rintro args v w ⟨q0, b, rfl, hv, hb⟩
 obtain rfl := Option.some.inj hv
 exact lexer_blank_ok n _ _ hb⟩

def lexer_gap_L2 (n : Nat) (s1 : Bs) (kont2 : Int → Option Int) : Nat → Int → Option Int
 | 0, _ => none
 | mx2 + 1, nx3 =>
  (bif decide (nx3 < (s1.length : Int)) then
   (sidx s1 nx3).bind fun c1 =>
   some (c1 != 10)
  else
   some false).bind fun v4 =>
  bif v4 then
   lexer_gap_L2 n s1 kont2 mx2 (iadd .i64 nx3 1)
  else
   kont2 nx3

theorem lexer_gap_L2_s (n : Nat) (s1 : Bs) (kont2 : Int → Option Int) (mx2 : Nat) (nx3 : Int) : lexer_gap_L2 n s1 kont2 (mx2 + 1) nx3 =
  (bif decide (nx3 < (s1.length : Int)) then
   (sidx s1 nx3).bind fun c1 =>
   some (c1 != 10)
  else
   some false).bind fun v4 =>
  bif v4 then
   lexer_gap_L2 n s1 kont2 mx2 (iadd .i64 nx3 1)
  else
   kont2 nx3 := rfl

def lexer_gap_L1 (n : Nat) (s1 : Bs) (kont1 : Int → Option Int) : Nat → Int → Option Int
 | 0, _ => none
 | mx1 + 1, nx1 =>
  (bif decide (nx1 < (s1.length : Int)) then
   (sidx s1 nx1).bind fun c2 =>
   some (c2 == 35)
  else
   some false).bind fun v2 =>
  bif v2 then
   lexer_gap_L2 n s1 (fun (nx4 : Int) =>
    (ssl s1 nx4 s1.length).bind fun t1 =>
    (lexer_span n t1 (lexer_blank n)).bind fun v3 =>
    lexer_gap_L1 n s1 kont1 mx1 (iadd .i64 nx4 v3)) n nx1
  else
   kont1 nx1

theorem lexer_gap_L1_s (n : Nat) (s1 : Bs) (kont1 : Int → Option Int) (mx1 : Nat) (nx1 : Int) : lexer_gap_L1 n s1 kont1 (mx1 + 1) nx1 =
  (bif decide (nx1 < (s1.length : Int)) then
   (sidx s1 nx1).bind fun c2 =>
   some (c2 == 35)
  else
   some false).bind fun v2 =>
  bif v2 then
   lexer_gap_L2 n s1 (fun (nx4 : Int) =>
    (ssl s1 nx4 s1.length).bind fun t1 =>
    (lexer_span n t1 (lexer_blank n)).bind fun v3 =>
    lexer_gap_L1 n s1 kont1 mx1 (iadd .i64 nx4 v3)) n nx1
  else
   kont1 nx1 := rfl

def lexer_gap (n : Nat) (s1 : Bs) : Option Int :=
 (lexer_span n s1 (lexer_blank n)).bind fun v1 =>
 lexer_gap_L1 n s1 (fun (nx2 : Int) =>
  some nx2) n v1

set_option maxHeartbeats 1000000 in
set_option maxRecDepth 1000000 in
theorem lexer_gap_ok (n : Nat) (s1 : Bs) (r : Int) (hm : lexer_gap n s1 = some r) {w : World}  :
  Calls Tryd.prog 38 #[vs s1] w fun e w' => e = .returned (.int .i64 r) ∧ w' = w := by
 unfold lexer_gap at hm
 refine calls_of 35 Tryd.func38 rfl rfl rfl ?_
 refine c_seq (c_region (r_assign rfl rfl rfl (r_nil (q_then (c_seq (c_region (r_move rfl rfl rfl ?_)))))))
 obtain ⟨v1, hv1, hm⟩ := bind_some hm
 refine r_callP0 ent52 rfl rfl rfl rfl (lexer_span_ok _ _ _ _ hv1 (pf53 _)) ?_
 refine r_assign rfl rfl rfl (r_nil (q_then (c_seq (c_block ?_))))
 intro a hax8
 obtain ⟨kont1, hkont1⟩ : ∃ kont1 : Int → Option Int, kont1 = (fun (nx2 : Int) =>
       some nx2) := ⟨_, rfl⟩
 replace hm : (fun m (s : Int) => lexer_gap_L1 n s1 kont1 m s) n v1 = some r := by rw [hkont1]; exact hm
 refine loopX (id := 0) (fun m (s : Int) => lexer_gap_L1 n s1 kont1 m s) (fun (y : Int) => kont1 y) r (fun (s : Int) a w' => w = w' ∧ Has 35 a [(0, vs s1), (3, .int .i64 s)]) (fun (y : Int) a w' => w = w' ∧ Has 35 a [(3, .int .i64 y)]) (fun _ => rfl) ?_ ?_ hm ⟨rfl, hax8.cut (l := [0, 3]) rfl⟩
 ·clear hm; rintro nx2 a wx1 hm ⟨rfl, hax1⟩
  rw [hkont1] at hm
  replace hm := hm
  refine qw_apply (e := .exit 0) hax1 ?_
  refine q_block_hit (q_then (c_seq (c_region (r_move rfl rfl rfl (r_assign rfl rfl rfl (r_nil (q_then (c_ret ?_))))))))
  refine b_ret1 rfl rfl ?_
  obtain rfl := Option.some.inj hm
  exact ⟨rfl, rfl⟩
 ·clear hm hkont1; intro hk1 mx1 K ihx1
  rintro nx1 a wx2 hm ⟨rfl, hax2⟩
  simp only [lexer_gap_L1_s] at hm
  refine cw_apply hax2 ?_
  refine c_seq (c_seq (c_region (r_move rfl rfl rfl (r_move rfl rfl rfl ?_))))
  refine r_slen u9 rfl rfl rfl ?_
  refine r_bin rfl rfl rfl rfl rfl ?_
  refine r_move rfl rfl rfl ?_
  obtain ⟨v2, hb1, hm⟩ := bind_some hm
  refine r_mid 5 (fun a w' => w = w' ∧ Has 35 a [(0, vs s1), (3, .int .i64 nx1), (15, .bool v2)]) ?_ ?_
  ·rintro a wx3 ⟨rfl, hax3⟩
   refine rw_apply hax3 ?_
   refine r_nil (q_then ?_)
   rcases cond_some hm with ⟨hb2, hm⟩ | ⟨hb2, hm⟩
   ·refine c_lit 15 rfl hb2 ?_
    refine c_true rfl (c_skip (q_then (c_block (c_seq (c_block ?_)))))
    intro a hax7
    obtain ⟨kont2, hkont2⟩ : ∃ kont2 : Int → Option Int, kont2 = (fun (nx4 : Int) =>
       (ssl s1 nx4 s1.length).bind fun t1 =>
       (lexer_span n t1 (lexer_blank n)).bind fun v3 =>
       lexer_gap_L1 n s1 kont1 mx1 (iadd .i64 nx4 v3)) := ⟨_, rfl⟩
    replace hm : (fun m (s : Int) => lexer_gap_L2 n s1 kont2 m s) n nx1 = some r := by rw [hkont2]; exact hm
    refine loopX (id := 2) (fun m (s : Int) => lexer_gap_L2 n s1 kont2 m s) (fun (y : Int) => kont2 y) r (fun (s : Int) a w' => w = w' ∧ Has 35 a [(0, vs s1), (3, .int .i64 s)]) (fun (y : Int) a w' => w = w' ∧ Has 35 a [(0, vs s1), (3, .int .i64 y)]) (fun _ => rfl) ?_ ?_ hm ⟨rfl, hax7.cut (l := [0, 3]) rfl⟩
    ·clear hm; rintro nx4 a wx4 hm ⟨rfl, hax4⟩
     rw [hkont2] at hm
     replace hm := hm
     refine qw_apply (e := .exit 2) hax4 ?_
     refine q_block_hit (q_then (c_region (r_move rfl rfl rfl (r_move rfl rfl rfl (r_move rfl rfl rfl ?_)))))
     obtain ⟨t1, hc1, hm⟩ := bind_some hm
     refine r_ssl_l u9 rfl rfl rfl rfl hc1 ?_
     obtain ⟨v3, hv2, hm⟩ := bind_some hm
     refine r_callP0 ent52 rfl rfl rfl rfl (lexer_span_ok _ _ _ _ hv2 (pf53 _)) ?_
     refine r_bin rfl rfl rfl rfl rfl ?_
     refine r_assign rfl rfl rfl (r_nil (q_block ?_))
     refine q_next (fun a ha => ihx1 (iadd .i64 nx4 v3) a _ hm ?_)
     exact ⟨rfl, ha.cut (l := [0, 3]) rfl⟩
    ·clear hm hkont2; intro hk2 mx2 K ihx2
     rintro nx3 a wx5 hm ⟨rfl, hax5⟩
     simp only [lexer_gap_L2_s] at hm
     refine cw_apply hax5 ?_
     refine c_seq (c_seq (c_region (r_move rfl rfl rfl (r_move rfl rfl rfl ?_))))
     refine r_slen u9 rfl rfl rfl ?_
     refine r_bin rfl rfl rfl rfl rfl ?_
     refine r_move rfl rfl rfl ?_
     obtain ⟨v4, hb3, hm⟩ := bind_some hm
     refine r_mid 5 (fun a w' => w = w' ∧ Has 35 a [(0, vs s1), (3, .int .i64 nx3), (25, .bool v4)]) ?_ ?_
     ·rintro a wx6 ⟨rfl, hax6⟩
      refine rw_apply hax6 ?_
      refine r_nil (q_then ?_)
      rcases cond_some hm with ⟨hb4, hm⟩ | ⟨hb4, hm⟩
      ·refine c_lit 25 rfl hb4 ?_
       refine c_true rfl (c_skip (q_then (c_block (c_region (r_move rfl rfl rfl ?_)))))
       refine r_bin rfl rfl rfl rfl rfl ?_
       refine r_assign rfl rfl rfl (r_nil (q_block ?_))
       refine q_next (fun a ha => ihx2 (iadd .i64 nx3 1) a _ hm ?_)
       exact ⟨rfl, ha.cut (l := [0, 3]) rfl⟩
      ·refine c_lit 25 rfl hb4 ?_
       refine c_false rfl (c_exit (q_then_exit (q_then_exit ?_)))
       refine fun a ha => hk2 nx3 a _ hm ?_
       exact ⟨rfl, ha.cut (l := [0, 3]) rfl⟩
     ·clear hm
      rcases cond_some hb3 with ⟨hb5, hb3⟩ | ⟨hb5, hb3⟩
      ·refine r_lit 20 rfl hb5 ?_
       refine r_move rfl rfl rfl (r_move rfl rfl rfl ?_)
       obtain ⟨c1, hc2, hb3⟩ := bind_some hb3
       refine r_sidx u9 rfl rfl rfl rfl hc2 ?_
       refine r_bin rfl rfl rfl rfl rfl ?_
       refine r_pick_true rfl rfl rfl rfl (r_nil ?_)
       refine q_next (fun a ha => ?_)
       cases hb3
       exact ⟨rfl, ha.cut (l := [0, 3, 25]) rfl⟩
      ·refine r_lit 20 rfl hb5 ?_
       refine r_off rfl (by decide) rfl (r_off rfl (by decide) rfl (r_off rfl (by decide) rfl (r_off rfl (by decide) rfl (r_pick_false rfl rfl rfl rfl (r_nil ?_)))))
       refine q_next (fun a ha => ?_)
       cases hb3
       exact ⟨rfl, ha.cut (l := [0, 3, 25]) rfl⟩
   ·refine c_lit 15 rfl hb2 ?_
    refine c_false rfl (c_exit (q_then_exit (q_then_exit ?_)))
    refine fun a ha => hk1 nx1 a _ hm ?_
    exact ⟨rfl, ha.cut (l := [3]) rfl⟩
  ·clear hm
   rcases cond_some hb1 with ⟨hb6, hb1⟩ | ⟨hb6, hb1⟩
   ·refine r_lit 10 rfl hb6 ?_
    refine r_move rfl rfl rfl (r_move rfl rfl rfl ?_)
    obtain ⟨c2, hc3, hb1⟩ := bind_some hb1
    refine r_sidx u9 rfl rfl rfl rfl hc3 ?_
    refine r_bin rfl rfl rfl rfl rfl ?_
    refine r_pick_true rfl rfl rfl rfl (r_nil ?_)
    refine q_next (fun a ha => ?_)
    cases hb1
    exact ⟨rfl, ha.cut (l := [0, 3, 15]) rfl⟩
   ·refine r_lit 10 rfl hb6 ?_
    refine r_off rfl (by decide) rfl (r_off rfl (by decide) rfl (r_off rfl (by decide) rfl (r_off rfl (by decide) rfl (r_pick_false rfl rfl rfl rfl (r_nil ?_)))))
    refine q_next (fun a ha => ?_)
    cases hb1
    exact ⟨rfl, ha.cut (l := [0, 3, 15]) rfl⟩


theorem u91 : Tryd.prog.underlying 91 = some (.slice 5) := by kernel_rfl

theorem ap91 : AppIs Tryd.prog 91 5 1 1 := AppIs.of (z := .int .u8 0) (by kernel_rfl) (by kernel_rfl) rfl (by decide) (by decide)

theorem ent70 : Ent Tryd.prog 70 := fun _ _ => by kernel_rfl

def lexer_quoted_L1 (n : Nat) (s1 : Bs) (kont1 : Int → (List Int) → Option (Bs × Int)) : Nat → Int → (List Int) → Option (Bs × Int)
 | 0, _, _ => none
 | mx1 + 1, nx1, l1 =>
  (bif decide ((s1.length : Int) ≤ nx1) then
   some true
  else
   (sidx s1 nx1).bind fun c7 =>
   (lexer_plain n c7).bind fun v4 =>
   some (!v4)).bind fun v1 =>
  bif v1 then
   some ([], 0)
  else
   (sidx s1 nx1).bind fun c1 =>
   bif c1 == 34 then
    kont1 nx1 l1
   else
    (sidx s1 nx1).bind fun c2 =>
    bif c2 == 92 then
     (bif decide ((s1.length : Int) ≤ (iadd .i64 nx1 1)) then
      some true
     else
      (sidx s1 (iadd .i64 nx1 1)).bind fun c4 =>
      (bif c4 != 34 then
       (sidx s1 (iadd .i64 nx1 1)).bind fun c5 =>
       some (c5 != 92)
      else
       some false).bind fun v3 =>
      some v3).bind fun v2 =>
     bif v2 then
      some ([], 0)
     else
      (sidx s1 (iadd .i64 nx1 1)).bind fun c3 =>
      (app 1 l1 [c3]).bind fun l3 =>
      lexer_quoted_L1 n s1 kont1 mx1 (iadd .i64 (iadd .i64 nx1 1) 1) l3
    else
     (sidx s1 nx1).bind fun c6 =>
     (app 1 l1 [c6]).bind fun l4 =>
     lexer_quoted_L1 n s1 kont1 mx1 (iadd .i64 nx1 1) l4

theorem lexer_quoted_L1_s (n : Nat) (s1 : Bs) (kont1 : Int → (List Int) → Option (Bs × Int)) (mx1 : Nat) (nx1 : Int) (l1 : List Int) : lexer_quoted_L1 n s1 kont1 (mx1 + 1) nx1 l1 =
  (bif decide ((s1.length : Int) ≤ nx1) then
   some true
  else
   (sidx s1 nx1).bind fun c7 =>
   (lexer_plain n c7).bind fun v4 =>
   some (!v4)).bind fun v1 =>
  bif v1 then
   some ([], 0)
  else
   (sidx s1 nx1).bind fun c1 =>
   bif c1 == 34 then
    kont1 nx1 l1
   else
    (sidx s1 nx1).bind fun c2 =>
    bif c2 == 92 then
     (bif decide ((s1.length : Int) ≤ (iadd .i64 nx1 1)) then
      some true
     else
      (sidx s1 (iadd .i64 nx1 1)).bind fun c4 =>
      (bif c4 != 34 then
       (sidx s1 (iadd .i64 nx1 1)).bind fun c5 =>
       some (c5 != 92)
      else
       some false).bind fun v3 =>
      some v3).bind fun v2 =>
     bif v2 then
      some ([], 0)
     else
      (sidx s1 (iadd .i64 nx1 1)).bind fun c3 =>
      (app 1 l1 [c3]).bind fun l3 =>
      lexer_quoted_L1 n s1 kont1 mx1 (iadd .i64 (iadd .i64 nx1 1) 1) l3
    else
     (sidx s1 nx1).bind fun c6 =>
     (app 1 l1 [c6]).bind fun l4 =>
     lexer_quoted_L1 n s1 kont1 mx1 (iadd .i64 nx1 1) l4 := rfl

def lexer_quoted (n : Nat) (s1 : Bs) : Option (Bs × Int) :=
 lexer_quoted_L1 n s1 (fun (nx2 : Int) (l2 : List Int) =>
  bif decide (400 < (l2.length : Int)) then
   some ([], 0)
  else
   some (strOf l2, iadd .i64 nx2 1)) n 1 ([] : List Int)

set_option maxHeartbeats 1000000 in
set_option maxRecDepth 1000000 in
theorem lexer_quoted_ok (n : Nat) (s1 : Bs) (r : (Bs × Int)) (hm : lexer_quoted n s1 = some r) {w : World} {F : Frz} (hs : Sat F w)  :
  Calls Tryd.prog 58 #[vs s1] w fun e w' => ∃ v F' O', e = .returned v ∧ HS F w [] F' O' w' ∧ (v = .tuple #[vs r.1, .int .i64 r.2] ∧ O' = []) := by
 unfold lexer_quoted at hm
 have h := HS.init hs
 refine calls_of 61 Tryd.func58 rfl rfl rfl ?_
 refine c_seq (c_region (r_assign rfl rfl rfl (r_assign rfl rfl rfl (r_nil (q_then (c_scope (c_seq (c_region (r_assign rfl rfl rfl (r_nil (q_then (c_seq (c_region (r_assign rfl rfl rfl (r_nil (q_then (c_seq (c_label (q_then (c_seq (c_block ?_)))))))))))))))))))))
 have hx1 := h.nilRow 5 1
 intro a hax6
 obtain ⟨kont1, hkont1⟩ : ∃ kont1 : Int → (List Int) → Option (Bs × Int), kont1 = (fun (nx2 : Int) (l2 : List Int) =>
       bif decide (400 < (l2.length : Int)) then
        some ([], 0)
       else
        some (strOf l2, iadd .i64 nx2 1)) := ⟨_, rfl⟩
 replace hm : (fun m (s : Int × List Int) => lexer_quoted_L1 n s1 kont1 m s.1 s.2) n (1, ([] : List Int)) = some r := by rw [hkont1]; exact hm
 refine loopX (id := 0) (fun m (s : Int × List Int) => lexer_quoted_L1 n s1 kont1 m s.1 s.2) (fun (y : Int × List Int) => kont1 y.1 y.2) r (fun (s : Int × List Int) a w' => ∃ (Fx1 : Frz) (as2 : Option Addr) (ns2 : Nat) (cs2 : Nat) (xss2 : List Value), Frz.le F Fx1 ∧ HS F w [] Fx1 [.row 5 1 as2 ns2 cs2 xss2] w' ∧ (RowN (Rp.int .u8) Fx1 ns2 xss2 s.2) ∧ Has 61 a [(0, vs s1), (4, .slice as2 ns2 cs2), (5, .int .i64 s.1)]) (fun (y : Int × List Int) a w' => ∃ (Fx2 : Frz) (as3 : Option Addr) (ns3 : Nat) (cs3 : Nat) (xss3 : List Value), Frz.le F Fx2 ∧ HS F w [] Fx2 [.row 5 1 as3 ns3 cs3 xss3] w' ∧ (RowN (Rp.int .u8) Fx2 ns3 xss3 y.2) ∧ Has 61 a [(4, .slice as3 ns3 cs3), (5, .int .i64 y.1)]) (fun _ => rfl) ?_ ?_ hm ⟨_, none, 0, 0, [], Frz.refl _, hx1.pick [0] (by decide) rfl, ((show RowN (Rp.int .u8) _ 0 [] [] from ⟨rfl, rfl⟩)), hax6.cut (l := [0, 4, 5]) rfl⟩
 ·clear hm; rintro ⟨nx2, l2⟩ a wx1 hm ⟨Fx2, as3, ns3, cs3, xss3, hF2, hx3, hs3, hax1⟩
  rw [hkont1] at hm
  replace hm := hm
  refine qw_apply (e := .exit 0) hax1 ?_
  refine q_block_hit (q_then (c_seq (c_seq (c_region (r_move rfl rfl rfl ?_)))))
  refine r_lenS hs3.len u91 rfl rfl rfl ?_
  refine r_bin rfl rfl rfl rfl rfl ?_
  refine r_nil (q_then ?_)
  rcases cond_some hm with ⟨hb1, hm⟩ | ⟨hb1, hm⟩
  ·refine c_lit 56 rfl hb1 ?_
   refine c_true rfl (c_seq (c_region (r_assign rfl rfl rfl (r_assign rfl rfl rfl (r_nil (q_then (c_ret (q_then_ret (q_scope_ret ?_)))))))))
   refine b_retA (vl := [vs [], .int .i64 0]) rfl ⟨v_tmp rfl, v_tmp rfl, trivial⟩ (by simp) ?_
   obtain rfl := Option.some.inj hm
   exact ⟨_, _, _, rfl, hx3.pick [] (by decide) rfl, rfl, rfl⟩
  ·refine c_lit 56 rfl hb1 ?_
   refine c_false rfl (c_skip (q_then (c_seq (c_region (r_move rfl rfl rfl ?_)))))
   refine r_strOf u91 u5 u9 rfl rfl hx3 rfl (i := 0) rfl (rowInt hs3.2) ?_
   refine r_move rfl rfl rfl ?_
   refine r_bin rfl rfl rfl rfl rfl ?_
   refine r_assign rfl rfl rfl (r_assign rfl rfl rfl (r_nil (q_then (c_ret (q_scope_ret ?_)))))
   refine b_retA (vl := [vs (strOf l2), .int .i64 (iadd .i64 nx2 1)]) rfl ⟨v_tmp rfl, v_tmp rfl, trivial⟩ (by simp) ?_
   obtain rfl := Option.some.inj hm
   exact ⟨_, _, _, rfl, hx3.pick [] (by decide) rfl, rfl, rfl⟩
 ·clear hm hkont1; intro hk1 mx1 K ihx1
  rintro ⟨nx1, l1⟩ a wx2 hm ⟨Fx1, as2, ns2, cs2, xss2, hF1, hx2, hs2, hax2⟩
  simp only [lexer_quoted_L1_s] at hm
  refine cw_apply hax2 ?_
  refine c_block (c_seq (c_block (c_seq (c_region (r_move rfl rfl rfl (r_move rfl rfl rfl ?_))))))
  refine r_slen u9 rfl rfl rfl ?_
  refine r_bin rfl rfl rfl rfl rfl ?_
  refine r_move rfl rfl rfl ?_
  obtain ⟨v1, hb2, hm⟩ := bind_some hm
  refine r_mid 6 (fun a w' => wx2 = w' ∧ Has 61 a [(0, vs s1), (4, .slice as2 ns2 cs2), (5, .int .i64 nx1), (17, .bool v1)]) ?_ ?_
  ·rintro a wx3 ⟨rfl, hax3⟩
   refine rw_apply hax3 ?_
   refine r_assign rfl rfl rfl (r_nil (q_then ?_))
   rcases cond_some hm with ⟨hb3, hm⟩ | ⟨hb3, hm⟩
   ·refine c_lit 6 rfl hb3 ?_
    refine c_true rfl (c_seq (c_region (r_assign rfl rfl rfl (r_assign rfl rfl rfl (r_nil (q_then (c_ret (q_block_ret (q_then_ret (q_block_ret (q_then_ret (q_block_ret (q_then_ret (q_scope_ret ?_))))))))))))))
    refine b_retA (vl := [vs [], .int .i64 0]) rfl ⟨v_tmp rfl, v_tmp rfl, trivial⟩ (by simp) ?_
    obtain rfl := Option.some.inj hm
    exact ⟨_, _, _, rfl, hx2.pick [] (by decide) rfl, rfl, rfl⟩
   ·refine c_lit 6 rfl hb3 ?_
    refine c_false rfl (c_seq (c_region (r_move rfl rfl rfl (r_move rfl rfl rfl ?_))))
    obtain ⟨c1, hc1, hm⟩ := bind_some hm
    refine r_sidx u9 rfl rfl rfl rfl hc1 ?_
    refine r_bin rfl rfl rfl rfl rfl ?_
    refine r_assign rfl rfl rfl (r_nil (q_then ?_))
    rcases cond_some hm with ⟨hb4, hm⟩ | ⟨hb4, hm⟩
    ·refine c_lit 18 rfl hb4 ?_
     refine c_true rfl (c_exit ?_)
     refine q_block_miss (by decide) ?_
     refine q_then_exit ?_
     refine q_block_miss (by decide) ?_
     refine q_then_exit ?_
     refine fun a ha => hk1 (nx1, l1) a _ hm ?_
     exact ⟨_, as2, ns2, cs2, xss2, hF1, hx2.pick [0] (by decide) rfl, hs2, ha.cut (l := [4, 5]) rfl⟩
    ·refine c_lit 18 rfl hb4 ?_
     refine c_false rfl (c_seq (c_region (r_move rfl rfl rfl (r_move rfl rfl rfl ?_))))
     obtain ⟨c2, hc2, hm⟩ := bind_some hm
     refine r_sidx u9 rfl rfl rfl rfl hc2 ?_
     refine r_bin rfl rfl rfl rfl rfl ?_
     refine r_assign rfl rfl rfl (r_nil (q_then ?_))
     rcases cond_some hm with ⟨hb5, hm⟩ | ⟨hb5, hm⟩
     ·refine c_lit 23 rfl hb5 ?_
      refine c_true rfl (c_seq (c_region (r_move rfl rfl rfl ?_)))
      refine r_bin rfl rfl rfl rfl rfl ?_
      refine r_assign rfl rfl rfl (r_nil (q_then (c_seq (c_region (r_move rfl rfl rfl (r_move rfl rfl rfl ?_))))))
      refine r_slen u9 rfl rfl rfl ?_
      refine r_bin rfl rfl rfl rfl rfl ?_
      refine r_move rfl rfl rfl ?_
      obtain ⟨v2, hb6, hm⟩ := bind_some hm
      refine r_mid 11 (fun a w' => wx2 = w' ∧ Has 61 a [(0, vs s1), (4, .slice as2 ns2 cs2), (5, .int .i64 (iadd .i64 nx1 1)), (45, .bool v2)]) ?_ ?_
      ·rintro a wx4 ⟨rfl, hax4⟩
       refine rw_apply hax4 ?_
       refine r_nil (q_then ?_)
       rcases cond_some hm with ⟨hb7, hm⟩ | ⟨hb7, hm⟩
       ·refine c_lit 45 rfl hb7 ?_
        refine c_true rfl (c_seq (c_region (r_assign rfl rfl rfl (r_assign rfl rfl rfl (r_nil (q_then (c_ret (q_block_ret (q_then_ret (q_block_ret (q_then_ret (q_block_ret (q_then_ret (q_scope_ret ?_))))))))))))))
        refine b_retA (vl := [vs [], .int .i64 0]) rfl ⟨v_tmp rfl, v_tmp rfl, trivial⟩ (by simp) ?_
        obtain rfl := Option.some.inj hm
        exact ⟨_, _, _, rfl, hx2.pick [] (by decide) rfl, rfl, rfl⟩
       ·refine c_lit 45 rfl hb7 ?_
        refine c_false rfl (c_skip (q_block (q_then (c_seq (c_region (r_move rfl rfl rfl (r_move rfl rfl rfl (r_move rfl rfl rfl ?_))))))))
        obtain ⟨c3, hc3, hm⟩ := bind_some hm
        refine r_sidx u9 rfl rfl rfl rfl hc3 ?_
        refine r_buildSlice (e := 5) (cs := [.int .u8 c3]) (q := 1) rfl rfl hx2 rfl (fun _ => by kernel_rfl) rfl rfl ?_
        intro b1 wx5 hx4
        obtain ⟨l3, hr1, hm⟩ := bind_some hm
        refine r_appendN (r := (Rp.int .u8)) ap91 rfl rfl hx4 rfl rfl (i := 1) (j := 0) rfl rfl hs2 ((show RowN (Rp.int .u8) Fx1 1 [.int .u8 c3] [c3] from ⟨rfl, ⟨_, _, rfl, rfl, (rfl : RowR (Rp.int .u8) _ [] [])⟩⟩)) hr1 ?_
        intro as4 cs4 wx6 hx5 hs4
        refine r_assign rfl rfl rfl (r_nil (q_then (c_region (r_move rfl rfl rfl ?_))))
        refine r_bin rfl rfl rfl rfl rfl ?_
        refine r_assign rfl rfl rfl (r_nil (q_block ?_))
        refine q_next (fun a ha => ihx1 ((iadd .i64 (iadd .i64 nx1 1) 1), l3) a _ hm ?_)
        exact ⟨_, as4, (ns2 + 1), cs4, (xss2 ++ [.int .u8 c3]), hF1, hx5.pick [1] (by decide) rfl, hs4, ha.cut (l := [0, 4, 5]) rfl⟩
      ·clear hm
       rcases cond_some hb6 with ⟨hb8, hb6⟩ | ⟨hb8, hb6⟩
       ·refine r_lit 34 rfl hb8 ?_
        refine r_off rfl (by decide) rfl (r_off rfl (by decide) rfl (r_off rfl (by decide) rfl (r_off rfl (by decide) rfl (r_off rfl (by decide) rfl (r_off rfl (by decide) rfl (r_off rfl (by decide) rfl (r_off rfl (by decide) rfl (r_off rfl (by decide) rfl (r_off rfl (by decide) rfl (r_pick_true rfl rfl rfl rfl (r_nil ?_)))))))))))
        refine q_next (fun a ha => ?_)
        cases hb6
        exact ⟨rfl, ha.cut (l := [0, 4, 5, 45]) rfl⟩
       ·refine r_lit 34 rfl hb8 ?_
        refine r_move rfl rfl rfl (r_move rfl rfl rfl ?_)
        obtain ⟨c4, hc4, hb6⟩ := bind_some hb6
        refine r_sidx u9 rfl rfl rfl rfl hc4 ?_
        refine r_bin rfl rfl rfl rfl rfl ?_
        refine r_move rfl rfl rfl ?_
        obtain ⟨v3, hb9, hb6⟩ := bind_some hb6
        refine r_mid 5 (fun a w' => wx2 = w' ∧ Has 61 a [(0, vs s1), (4, .slice as2 ns2 cs2), (5, .int .i64 (iadd .i64 nx1 1)), (34, .bool false), (44, .bool v3)]) ?_ ?_
        ·rintro a wx7 ⟨rfl, hax5⟩
         refine rw_apply hax5 ?_
         refine r_pick_false rfl rfl rfl rfl (r_nil ?_)
         refine q_next (fun a ha => ?_)
         cases hb6
         exact ⟨rfl, ha.cut (l := [0, 4, 5, 45]) rfl⟩
        ·clear hb6
         rcases cond_some hb9 with ⟨hb10, hb9⟩ | ⟨hb10, hb9⟩
         ·refine r_lit 39 rfl hb10 ?_
          refine r_move rfl rfl rfl (r_move rfl rfl rfl ?_)
          obtain ⟨c5, hc5, hb9⟩ := bind_some hb9
          refine r_sidx u9 rfl rfl rfl rfl hc5 ?_
          refine r_bin rfl rfl rfl rfl rfl ?_
          refine r_pick_true rfl rfl rfl rfl (r_nil ?_)
          refine q_next (fun a ha => ?_)
          cases hb9
          exact ⟨rfl, ha.cut (l := [0, 4, 5, 34, 44]) rfl⟩
         ·refine r_lit 39 rfl hb10 ?_
          refine r_off rfl (by decide) rfl (r_off rfl (by decide) rfl (r_off rfl (by decide) rfl (r_off rfl (by decide) rfl (r_pick_false rfl rfl rfl rfl (r_nil ?_)))))
          refine q_next (fun a ha => ?_)
          cases hb9
          exact ⟨rfl, ha.cut (l := [0, 4, 5, 34, 44]) rfl⟩
     ·refine c_lit 23 rfl hb5 ?_
      refine c_false rfl (c_skip (q_block (q_then (c_seq (c_region (r_move rfl rfl rfl (r_move rfl rfl rfl (r_move rfl rfl rfl ?_))))))))
      obtain ⟨c6, hc6, hm⟩ := bind_some hm
      refine r_sidx u9 rfl rfl rfl rfl hc6 ?_
      refine r_buildSlice (e := 5) (cs := [.int .u8 c6]) (q := 1) rfl rfl hx2 rfl (fun _ => by kernel_rfl) rfl rfl ?_
      intro b2 wx8 hx6
      obtain ⟨l4, hr2, hm⟩ := bind_some hm
      refine r_appendN (r := (Rp.int .u8)) ap91 rfl rfl hx6 rfl rfl (i := 1) (j := 0) rfl rfl hs2 ((show RowN (Rp.int .u8) Fx1 1 [.int .u8 c6] [c6] from ⟨rfl, ⟨_, _, rfl, rfl, (rfl : RowR (Rp.int .u8) _ [] [])⟩⟩)) hr2 ?_
      intro as5 cs5 wx9 hx7 hs5
      refine r_assign rfl rfl rfl (r_nil (q_then (c_region (r_move rfl rfl rfl ?_))))
      refine r_bin rfl rfl rfl rfl rfl ?_
      refine r_assign rfl rfl rfl (r_nil (q_block ?_))
      refine q_next (fun a ha => ihx1 ((iadd .i64 nx1 1), l4) a _ hm ?_)
      exact ⟨_, as5, (ns2 + 1), cs5, (xss2 ++ [.int .u8 c6]), hF1, hx7.pick [1] (by decide) rfl, hs5, ha.cut (l := [0, 4, 5]) rfl⟩
  ·clear hm
   rcases cond_some hb2 with ⟨hb11, hb2⟩ | ⟨hb11, hb2⟩
   ·refine r_lit 11 rfl hb11 ?_
    refine r_off rfl (by decide) rfl (r_off rfl (by decide) rfl (r_off rfl (by decide) rfl (r_off rfl (by decide) rfl (r_off rfl (by decide) rfl (r_pick_true rfl rfl rfl rfl (r_nil ?_))))))
    refine q_next (fun a ha => ?_)
    cases hb2
    exact ⟨rfl, ha.cut (l := [0, 4, 5, 17]) rfl⟩
   ·refine r_lit 11 rfl hb11 ?_
    refine r_move rfl rfl rfl (r_move rfl rfl rfl ?_)
    obtain ⟨c7, hc7, hb2⟩ := bind_some hb2
    refine r_sidx u9 rfl rfl rfl rfl hc7 ?_
    obtain ⟨v4, hv1, hb2⟩ := bind_some hb2
    refine r_callP0 ent70 rfl rfl rfl rfl (lexer_plain_ok _ _ _ hv1) ?_
    refine r_not rfl rfl rfl (r_pick_false rfl rfl rfl rfl (r_nil ?_))
    refine q_next (fun a ha => ?_)
    cases hb2
    exact ⟨rfl, ha.cut (l := [0, 4, 5, 17]) rfl⟩


structure Token where
 Kind : Int
 Text : Bs
 N : Int
 Pos : Int
 deriving DecidableEq, Inhabited

def rp_Token : Rp Token where
 k := 4
 R := fun _ cs x => cs = [.int .i64 x.Kind, vs x.Text, .int .i64 x.N, .int .i64 x.Pos]
 len := by intros; simp_all
 mono := fun _ h => h
 one := by intro F cs x h u hu; subst h; simp at hu; rcases hu with rfl | rfl | rfl | rfl <;> rfl

theorem ze62 : ZeroIs Tryd.prog 62 (.agg #[.int .i64 0, vs [], .int .i64 0, .int .i64 0]) := fun _ => by kernel_rfl

theorem ent42 : Ent Tryd.prog 42 := fun _ _ => by kernel_rfl

theorem sz62 : SizeIs Tryd.prog 62 4 := fun _ => by kernel_rfl

theorem ag62 : IsAgg Tryd.prog 62 true := fun _ => by kernel_rfl

theorem ent57 : Ent Tryd.prog 57 := fun _ _ => by kernel_rfl

theorem ent58 : Ent Tryd.prog 58 := fun _ _ => by kernel_rfl

theorem ag89 : IsAgg Tryd.prog 89 true := fun _ => by kernel_rfl

theorem sz89 : SizeIs Tryd.prog 89 13 := fun _ => by kernel_rfl

theorem u89 : Tryd.prog.underlying 89 = some (.array 13 5) := by kernel_rfl

theorem ag5 : IsAgg Tryd.prog 5 false := fun _ => by kernel_rfl

theorem sz5 : SizeIs Tryd.prog 5 1 := fun _ => by kernel_rfl

def lexer_next_L1 (n : Nat) (s1 : Bs) (kont1 : Option (Token × Int × Int)) : Nat → Int → Option (Token × Int × Int)
 | 0, _ => none
 | mx1 + 1, i1 =>
  bif decide (i1 < 13) then
   (ix [40, 41, 44, 59, 58, 61, 60, 43, 45, 42, 47, 123, 125] i1).bind fun c4 =>
   (sidx s1 0).bind fun c5 =>
   bif c5 == c4 then
    (ssl s1 0 1).bind fun t3 =>
    some ((⟨3, t3, 0, 0⟩ : Token), 1, 0)
   else
    lexer_next_L1 n s1 kont1 mx1 (iadd .i64 i1 1)
  else
   kont1

theorem lexer_next_L1_s (n : Nat) (s1 : Bs) (kont1 : Option (Token × Int × Int)) (mx1 : Nat) (i1 : Int) : lexer_next_L1 n s1 kont1 (mx1 + 1) i1 =
  bif decide (i1 < 13) then
   (ix [40, 41, 44, 59, 58, 61, 60, 43, 45, 42, 47, 123, 125] i1).bind fun c4 =>
   (sidx s1 0).bind fun c5 =>
   bif c5 == c4 then
    (ssl s1 0 1).bind fun t3 =>
    some ((⟨3, t3, 0, 0⟩ : Token), 1, 0)
   else
    lexer_next_L1 n s1 kont1 mx1 (iadd .i64 i1 1)
  else
   kont1 := rfl

def lexer_next (n : Nat) (s1 : Bs) : Option (Token × Int × Int) :=
 (sidx s1 0).bind fun c1 =>
 (lexer_letter n c1).bind fun v1 =>
 bif v1 then
  (lexer_span n s1 (lexer_inner n)).bind fun v2 =>
  (ssl s1 0 v2).bind fun t1 =>
  (lexer_Name n t1).bind fun v3 =>
  bif !v3 then
   some ((⟨0, [], 0, 0⟩ : Token), 0, 3)
  else
   some ((⟨0, t1, 0, 0⟩ : Token), (t1.length : Int), 0)
 else
  (sidx s1 0).bind fun c2 =>
  (lexer_digit n c2).bind fun v4 =>
  bif v4 then
   (lexer_span n s1 (lexer_digit n)).bind fun v5 =>
   (ssl s1 0 v5).bind fun t2 =>
   (lexer_Number n t2).bind fun v6 =>
   bif !v6.2 then
    some ((⟨0, [], 0, 0⟩ : Token), 0, 3)
   else
    some ((⟨1, t2, v6.1, 0⟩ : Token), (t2.length : Int), 0)
  else
   (sidx s1 0).bind fun c3 =>
   bif c3 == 34 then
    (lexer_quoted n s1).bind fun v7 =>
    bif v7.2 == 0 then
     some ((⟨0, [], 0, 0⟩ : Token), 0, 2)
    else
     some ((⟨2, v7.1, 0, 0⟩ : Token), v7.2, 0)
   else
    lexer_next_L1 n s1 (
     some ((⟨0, [], 0, 0⟩ : Token), 0, 10)) n 0

set_option maxHeartbeats 1000000 in
set_option maxRecDepth 1000000 in
theorem lexer_next_ok (n : Nat) (s1 : Bs) (r : (Token × Int × Int)) (hm : lexer_next n s1 = some r) {w : World} {F : Frz} (hs : Sat F w) (hg0 : FX F 0 [.int .u8 40, .int .u8 41, .int .u8 44, .int .u8 59, .int .u8 58, .int .u8 61, .int .u8 60, .int .u8 43, .int .u8 45, .int .u8 42, .int .u8 47, .int .u8 123, .int .u8 125]) :
  Calls Tryd.prog 39 #[vs s1] w fun e w' => ∃ v F' O', e = .returned v ∧ HS F w [] F' O' w' ∧ (v = .tuple #[.agg #[.int .i64 r.1.Kind, vs r.1.Text, .int .i64 r.1.N, .int .i64 r.1.Pos], .int .i64 r.2.1, .int .i64 r.2.2] ∧ O' = []) := by
 unfold lexer_next at hm
 have h := HS.init hs
 refine calls_of 78 Tryd.func39 rfl rfl rfl ?_
 refine c_seq (c_region ?_)
 refine r_alloc ze62 rfl rfl rfl h ?_
 intro b1 wx1 hx1
 refine r_assign rfl rfl rfl (r_assign rfl rfl rfl (r_nil (q_then (c_seq (c_block (c_seq (c_region (r_move rfl rfl rfl ?_))))))))
 obtain ⟨c1, hc1, hm⟩ := bind_some hm
 refine r_sidx u9 rfl rfl rfl rfl hc1 ?_
 obtain ⟨v1, hv1, hm⟩ := bind_some hm
 refine r_callP0 ent54 rfl rfl rfl rfl (lexer_letter_ok _ _ _ hv1) ?_
 refine r_assign rfl rfl rfl (r_nil (q_then ?_))
 rcases cond_some hm with ⟨hb1, hm⟩ | ⟨hb1, hm⟩
 ·refine c_lit 13 rfl hb1 ?_
  refine c_true rfl (c_seq (c_region (r_move rfl rfl rfl (r_move rfl rfl rfl ?_))))
  obtain ⟨v2, hv2, hm⟩ := bind_some hm
  refine r_callP0 ent52 rfl rfl rfl rfl (lexer_span_ok _ _ _ _ hv2 (pf55 _)) ?_
  obtain ⟨t1, hc2, hm⟩ := bind_some hm
  refine r_ssl_h u9 rfl rfl rfl rfl hc2 ?_
  refine r_assign rfl rfl rfl (r_nil (q_then (c_seq (c_seq (c_region (r_move rfl rfl rfl ?_))))))
  obtain ⟨v3, hv3, hm⟩ := bind_some hm
  refine r_callP0 ent42 rfl rfl rfl rfl (lexer_Name_ok _ _ _ hv3) ?_
  refine r_not rfl rfl rfl (r_nil (q_then ?_))
  rcases cond_some hm with ⟨hb2, hm⟩ | ⟨hb2, hm⟩
  ·refine c_lit 23 rfl hb2 ?_
   refine c_true rfl (c_seq (c_region ?_))
   refine r_build (v := .agg #[.int .i64 0, vs [], .int .i64 0, .int .i64 0]) rfl rfl rfl (fun _ => by kernel_rfl) ?_
   refine r_store sz62 rfl hx1 rfl rfl rfl rfl (i := 0) rfl rfl rfl rfl ?_
   intro wx2 hx2
   refine r_assign rfl rfl rfl (r_assign rfl rfl rfl (r_nil (q_then (c_ret (q_then_ret (q_block_ret (q_then_ret ?_)))))))
   refine b_retA (vl := [.agg #[.int .i64 0, vs [], .int .i64 0, .int .i64 0], .int .i64 0, .int .i64 3]) rfl ⟨v_cell ag62 sz62 rfl hx2 rfl (i := 0) rfl, v_tmp rfl, v_tmp rfl, trivial⟩ (by simp) ?_
   obtain rfl := Option.some.inj hm
   exact ⟨_, _, _, rfl, hx2.pick [] (by decide) rfl, rfl, rfl⟩
  ·refine c_lit 23 rfl hb2 ?_
   refine c_false rfl (c_skip (q_then (c_seq (c_region (r_move rfl rfl rfl ?_)))))
   refine r_build (v := .agg #[.int .i64 0, vs t1, .int .i64 0, .int .i64 0]) rfl rfl rfl (fun _ => by kernel_rfl) ?_
   refine r_move rfl rfl rfl ?_
   refine r_slen u9 rfl rfl rfl ?_
   refine r_store sz62 rfl hx1 rfl rfl rfl rfl (i := 0) rfl rfl rfl rfl ?_
   intro wx3 hx3
   refine r_assign rfl rfl rfl (r_assign rfl rfl rfl (r_nil (q_then (c_ret (q_block_ret (q_then_ret ?_))))))
   refine b_retA (vl := [.agg #[.int .i64 0, vs t1, .int .i64 0, .int .i64 0], .int .i64 (t1.length : Int), .int .i64 0]) rfl ⟨v_cell ag62 sz62 rfl hx3 rfl (i := 0) rfl, v_tmp rfl, v_tmp rfl, trivial⟩ (by simp) ?_
   obtain rfl := Option.some.inj hm
   exact ⟨_, _, _, rfl, hx3.pick [] (by decide) rfl, rfl, rfl⟩
 ·refine c_lit 13 rfl hb1 ?_
  refine c_false rfl (c_seq (c_region (r_move rfl rfl rfl ?_)))
  obtain ⟨c2, hc3, hm⟩ := bind_some hm
  refine r_sidx u9 rfl rfl rfl rfl hc3 ?_
  obtain ⟨v4, hv4, hm⟩ := bind_some hm
  refine r_callP0 ent56 rfl rfl rfl rfl (lexer_digit_ok _ _ _ hv4) ?_
  refine r_assign rfl rfl rfl (r_nil (q_then ?_))
  rcases cond_some hm with ⟨hb3, hm⟩ | ⟨hb3, hm⟩
  ·refine c_lit 29 rfl hb3 ?_
   refine c_true rfl (c_seq (c_region (r_move rfl rfl rfl (r_move rfl rfl rfl ?_))))
   obtain ⟨v5, hv5, hm⟩ := bind_some hm
   refine r_callP0 ent52 rfl rfl rfl rfl (lexer_span_ok _ _ _ _ hv5 (pf56 _)) ?_
   obtain ⟨t2, hc4, hm⟩ := bind_some hm
   refine r_ssl_h u9 rfl rfl rfl rfl hc4 ?_
   refine r_assign rfl rfl rfl (r_nil (q_then (c_seq (c_region (r_move rfl rfl rfl ?_)))))
   obtain ⟨v6, hv6, hm⟩ := bind_some hm
   refine r_callP0 ent57 rfl rfl rfl rfl (lexer_Number_ok _ _ _ hv6) ?_
   refine r_move rfl rfl rfl (r_extract rfl rfl rfl rfl (r_extract rfl rfl rfl rfl (r_assign rfl rfl rfl (r_assign rfl rfl rfl (r_nil (q_then (c_seq (c_seq (c_region (r_move rfl rfl rfl (r_not rfl rfl rfl (r_nil (q_then ?_)))))))))))))
   rcases cond_some hm with ⟨hb4, hm⟩ | ⟨hb4, hm⟩
   ·refine c_lit 43 rfl hb4 ?_
    refine c_true rfl (c_seq (c_region ?_))
    refine r_build (v := .agg #[.int .i64 0, vs [], .int .i64 0, .int .i64 0]) rfl rfl rfl (fun _ => by kernel_rfl) ?_
    refine r_store sz62 rfl hx1 rfl rfl rfl rfl (i := 0) rfl rfl rfl rfl ?_
    intro wx4 hx4
    refine r_assign rfl rfl rfl (r_assign rfl rfl rfl (r_nil (q_then (c_ret (q_then_ret (q_block_ret (q_then_ret ?_)))))))
    refine b_retA (vl := [.agg #[.int .i64 0, vs [], .int .i64 0, .int .i64 0], .int .i64 0, .int .i64 3]) rfl ⟨v_cell ag62 sz62 rfl hx4 rfl (i := 0) rfl, v_tmp rfl, v_tmp rfl, trivial⟩ (by simp) ?_
    obtain rfl := Option.some.inj hm
    exact ⟨_, _, _, rfl, hx4.pick [] (by decide) rfl, rfl, rfl⟩
   ·refine c_lit 43 rfl hb4 ?_
    refine c_false rfl (c_skip (q_then (c_seq (c_region (r_move rfl rfl rfl (r_move rfl rfl rfl ?_))))))
    refine r_build (v := .agg #[.int .i64 1, vs t2, .int .i64 v6.1, .int .i64 0]) rfl rfl rfl (fun _ => by kernel_rfl) ?_
    refine r_move rfl rfl rfl ?_
    refine r_slen u9 rfl rfl rfl ?_
    refine r_store sz62 rfl hx1 rfl rfl rfl rfl (i := 0) rfl rfl rfl rfl ?_
    intro wx5 hx5
    refine r_assign rfl rfl rfl (r_assign rfl rfl rfl (r_nil (q_then (c_ret (q_block_ret (q_then_ret ?_))))))
    refine b_retA (vl := [.agg #[.int .i64 1, vs t2, .int .i64 v6.1, .int .i64 0], .int .i64 (t2.length : Int), .int .i64 0]) rfl ⟨v_cell ag62 sz62 rfl hx5 rfl (i := 0) rfl, v_tmp rfl, v_tmp rfl, trivial⟩ (by simp) ?_
    obtain rfl := Option.some.inj hm
    exact ⟨_, _, _, rfl, hx5.pick [] (by decide) rfl, rfl, rfl⟩
  ·refine c_lit 29 rfl hb3 ?_
   refine c_false rfl (c_seq (c_region (r_move rfl rfl rfl ?_)))
   obtain ⟨c3, hc5, hm⟩ := bind_some hm
   refine r_sidx u9 rfl rfl rfl rfl hc5 ?_
   refine r_bin rfl rfl rfl rfl rfl ?_
   refine r_assign rfl rfl rfl (r_nil (q_then ?_))
   rcases cond_some hm with ⟨hb5, hm⟩ | ⟨hb5, hm⟩
   ·refine c_lit 50 rfl hb5 ?_
    refine c_true rfl (c_seq (c_region (r_move rfl rfl rfl ?_)))
    obtain ⟨v7, hv7, hm⟩ := bind_some hm
    refine r_callG0 ent58 rfl rfl rfl rfl hx1 (lexer_quoted_ok _ _ _ hv7 hx1.sat) ?_
    rintro _ Fx1 _ wx6 hF1 hx6 ⟨rfl, rfl⟩
    refine r_move rfl rfl rfl (r_extract rfl rfl rfl rfl (r_extract rfl rfl rfl rfl (r_assign rfl rfl rfl (r_assign rfl rfl rfl (r_nil (q_then (c_seq (c_seq (c_region (r_move rfl rfl rfl ?_))))))))))
    refine r_bin rfl rfl rfl rfl rfl ?_
    refine r_nil (q_then ?_)
    rcases cond_some hm with ⟨hb6, hm⟩ | ⟨hb6, hm⟩
    ·refine c_lit 60 rfl hb6 ?_
     refine c_true rfl (c_seq (c_region ?_))
     refine r_build (v := .agg #[.int .i64 0, vs [], .int .i64 0, .int .i64 0]) rfl rfl rfl (fun _ => by kernel_rfl) ?_
     refine r_store sz62 rfl hx6 rfl rfl rfl rfl (i := 0) rfl rfl rfl rfl ?_
     intro wx7 hx7
     refine r_assign rfl rfl rfl (r_assign rfl rfl rfl (r_nil (q_then (c_ret (q_then_ret (q_block_ret (q_then_ret ?_)))))))
     refine b_retA (vl := [.agg #[.int .i64 0, vs [], .int .i64 0, .int .i64 0], .int .i64 0, .int .i64 2]) rfl ⟨v_cell ag62 sz62 rfl hx7 rfl (i := 0) rfl, v_tmp rfl, v_tmp rfl, trivial⟩ (by simp) ?_
     obtain rfl := Option.some.inj hm
     exact ⟨_, _, _, rfl, hx7.pick [] (by decide) rfl, rfl, rfl⟩
    ·refine c_lit 60 rfl hb6 ?_
     refine c_false rfl (c_skip (q_then (c_seq (c_region (r_move rfl rfl rfl ?_)))))
     refine r_build (v := .agg #[.int .i64 2, vs v7.1, .int .i64 0, .int .i64 0]) rfl rfl rfl (fun _ => by kernel_rfl) ?_
     refine r_move rfl rfl rfl ?_
     refine r_store sz62 rfl hx6 rfl rfl rfl rfl (i := 0) rfl rfl rfl rfl ?_
     intro wx8 hx8
     refine r_assign rfl rfl rfl (r_assign rfl rfl rfl (r_nil (q_then (c_ret (q_block_ret (q_then_ret ?_))))))
     refine b_retA (vl := [.agg #[.int .i64 2, vs v7.1, .int .i64 0, .int .i64 0], .int .i64 v7.2, .int .i64 0]) rfl ⟨v_cell ag62 sz62 rfl hx8 rfl (i := 0) rfl, v_tmp rfl, v_tmp rfl, trivial⟩ (by simp) ?_
     obtain rfl := Option.some.inj hm
     exact ⟨_, _, _, rfl, hx8.pick [] (by decide) rfl, rfl, rfl⟩
   ·refine c_lit 50 rfl hb5 ?_
    refine c_false rfl (c_skip (q_block (q_then (c_seq (c_seq (c_region ?_))))))
    refine r_loadFA (j := 0) ag89 sz89 rfl rfl hx1 hg0.fc rfl rfl rfl ?_
    refine r_move rfl rfl rfl (r_nil (q_then (c_block ?_)))
    intro a hax3
    obtain ⟨kont1, hkont1⟩ : ∃ kont1 : Option (Token × Int × Int), kont1 = (
       some ((⟨0, [], 0, 0⟩ : Token), 0, 10)) := ⟨_, rfl⟩
    replace hm : (fun m (s : Int) => lexer_next_L1 n s1 kont1 m s) n 0 = some r := by rw [hkont1]; exact hm
    refine loopX (id := 1) (fun m (s : Int) => lexer_next_L1 n s1 kont1 m s) (fun (y : Unit) => kont1) r (fun (s : Int) a w' => wx1 = w' ∧ Has 78 a [(0, vs s1), (2, .pointer (some ⟨b1, 0, none⟩)), (65, .agg #[.int .u8 40, .int .u8 41, .int .u8 44, .int .u8 59, .int .u8 58, .int .u8 61, .int .u8 60, .int .u8 43, .int .u8 45, .int .u8 42, .int .u8 47, .int .u8 123, .int .u8 125]), (66, .int .i64 s)]) (fun (y : Unit) a w' => wx1 = w' ∧ Has 78 a [(2, .pointer (some ⟨b1, 0, none⟩))]) (fun _ => rfl) ?_ ?_ hm ⟨rfl, hax3.cut (l := [0, 2, 65, 66]) rfl⟩
    ·clear hm; rintro _u a wx9 hm ⟨rfl, hax1⟩
     rw [hkont1] at hm
     refine qw_apply (e := .exit 1) hax1 ?_
     refine q_block_hit (q_then (c_seq (c_region ?_)))
     refine r_build (v := .agg #[.int .i64 0, vs [], .int .i64 0, .int .i64 0]) rfl rfl rfl (fun _ => by kernel_rfl) ?_
     refine r_store sz62 rfl hx1 rfl rfl rfl rfl (i := 0) rfl rfl rfl rfl ?_
     intro wx10 hx9
     refine r_assign rfl rfl rfl (r_assign rfl rfl rfl (r_nil (q_then (c_ret ?_))))
     refine b_retA (vl := [.agg #[.int .i64 0, vs [], .int .i64 0, .int .i64 0], .int .i64 0, .int .i64 10]) rfl ⟨v_cell ag62 sz62 rfl hx9 rfl (i := 0) rfl, v_tmp rfl, v_tmp rfl, trivial⟩ (by simp) ?_
     obtain rfl := Option.some.inj hm
     exact ⟨_, _, _, rfl, hx9.pick [] (by decide) rfl, rfl, rfl⟩
    ·clear hm hkont1; intro hk1 mx1 K ihx1
     rintro i1 a wx11 hm ⟨rfl, hax2⟩
     simp only [lexer_next_L1_s] at hm
     refine cw_apply hax2 ?_
     refine c_seq (c_region ?_)
     refine r_bin rfl rfl rfl rfl rfl ?_
     refine r_nil (q_then (c_seq ?_))
     rcases cond_some hm with ⟨hb7, hm⟩ | ⟨hb7, hm⟩
     ·refine c_lit 67 rfl hb7 ?_
      refine c_true rfl (c_skip (q_then (c_seq (c_block (c_seq (c_region ?_))))))
      obtain ⟨c4, hc6, hm⟩ := bind_some hm
      refine r_aidx u89 ag5 sz5 rfl rfl rfl rfl rfl rfl hc6 ?_
      refine r_assign rfl rfl rfl (r_nil (q_then (c_seq (c_region (r_move rfl rfl rfl ?_)))))
      obtain ⟨c5, hc7, hm⟩ := bind_some hm
      refine r_sidx u9 rfl rfl rfl rfl hc7 ?_
      refine r_move rfl rfl rfl ?_
      refine r_bin rfl rfl rfl rfl rfl ?_
      refine r_nil (q_then ?_)
      rcases cond_some hm with ⟨hb8, hm⟩ | ⟨hb8, hm⟩
      ·refine c_lit 72 rfl hb8 ?_
       refine c_true rfl (c_seq (c_region (r_move rfl rfl rfl ?_)))
       obtain ⟨t3, hc8, hm⟩ := bind_some hm
       refine r_ssl_h u9 rfl rfl rfl rfl hc8 ?_
       refine r_build (v := .agg #[.int .i64 3, vs t3, .int .i64 0, .int .i64 0]) rfl rfl rfl (fun _ => by kernel_rfl) ?_
       refine r_store sz62 rfl hx1 rfl rfl rfl rfl (i := 0) rfl rfl rfl rfl ?_
       intro wx12 hx10
       refine r_assign rfl rfl rfl (r_assign rfl rfl rfl (r_nil (q_then (c_ret (q_block_ret (q_then_ret (q_then_ret (q_block_ret (q_then_ret ?_)))))))))
       refine b_retA (vl := [.agg #[.int .i64 3, vs t3, .int .i64 0, .int .i64 0], .int .i64 1, .int .i64 0]) rfl ⟨v_cell ag62 sz62 rfl hx10 rfl (i := 0) rfl, v_tmp rfl, v_tmp rfl, trivial⟩ (by simp) ?_
       obtain rfl := Option.some.inj hm
       exact ⟨_, _, _, rfl, hx10.pick [] (by decide) rfl, rfl, rfl⟩
      ·refine c_lit 72 rfl hb8 ?_
       refine c_false rfl (c_skip (q_block (q_then (c_region ?_))))
       refine r_bin rfl rfl rfl rfl rfl ?_
       refine r_move rfl rfl rfl (r_nil ?_)
       refine q_next (fun a ha => ihx1 (iadd .i64 i1 1) a _ hm ?_)
       exact ⟨rfl, ha.cut (l := [0, 2, 65, 66]) rfl⟩
     ·refine c_lit 67 rfl hb7 ?_
      refine c_false rfl (c_exit (q_then_exit (q_then_exit ?_)))
      refine fun a ha => hk1 () a _ hm ?_
      exact ⟨rfl, ha.cut (l := [2]) rfl⟩


theorem ent38 : Ent Tryd.prog 38 := fun _ _ => by kernel_rfl

theorem ent39 : Ent Tryd.prog 39 := fun _ _ => by kernel_rfl

theorem fa62_3 : FieldIs Tryd.prog 62 3 3 := fun _ _ _ => by kernel_rfl

theorem sz3 : SizeIs Tryd.prog 3 1 := fun _ => by kernel_rfl

theorem ap48 : AppIs Tryd.prog 48 62 4 40 := AppIs.of (z := .agg #[.int .i64 0, vs [], .int .i64 0, .int .i64 0]) (by kernel_rfl) (by kernel_rfl) rfl (by decide) (by decide)

def lexer_Scan_L1 (n : Nat) (s1 : Bs) : Nat → Int → (List Token) → Option ((List Token) × Int × Int)
 | 0, _, _ => none
 | mx1 + 1, atx1, l1 =>
  (ssl s1 atx1 s1.length).bind fun t1 =>
  (lexer_gap n t1).bind fun v1 =>
  bif (iadd .i64 atx1 v1) == (s1.length : Int) then
   some (l1, 0, 0)
  else
   (ssl s1 (iadd .i64 atx1 v1) s1.length).bind fun t2 =>
   (lexer_next n t2).bind fun v2 =>
   bif v2.2.2 != 0 then
    some ([], iadd .i64 atx1 v1, v2.2.2)
   else
    (app 40 l1 [(⟨v2.1.Kind, v2.1.Text, v2.1.N, iadd .i64 atx1 v1⟩ : Token)]).bind fun l2 =>
    lexer_Scan_L1 n s1 mx1 (iadd .i64 (iadd .i64 atx1 v1) v2.2.1) l2

theorem lexer_Scan_L1_s (n : Nat) (s1 : Bs) (mx1 : Nat) (atx1 : Int) (l1 : List Token) : lexer_Scan_L1 n s1 (mx1 + 1) atx1 l1 =
  (ssl s1 atx1 s1.length).bind fun t1 =>
  (lexer_gap n t1).bind fun v1 =>
  bif (iadd .i64 atx1 v1) == (s1.length : Int) then
   some (l1, 0, 0)
  else
   (ssl s1 (iadd .i64 atx1 v1) s1.length).bind fun t2 =>
   (lexer_next n t2).bind fun v2 =>
   bif v2.2.2 != 0 then
    some ([], iadd .i64 atx1 v1, v2.2.2)
   else
    (app 40 l1 [(⟨v2.1.Kind, v2.1.Text, v2.1.N, iadd .i64 atx1 v1⟩ : Token)]).bind fun l2 =>
    lexer_Scan_L1 n s1 mx1 (iadd .i64 (iadd .i64 atx1 v1) v2.2.1) l2 := rfl

def lexer_Scan (n : Nat) (s1 : Bs) : Option ((List Token) × Int × Int) :=
 bif decide (4000 < (s1.length : Int)) then
  some ([], 0, 6)
 else
  lexer_Scan_L1 n s1 n 0 ([] : List Token)

set_option maxHeartbeats 1000000 in
set_option maxRecDepth 1000000 in
theorem lexer_Scan_ok (n : Nat) (s1 : Bs) (r : ((List Token) × Int × Int)) (hm : lexer_Scan n s1 = some r) {w : World} {F : Frz} (hs : Sat F w) (hg0 : FX F 0 [.int .u8 40, .int .u8 41, .int .u8 44, .int .u8 59, .int .u8 58, .int .u8 61, .int .u8 60, .int .u8 43, .int .u8 45, .int .u8 42, .int .u8 47, .int .u8 123, .int .u8 125]) :
  Calls Tryd.prog 19 #[vs s1] w fun e w' => ∃ v F' O', e = .returned v ∧ HS F w [] F' O' w' ∧ (∃ (a0_0 : Option Addr) (n0_0 : Nat) (c0_0 : Nat), v = .tuple #[.slice a0_0 n0_0 c0_0, .int .i64 r.2.1, .int .i64 r.2.2] ∧ O' = [] ∧ SlR rp_Token F' a0_0 n0_0 c0_0 r.1) := by
 unfold lexer_Scan at hm
 have h := HS.init hs
 refine calls_of 45 Tryd.func19 rfl rfl rfl ?_
 refine c_seq (c_region (r_assign rfl rfl rfl (r_assign rfl rfl rfl (r_assign rfl rfl rfl (r_nil (q_then (c_seq (c_seq (c_region (r_move rfl rfl rfl ?_))))))))))
 refine r_slen u9 rfl rfl rfl ?_
 refine r_bin rfl rfl rfl rfl rfl ?_
 refine r_nil (q_then ?_)
 rcases cond_some hm with ⟨hb1, hm⟩ | ⟨hb1, hm⟩
 ·refine c_lit 12 rfl hb1 ?_
  refine c_true rfl (c_seq (c_region (r_assign rfl rfl rfl (r_assign rfl rfl rfl (r_assign rfl rfl rfl (r_nil (q_then (c_ret (q_then_ret ?_)))))))))
  refine b_retA (vl := [.slice none 0 0, .int .i64 0, .int .i64 6]) rfl ⟨v_tmp rfl, v_tmp rfl, v_tmp rfl, trivial⟩ (by simp) ?_
  obtain rfl := Option.some.inj hm
  exact ⟨_, _, _, rfl, h.pick [] (by decide) rfl, none, 0, 0, rfl, rfl, SlR.nil _ _⟩
 ·refine c_lit 12 rfl hb1 ?_
  refine c_false rfl (c_skip (q_then (c_seq (c_region (r_assign rfl rfl rfl (r_nil (q_then (c_seq (c_region (r_assign rfl rfl rfl (r_nil (q_then (c_block ?_)))))))))))))
  have hx1 := h.nilRow 62 4
  intro a hax2
  replace hm : (fun m (s : Int × List Token) => lexer_Scan_L1 n s1 m s.1 s.2) n (0, ([] : List Token)) = some r := hm
  refine loopR (fun m (s : Int × List Token) => lexer_Scan_L1 n s1 m s.1 s.2) r (fun (s : Int × List Token) a w' => ∃ (Fx1 : Frz) (as2 : Option Addr) (ns2 : Nat) (cs2 : Nat) (xss2 : List Value), Frz.le F Fx1 ∧ HS F w [] Fx1 [.row 62 4 as2 ns2 cs2 xss2] w' ∧ (RowN rp_Token Fx1 ns2 xss2 s.2) ∧ Has 45 a [(0, vs s1), (5, .slice as2 ns2 cs2), (6, .int .i64 s.1)]) (fun _ => rfl) ?_ hm ⟨_, none, 0, 0, [], Frz.refl _, hx1.pick [0] (by decide) rfl, ((show RowN rp_Token _ 0 [] [] from ⟨rfl, rfl⟩)), hax2.cut (l := [0, 5, 6]) rfl⟩
  ·clear hm; intro mx1 K ihx1
   rintro ⟨atx1, l1⟩ a wx1 hm ⟨Fx1, as2, ns2, cs2, xss2, hF1, hx2, hs2, hax1⟩
   simp only [lexer_Scan_L1_s] at hm
   refine cw_apply hax1 ?_
   refine c_block (c_seq (c_region (r_move rfl rfl rfl (r_move rfl rfl rfl (r_move rfl rfl rfl ?_)))))
   obtain ⟨t1, hc1, hm⟩ := bind_some hm
   refine r_ssl_l u9 rfl rfl rfl rfl hc1 ?_
   obtain ⟨v1, hv1, hm⟩ := bind_some hm
   refine r_callP0 ent38 rfl rfl rfl rfl (lexer_gap_ok _ _ _ hv1) ?_
   refine r_bin rfl rfl rfl rfl rfl ?_
   refine r_assign rfl rfl rfl (r_nil (q_then (c_seq (c_seq (c_region (r_move rfl rfl rfl (r_move rfl rfl rfl ?_)))))))
   refine r_slen u9 rfl rfl rfl ?_
   refine r_bin rfl rfl rfl rfl rfl ?_
   refine r_nil (q_then ?_)
   rcases cond_some hm with ⟨hb2, hm⟩ | ⟨hb2, hm⟩
   ·refine c_lit 22 rfl hb2 ?_
    refine c_true rfl (c_seq (c_region (r_move rfl rfl rfl (r_assign rfl rfl rfl (r_assign rfl rfl rfl (r_assign rfl rfl rfl (r_nil (q_then (c_ret (q_then_ret (q_block_ret (q_then_ret (q_block_ret ?_)))))))))))))
    obtain ⟨Fx2, hF2, hx3, hsx1⟩ := freezeRow hx2 (i := 0) rfl hs2
    refine b_retA (vl := [.slice as2 ns2 cs2, .int .i64 0, .int .i64 0]) rfl ⟨v_tmp rfl, v_tmp rfl, v_tmp rfl, trivial⟩ (by simp) ?_
    obtain rfl := Option.some.inj hm
    exact ⟨_, _, _, rfl, hx3.pick [] (by decide) rfl, as2, ns2, cs2, rfl, rfl, hsx1⟩
   ·refine c_lit 22 rfl hb2 ?_
    refine c_false rfl (c_skip (q_then (c_seq (c_region (r_move rfl rfl rfl (r_move rfl rfl rfl ?_))))))
    obtain ⟨t2, hc2, hm⟩ := bind_some hm
    refine r_ssl_l u9 rfl rfl rfl rfl hc2 ?_
    obtain ⟨v2, hv2, hm⟩ := bind_some hm
    refine r_callG0 ent39 rfl rfl rfl rfl hx2 (lexer_next_ok _ _ _ hv2 hx2.sat (hg0.mono hF1)) ?_
    rintro _ Fx3 _ wx2 hF3 hx4 ⟨rfl, rfl⟩
    refine r_move rfl rfl rfl (r_extract rfl rfl rfl rfl (r_extract rfl rfl rfl rfl (r_extract rfl rfl rfl rfl ?_)))
    refine r_alloc ze62 rfl rfl rfl hx4 ?_
    intro b1 wx3 hx5
    refine r_store sz62 rfl hx5 rfl rfl rfl rfl (i := 0) rfl rfl rfl rfl ?_
    intro wx4 hx6
    refine r_assign rfl rfl rfl (r_assign rfl rfl rfl (r_nil (q_then (c_seq (c_seq (c_region (r_move rfl rfl rfl ?_)))))))
    refine r_bin rfl rfl rfl rfl rfl ?_
    refine r_nil (q_then ?_)
    rcases cond_some hm with ⟨hb3, hm⟩ | ⟨hb3, hm⟩
    ·refine c_lit 33 rfl hb3 ?_
     refine c_true rfl (c_seq (c_region (r_move rfl rfl rfl (r_move rfl rfl rfl (r_assign rfl rfl rfl (r_assign rfl rfl rfl (r_assign rfl rfl rfl (r_nil (q_then (c_ret (q_then_ret (q_block_ret (q_then_ret (q_block_ret ?_))))))))))))))
     refine b_retA (vl := [.slice none 0 0, .int .i64 (iadd .i64 atx1 v1), .int .i64 v2.2.2]) rfl ⟨v_tmp rfl, v_tmp rfl, v_tmp rfl, trivial⟩ (by simp) ?_
     obtain rfl := Option.some.inj hm
     exact ⟨_, _, _, rfl, hx6.pick [] (by decide) rfl, none, 0, 0, rfl, rfl, SlR.nil _ _⟩
    ·refine c_lit 33 rfl hb3 ?_
     refine c_false rfl (c_skip (q_then (c_seq (c_region (r_move rfl rfl rfl ?_)))))
     refine r_fieldAddr fa62_3 rfl rfl rfl ?_
     refine r_store sz3 rfl hx6 rfl rfl rfl rfl (i := 0) rfl rfl rfl rfl ?_
     intro wx5 hx7
     refine r_nil (q_then (c_seq (c_region (r_move rfl rfl rfl ?_))))
     refine r_loadBW ag62 sz62 rfl rfl hx7 rfl (i := 0) rfl rfl ?_
     refine r_buildSlice (e := 62) (cs := [.int .i64 v2.1.Kind, vs v2.1.Text, .int .i64 v2.1.N, .int .i64 (iadd .i64 atx1 v1)]) (q := 4) rfl rfl hx7 rfl (fun _ => by kernel_rfl) rfl rfl ?_
     intro b2 wx6 hx8
     obtain ⟨l2, hr1, hm⟩ := bind_some hm
     refine r_appendN (r := rp_Token) ap48 rfl rfl hx8 rfl rfl (i := 2) (j := 0) rfl rfl (hs2.mono hF3) ((show RowN rp_Token Fx3 1 [.int .i64 v2.1.Kind, vs v2.1.Text, .int .i64 v2.1.N, .int .i64 (iadd .i64 atx1 v1)] [(⟨v2.1.Kind, v2.1.Text, v2.1.N, iadd .i64 atx1 v1⟩ : Token)] from ⟨rfl, ⟨_, _, rfl, rfl, (rfl : RowR rp_Token _ [] [])⟩⟩)) hr1 ?_
     intro as3 cs3 wx7 hx9 hs3
     refine r_assign rfl rfl rfl (r_nil (q_then (c_region (r_move rfl rfl rfl (r_move rfl rfl rfl ?_)))))
     refine r_bin rfl rfl rfl rfl rfl ?_
     refine r_assign rfl rfl rfl (r_nil (q_block ?_))
     refine q_next (fun a ha => ihx1 ((iadd .i64 (iadd .i64 atx1 v1) v2.2.1), l2) a _ hm ?_)
     exact ⟨_, as3, (ns2 + 1), cs3, (xss2 ++ [.int .i64 v2.1.Kind, vs v2.1.Text, .int .i64 v2.1.N, .int .i64 (iadd .i64 atx1 v1)]), (hF1.trans hF3), hx9.pick [2] (by decide) rfl, hs3, ha.cut (l := [0, 5, 6]) rfl⟩


end Go.Proofs.YtpihabofmnnbbaaDoor.M
