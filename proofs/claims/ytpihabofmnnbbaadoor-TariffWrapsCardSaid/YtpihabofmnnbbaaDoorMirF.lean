/-
  THE MIRRORS of the tariff's and the lexer's functions, of the references and the laws, and that each call returns what its mirror says. Printed by gen.py.
-/
import Derived.Test.YtpihabofmnnbbaaDoorRows
import Derived.Test.YtpihabofmnnbbaaDoorRtZ
import Derived.Test.YtpihabofmnnbbaaDoorExpr
import Derived.Test.YtpihabofmnnbbaaDoorExtT
import Derived.Test.YtpihabofmnnbbaaDoorMirE
namespace Go.Proofs.YtpihabofmnnbbaaDoor.M
open Go Go.RowKit Rt

def slices_Index_string_string_L1 (n : Nat) (s1 : (List Bs)) (v1 : Bs) (kont1 : Option Int) : Nat → Int → Option Int
 | 0, _ => none
 | mx1 + 1, i1 =>
  bif decide (i1 < (s1.length : Int)) then
   (ix s1 i1).bind fun ex1 =>
   bif v1 == ex1 then
    some i1
   else
    slices_Index_string_string_L1 n s1 v1 kont1 mx1 (iadd .i64 i1 1)
  else
   kont1

theorem slices_Index_string_string_L1_s (n : Nat) (s1 : (List Bs)) (v1 : Bs) (kont1 : Option Int) (mx1 : Nat) (i1 : Int) : slices_Index_string_string_L1 n s1 v1 kont1 (mx1 + 1) i1 =
  bif decide (i1 < (s1.length : Int)) then
   (ix s1 i1).bind fun ex1 =>
   bif v1 == ex1 then
    some i1
   else
    slices_Index_string_string_L1 n s1 v1 kont1 mx1 (iadd .i64 i1 1)
  else
   kont1 := rfl

def slices_Index_string_string (n : Nat) (s1 : (List Bs)) (v1 : Bs) : Option Int :=
 slices_Index_string_string_L1 n s1 v1 (
  some (-1)) n 0

set_option maxHeartbeats 1000000 in
set_option maxRecDepth 1000000 in
theorem slices_Index_string_string_ok (n : Nat) (s1 : (List Bs)) (v1 : Bs) (r : Int) (hm : slices_Index_string_string n s1 v1 = some r) {w : World} {F : Frz} (hs : Sat F w) {as2 : Option Addr} {ns2 : Nat} {cs2 : Nat} (hs2 : SlR Rp.str F as2 ns2 cs2 s1) :
  Calls Tryd.prog 64 #[.slice as2 ns2 cs2, vs v1] w fun e w' => e = .returned (.int .i64 r) ∧ w' = w := by
 unfold slices_Index_string_string at hm
 have h := HS.init hs
 refine calls_of 19 Tryd.func64 rfl rfl rfl ?_
 refine c_seq (c_region (r_assign rfl rfl rfl (r_nil (q_then (c_seq (c_seq (c_region (r_move rfl rfl rfl ?_))))))))
 refine r_lenS hs2.len u36 rfl rfl rfl ?_
 refine r_move rfl rfl rfl (r_nil (q_then (c_block ?_)))
 intro a hax3
 obtain ⟨kont1, hkont1⟩ : ∃ kont1 : Option Int, kont1 = (
       some (-1)) := ⟨_, rfl⟩
 replace hm : (fun m (s : Int) => slices_Index_string_string_L1 n s1 v1 kont1 m s) n 0 = some r := by rw [hkont1]; exact hm
 refine loopX (id := 0) (fun m (s : Int) => slices_Index_string_string_L1 n s1 v1 kont1 m s) (fun (y : Unit) => kont1) r (fun (s : Int) a w' => w = w' ∧ Has 19 a [(0, .slice as2 ns2 cs2), (1, vs v1), (7, .int .i64 (s1.length : Int)), (8, .int .i64 s)]) (fun (y : Unit) a w' => w = w' ∧ Has 19 a []) (fun _ => rfl) ?_ ?_ hm ⟨rfl, hax3.cut (l := [0, 1, 7, 8]) rfl⟩
 ·clear hm; rintro _u a wx1 hm ⟨rfl, hax1⟩
  rw [hkont1] at hm
  refine qw_apply (e := .exit 0) hax1 ?_
  refine q_block_hit (q_then (c_seq (c_region (r_assign rfl rfl rfl (r_nil (q_then (c_ret ?_)))))))
  refine b_ret1 rfl rfl ?_
  obtain rfl := Option.some.inj hm
  exact ⟨rfl, rfl⟩
 ·clear hm hkont1; intro hk1 mx1 K ihx1
  rintro i1 a wx2 hm ⟨rfl, hax2⟩
  simp only [slices_Index_string_string_L1_s] at hm
  refine cw_apply hax2 ?_
  refine c_seq (c_region ?_)
  refine r_bin rfl rfl rfl rfl rfl ?_
  refine r_nil (q_then (c_seq ?_))
  rcases cond_some hm with ⟨hb1, hm⟩ | ⟨hb1, hm⟩
  ·refine c_lit 9 rfl hb1 ?_
   refine c_true rfl (c_skip (q_then (c_seq (c_block (c_seq (c_region (r_move rfl rfl rfl (r_assign rfl rfl rfl (r_nil (q_then (c_seq (c_region (r_move rfl rfl rfl (r_move rfl rfl rfl (r_move rfl rfl rfl ?_)))))))))))))))
   obtain ⟨ex1, he1, hm⟩ := bind_some hm
   refine r_findex (r := Rp.str) u36 sz9 rfl rfl rfl rfl hs2 he1 ?_
   intro b1 o1 cs1 hf1 hr1
   have hc1 : cs1 = [vs ex1] := hr1
   subst hc1
   refine r_loadF1 (j := 0) ag9 rfl rfl h hf1 rfl rfl ?_
   refine r_str rfl rfl rfl rfl rfl ?_
   refine r_nil (q_then ?_)
   rcases cond_some hm with ⟨hb2, hm⟩ | ⟨hb2, hm⟩
   ·refine c_lit 16 rfl hb2 ?_
    refine c_true rfl (c_seq (c_region (r_move rfl rfl rfl (r_assign rfl rfl rfl (r_nil (q_then (c_ret (q_block_ret (q_then_ret (q_then_ret (q_block_ret (q_then_ret ?_))))))))))))
    refine b_ret1 rfl rfl ?_
    obtain rfl := Option.some.inj hm
    exact ⟨rfl, rfl⟩
   ·refine c_lit 16 rfl hb2 ?_
    refine c_false rfl (c_skip (q_block (q_then (c_region ?_))))
    refine r_bin rfl rfl rfl rfl rfl ?_
    refine r_move rfl rfl rfl (r_nil ?_)
    refine q_next (fun a ha => ihx1 (iadd .i64 i1 1) a _ hm ?_)
    exact ⟨rfl, ha.cut (l := [0, 1, 7, 8]) rfl⟩
  ·refine c_lit 9 rfl hb1 ?_
   refine c_false rfl (c_exit (q_then_exit (q_then_exit ?_)))
   refine fun a ha => hk1 () a _ hm ?_
   exact ⟨rfl, ha.cut (l := []) rfl⟩


theorem ent64 : Ent Tryd.prog 64 := fun _ _ => by kernel_rfl

def slices_Contains_string_string (n : Nat) (s1 : (List Bs)) (v1 : Bs) : Option Bool :=
 (slices_Index_string_string n s1 v1).bind fun v2 =>
 some (decide (0 ≤ v2))

set_option maxHeartbeats 1000000 in
set_option maxRecDepth 1000000 in
theorem slices_Contains_string_string_ok (n : Nat) (s1 : (List Bs)) (v1 : Bs) (r : Bool) (hm : slices_Contains_string_string n s1 v1 = some r) {w : World} {F : Frz} (hs : Sat F w) {as2 : Option Addr} {ns2 : Nat} {cs2 : Nat} (hs2 : SlR Rp.str F as2 ns2 cs2 s1) :
  Calls Tryd.prog 48 #[.slice as2 ns2 cs2, vs v1] w fun e w' => e = .returned (.bool r) ∧ w' = w := by
 unfold slices_Contains_string_string at hm
 have h := HS.init hs
 refine calls_of 9 Tryd.func48 rfl rfl rfl ?_
 refine c_seq (c_region (r_assign rfl rfl rfl (r_nil (q_then (c_seq (c_region (r_move rfl rfl rfl (r_move rfl rfl rfl ?_))))))))
 obtain ⟨v2, hv1, hm⟩ := bind_some hm
 refine r_callP0 ent64 rfl rfl rfl rfl (slices_Index_string_string_ok _ _ _ _ hv1 h.sat hs2) ?_
 refine r_bin rfl rfl rfl rfl rfl ?_
 refine r_assign rfl rfl rfl (r_nil (q_then (c_ret ?_)))
 refine b_ret1 rfl rfl ?_
 obtain rfl := Option.some.inj hm
 exact ⟨rfl, rfl⟩


theorem ent48 : Ent Tryd.prog 48 := fun _ _ => by kernel_rfl

def tariff_named_L1 (n : Nat) (l1 : (List Bs)) (kont1 : Option Bool) : Nat → Int → Option Bool
 | 0, _ => none
 | mx1 + 1, i1 =>
  bif decide (i1 < (l1.length : Int)) then
   (ix l1 i1).bind fun ex1 =>
   (lexer_Name n ex1).bind fun v1 =>
   (bif !v1 then
    some true
   else
    (lsl l1 0 i1).bind fun l2 =>
    (slices_Contains_string_string n l2 ex1).bind fun v3 =>
    some v3).bind fun v2 =>
   bif v2 then
    some false
   else
    tariff_named_L1 n l1 kont1 mx1 (iadd .i64 i1 1)
  else
   kont1

theorem tariff_named_L1_s (n : Nat) (l1 : (List Bs)) (kont1 : Option Bool) (mx1 : Nat) (i1 : Int) : tariff_named_L1 n l1 kont1 (mx1 + 1) i1 =
  bif decide (i1 < (l1.length : Int)) then
   (ix l1 i1).bind fun ex1 =>
   (lexer_Name n ex1).bind fun v1 =>
   (bif !v1 then
    some true
   else
    (lsl l1 0 i1).bind fun l2 =>
    (slices_Contains_string_string n l2 ex1).bind fun v3 =>
    some v3).bind fun v2 =>
   bif v2 then
    some false
   else
    tariff_named_L1 n l1 kont1 mx1 (iadd .i64 i1 1)
  else
   kont1 := rfl

def tariff_named (n : Nat) (l1 : (List Bs)) : Option Bool :=
 tariff_named_L1 n l1 (
  some (decide ((l1.length : Int) ≤ 6))) n 0

set_option maxHeartbeats 1000000 in
set_option maxRecDepth 1000000 in
theorem tariff_named_ok (n : Nat) (l1 : (List Bs)) (r : Bool) (hm : tariff_named n l1 = some r) {w : World} {F : Frz} (hs : Sat F w) {as1 : Option Addr} {ns1 : Nat} {cs1 : Nat} (hs1 : SlR Rp.str F as1 ns1 cs1 l1) :
  Calls Tryd.prog 34 #[.slice as1 ns1 cs1] w fun e w' => e = .returned (.bool r) ∧ w' = w := by
 unfold tariff_named at hm
 have h := HS.init hs
 refine calls_of 26 Tryd.func34 rfl rfl rfl ?_
 refine c_seq (c_region (r_assign rfl rfl rfl (r_nil (q_then (c_seq (c_seq (c_region (r_move rfl rfl rfl ?_))))))))
 refine r_lenS hs1.len u36 rfl rfl rfl ?_
 refine r_move rfl rfl rfl (r_nil (q_then (c_block ?_)))
 intro a hax4
 obtain ⟨kont1, hkont1⟩ : ∃ kont1 : Option Bool, kont1 = (
       some (decide ((l1.length : Int) ≤ 6))) := ⟨_, rfl⟩
 replace hm : (fun m (s : Int) => tariff_named_L1 n l1 kont1 m s) n 0 = some r := by rw [hkont1]; exact hm
 refine loopX (id := 0) (fun m (s : Int) => tariff_named_L1 n l1 kont1 m s) (fun (y : Unit) => kont1) r (fun (s : Int) a w' => w = w' ∧ Has 26 a [(0, .slice as1 ns1 cs1), (5, .slice as1 ns1 cs1), (6, .int .i64 (l1.length : Int)), (7, .int .i64 s)]) (fun (y : Unit) a w' => w = w' ∧ Has 26 a [(0, .slice as1 ns1 cs1)]) (fun _ => rfl) ?_ ?_ hm ⟨rfl, hax4.cut (l := [0, 5, 6, 7]) rfl⟩
 ·clear hm; rintro _u a wx1 hm ⟨rfl, hax1⟩
  rw [hkont1] at hm
  refine qw_apply (e := .exit 0) hax1 ?_
  refine q_block_hit (q_then (c_seq (c_region (r_move rfl rfl rfl ?_))))
  refine r_lenS hs1.len u36 rfl rfl rfl ?_
  refine r_bin rfl rfl rfl rfl rfl ?_
  refine r_assign rfl rfl rfl (r_nil (q_then (c_ret ?_)))
  refine b_ret1 rfl rfl ?_
  obtain rfl := Option.some.inj hm
  exact ⟨rfl, rfl⟩
 ·clear hm hkont1; intro hk1 mx1 K ihx1
  rintro i1 a wx2 hm ⟨rfl, hax2⟩
  simp only [tariff_named_L1_s] at hm
  refine cw_apply hax2 ?_
  refine c_seq (c_region ?_)
  refine r_bin rfl rfl rfl rfl rfl ?_
  refine r_nil (q_then (c_seq ?_))
  rcases cond_some hm with ⟨hb1, hm⟩ | ⟨hb1, hm⟩
  ·refine c_lit 8 rfl hb1 ?_
   refine c_true rfl (c_skip (q_then (c_seq (c_block (c_seq (c_region (r_move rfl rfl rfl ?_)))))))
   obtain ⟨ex1, he1, hm⟩ := bind_some hm
   refine r_findex (r := Rp.str) u36 sz9 rfl rfl rfl rfl hs1 he1 ?_
   intro b1 o1 cs1 hf1 hr1
   have hc1 : cs1 = [vs ex1] := hr1
   subst hc1
   refine r_loadF1 (j := 0) ag9 rfl rfl h hf1 rfl rfl ?_
   refine r_assign rfl rfl rfl (r_assign rfl rfl rfl (r_nil (q_then (c_seq (c_region (r_move rfl rfl rfl ?_))))))
   obtain ⟨v1, hv1, hm⟩ := bind_some hm
   refine r_callP0 ent42 rfl rfl rfl rfl (lexer_Name_ok _ _ _ hv1) ?_
   refine r_not rfl rfl rfl (r_move rfl rfl rfl ?_)
   obtain ⟨v2, hb2, hm⟩ := bind_some hm
   refine r_mid 6 (fun a w' => w = w' ∧ Has 26 a [(0, .slice as1 ns1 cs1), (5, .slice as1 ns1 cs1), (6, .int .i64 (l1.length : Int)), (7, .int .i64 i1), (21, .bool v2)]) ?_ ?_
   ·rintro a wx3 ⟨rfl, hax3⟩
    refine rw_apply hax3 ?_
    refine r_nil (q_then ?_)
    rcases cond_some hm with ⟨hb3, hm⟩ | ⟨hb3, hm⟩
    ·refine c_lit 21 rfl hb3 ?_
     refine c_true rfl (c_seq (c_region (r_assign rfl rfl rfl (r_nil (q_then (c_ret (q_block_ret (q_then_ret (q_then_ret (q_block_ret (q_then_ret ?_)))))))))))
     refine b_ret1 rfl rfl ?_
     obtain rfl := Option.some.inj hm
     exact ⟨rfl, rfl⟩
    ·refine c_lit 21 rfl hb3 ?_
     refine c_false rfl (c_skip (q_block (q_then (c_region ?_))))
     refine r_bin rfl rfl rfl rfl rfl ?_
     refine r_move rfl rfl rfl (r_nil ?_)
     refine q_next (fun a ha => ihx1 (iadd .i64 i1 1) a _ hm ?_)
     exact ⟨rfl, ha.cut (l := [0, 5, 6, 7]) rfl⟩
   ·clear hm
    rcases cond_some hb2 with ⟨hb4, hb2⟩ | ⟨hb4, hb2⟩
    ·refine r_lit 15 rfl hb4 ?_
     refine r_off rfl (by decide) rfl (r_off rfl (by decide) rfl (r_off rfl (by decide) rfl (r_off rfl (by decide) rfl (r_off rfl (by decide) rfl (r_pick_true rfl rfl rfl rfl (r_nil ?_))))))
     refine q_next (fun a ha => ?_)
     cases hb2
     exact ⟨rfl, ha.cut (l := [0, 5, 6, 7, 21]) rfl⟩
    ·refine r_lit 15 rfl hb4 ?_
     refine r_move rfl rfl rfl (r_move rfl rfl rfl ?_)
     obtain ⟨l2, hc2, hb2⟩ := bind_some hb2
     refine r_fsl_h u36 (r := Rp.str) sz9 rfl rfl rfl rfl hs1 hc2 ?_
     intro as2 ns2 cs2 hs2
     refine r_move rfl rfl rfl ?_
     obtain ⟨v3, hv2, hb2⟩ := bind_some hb2
     refine r_callP0 ent48 rfl rfl rfl rfl (slices_Contains_string_string_ok _ _ _ _ hv2 h.sat hs2) ?_
     refine r_pick_false rfl rfl rfl rfl (r_nil ?_)
     refine q_next (fun a ha => ?_)
     cases hb2
     exact ⟨rfl, ha.cut (l := [0, 5, 6, 7, 21]) rfl⟩
  ·refine c_lit 8 rfl hb1 ?_
   refine c_false rfl (c_exit (q_then_exit (q_then_exit ?_)))
   refine fun a ha => hk1 () a _ hm ?_
   exact ⟨rfl, ha.cut (l := [0]) rfl⟩


def tariff_join (_n : Nat) (ax1 : Int) (b1 : Int) : Option (Int × Int) :=
 (bif ax1 == 0 then
  some true
 else
  some (b1 == 0)).bind fun v1 =>
 bif v1 then
  some (0, 13)
 else
  (bif ax1 == 2 then
   some true
  else
   some (b1 == 2)).bind fun v2 =>
  bif v2 then
   some (2, 0)
  else
   some (1, 0)

set_option maxHeartbeats 1000000 in
set_option maxRecDepth 1000000 in
theorem tariff_join_ok (n : Nat) (ax1 : Int) (b1 : Int) (r : (Int × Int)) (hm : tariff_join n ax1 b1 = some r) {w : World}  :
  Calls Tryd.prog 51 #[.int .i64 ax1, .int .i64 b1] w fun e w' => e = .returned (.tuple #[.int .i64 r.1, .int .i64 r.2]) ∧ w' = w := by
 unfold tariff_join at hm
 refine calls_of 20 Tryd.func51 rfl rfl rfl ?_
 refine c_seq (c_region (r_assign rfl rfl rfl (r_assign rfl rfl rfl (r_nil (q_then (c_seq (c_block (c_seq (c_region (r_move rfl rfl rfl ?_))))))))))
 refine r_bin rfl rfl rfl rfl rfl ?_
 refine r_move rfl rfl rfl ?_
 obtain ⟨v1, hb1, hm⟩ := bind_some hm
 refine r_mid 3 (fun a w' => w = w' ∧ Has 20 a [(0, .int .i64 ax1), (1, .int .i64 b1), (12, .bool v1)]) ?_ ?_
 ·rintro a wx1 ⟨rfl, hax1⟩
  refine rw_apply hax1 ?_
  refine r_assign rfl rfl rfl (r_nil (q_then ?_))
  rcases cond_some hm with ⟨hb2, hm⟩ | ⟨hb2, hm⟩
  ·refine c_lit 6 rfl hb2 ?_
   refine c_true rfl (c_seq (c_region (r_assign rfl rfl rfl (r_assign rfl rfl rfl (r_nil (q_then (c_ret (q_block_ret (q_then_ret ?_)))))))))
   refine b_retA (vl := [.int .i64 0, .int .i64 13]) rfl ⟨v_tmp rfl, v_tmp rfl, trivial⟩ (by simp) ?_
   obtain rfl := Option.some.inj hm
   exact ⟨rfl, rfl⟩
  ·refine c_lit 6 rfl hb2 ?_
   refine c_false rfl (c_seq (c_region (r_move rfl rfl rfl ?_)))
   refine r_bin rfl rfl rfl rfl rfl ?_
   refine r_move rfl rfl rfl ?_
   obtain ⟨v2, hb3, hm⟩ := bind_some hm
   refine r_mid 3 (fun a w' => w = w' ∧ Has 20 a [(19, .bool v2)]) ?_ ?_
   ·rintro a wx2 ⟨rfl, hax2⟩
    refine rw_apply hax2 ?_
    refine r_assign rfl rfl rfl (r_nil (q_then ?_))
    rcases cond_some hm with ⟨hb4, hm⟩ | ⟨hb4, hm⟩
    ·refine c_lit 13 rfl hb4 ?_
     refine c_true rfl (c_seq (c_region (r_assign rfl rfl rfl (r_assign rfl rfl rfl (r_nil (q_then (c_ret (q_block_ret (q_then_ret ?_)))))))))
     refine b_retA (vl := [.int .i64 2, .int .i64 0]) rfl ⟨v_tmp rfl, v_tmp rfl, trivial⟩ (by simp) ?_
     obtain rfl := Option.some.inj hm
     exact ⟨rfl, rfl⟩
    ·refine c_lit 13 rfl hb4 ?_
     refine c_false rfl (c_skip (q_block (q_then (c_seq (c_region (r_assign rfl rfl rfl (r_assign rfl rfl rfl (r_nil (q_then (c_ret ?_))))))))))
     refine b_retA (vl := [.int .i64 1, .int .i64 0]) rfl ⟨v_tmp rfl, v_tmp rfl, trivial⟩ (by simp) ?_
     obtain rfl := Option.some.inj hm
     exact ⟨rfl, rfl⟩
   ·clear hm
    rcases cond_some hb3 with ⟨hb5, hb3⟩ | ⟨hb5, hb3⟩
    ·refine r_lit 16 rfl hb5 ?_
     refine r_off rfl (by decide) rfl (r_off rfl (by decide) rfl (r_pick_true rfl rfl rfl rfl (r_nil ?_)))
     refine q_next (fun a ha => ?_)
     cases hb3
     exact ⟨rfl, ha.cut (l := [19]) rfl⟩
    ·refine r_lit 16 rfl hb5 ?_
     refine r_move rfl rfl rfl ?_
     refine r_bin rfl rfl rfl rfl rfl ?_
     refine r_pick_false rfl rfl rfl rfl (r_nil ?_)
     refine q_next (fun a ha => ?_)
     cases hb3
     exact ⟨rfl, ha.cut (l := [19]) rfl⟩
 ·clear hm
  rcases cond_some hb1 with ⟨hb6, hb1⟩ | ⟨hb6, hb1⟩
  ·refine r_lit 9 rfl hb6 ?_
   refine r_off rfl (by decide) rfl (r_off rfl (by decide) rfl (r_pick_true rfl rfl rfl rfl (r_nil ?_)))
   refine q_next (fun a ha => ?_)
   cases hb1
   exact ⟨rfl, ha.cut (l := [0, 1, 12]) rfl⟩
  ·refine r_lit 9 rfl hb6 ?_
   refine r_move rfl rfl rfl ?_
   refine r_bin rfl rfl rfl rfl rfl ?_
   refine r_pick_false rfl rfl rfl rfl (r_nil ?_)
   refine q_next (fun a ha => ?_)
   cases hb1
   exact ⟨rfl, ha.cut (l := [0, 1, 12]) rfl⟩


def tariff_args (_n : Nat) (op1 : Int) : Option Int :=
 bif decide (op1 ≤ 4) then
  some 0
 else
  bif op1 == 14 then
   some 1
  else
   bif op1 == 11 then
    some 3
   else
    some 2

set_option maxHeartbeats 1000000 in
set_option maxRecDepth 1000000 in
theorem tariff_args_ok (n : Nat) (op1 : Int) (r : Int) (hm : tariff_args n op1 = some r) {w : World}  :
  Calls Tryd.prog 65 #[.int .i64 op1] w fun e w' => e = .returned (.int .i64 r) ∧ w' = w := by
 unfold tariff_args at hm
 refine calls_of 12 Tryd.func65 rfl rfl rfl ?_
 refine c_seq (c_region (r_assign rfl rfl rfl (r_nil (q_then (c_seq (c_block (c_seq (c_region (r_move rfl rfl rfl ?_)))))))))
 refine r_bin rfl rfl rfl rfl rfl ?_
 refine r_assign rfl rfl rfl (r_nil (q_then ?_))
 rcases cond_some hm with ⟨hb1, hm⟩ | ⟨hb1, hm⟩
 ·refine c_lit 3 rfl hb1 ?_
  refine c_true rfl (c_seq (c_region (r_assign rfl rfl rfl (r_nil (q_then (c_ret (q_block_ret (q_then_ret ?_))))))))
  refine b_ret1 rfl rfl ?_
  obtain rfl := Option.some.inj hm
  exact ⟨rfl, rfl⟩
 ·refine c_lit 3 rfl hb1 ?_
  refine c_false rfl (c_seq (c_region (r_move rfl rfl rfl ?_)))
  refine r_bin rfl rfl rfl rfl rfl ?_
  refine r_assign rfl rfl rfl (r_nil (q_then ?_))
  rcases cond_some hm with ⟨hb2, hm⟩ | ⟨hb2, hm⟩
  ·refine c_lit 6 rfl hb2 ?_
   refine c_true rfl (c_seq (c_region (r_assign rfl rfl rfl (r_nil (q_then (c_ret (q_block_ret (q_then_ret ?_))))))))
   refine b_ret1 rfl rfl ?_
   obtain rfl := Option.some.inj hm
   exact ⟨rfl, rfl⟩
  ·refine c_lit 6 rfl hb2 ?_
   refine c_false rfl (c_seq (c_region (r_move rfl rfl rfl ?_)))
   refine r_bin rfl rfl rfl rfl rfl ?_
   refine r_assign rfl rfl rfl (r_nil (q_then ?_))
   rcases cond_some hm with ⟨hb3, hm⟩ | ⟨hb3, hm⟩
   ·refine c_lit 9 rfl hb3 ?_
    refine c_true rfl (c_seq (c_region (r_assign rfl rfl rfl (r_nil (q_then (c_ret (q_block_ret (q_then_ret ?_))))))))
    refine b_ret1 rfl rfl ?_
    obtain rfl := Option.some.inj hm
    exact ⟨rfl, rfl⟩
   ·refine c_lit 9 rfl hb3 ?_
    refine c_false rfl (c_skip (q_block (q_then (c_seq (c_region (r_assign rfl rfl rfl (r_nil (q_then (c_ret ?_)))))))))
    refine b_ret1 rfl rfl ?_
    obtain rfl := Option.some.inj hm
    exact ⟨rfl, rfl⟩


theorem u81 : Tryd.prog.underlying 81 = some (.slice 3) := by kernel_rfl

def slices_IndexFunc_int_int_L1 (n : Nat) (s1 : (List Int)) (f1 : (Int → Option Bool)) (kont1 : Option Int) : Nat → Int → Option Int
 | 0, _ => none
 | mx1 + 1, i1 =>
  bif decide (i1 < (s1.length : Int)) then
   (ix s1 i1).bind fun ex1 =>
   (f1 ex1).bind fun v1 =>
   bif v1 then
    some i1
   else
    slices_IndexFunc_int_int_L1 n s1 f1 kont1 mx1 (iadd .i64 i1 1)
  else
   kont1

theorem slices_IndexFunc_int_int_L1_s (n : Nat) (s1 : (List Int)) (f1 : (Int → Option Bool)) (kont1 : Option Int) (mx1 : Nat) (i1 : Int) : slices_IndexFunc_int_int_L1 n s1 f1 kont1 (mx1 + 1) i1 =
  bif decide (i1 < (s1.length : Int)) then
   (ix s1 i1).bind fun ex1 =>
   (f1 ex1).bind fun v1 =>
   bif v1 then
    some i1
   else
    slices_IndexFunc_int_int_L1 n s1 f1 kont1 mx1 (iadd .i64 i1 1)
  else
   kont1 := rfl

def slices_IndexFunc_int_int (n : Nat) (s1 : (List Int)) (f1 : (Int → Option Bool)) : Option Int :=
 slices_IndexFunc_int_int_L1 n s1 f1 (
  some (-1)) n 0

set_option maxHeartbeats 1000000 in
set_option maxRecDepth 1000000 in
theorem slices_IndexFunc_int_int_ok (n : Nat) (s1 : (List Int)) (f1 : (Int → Option Bool)) (r : Int) (hm : slices_IndexFunc_int_int n s1 f1 = some r) {w : World} {F : Frz} (hs : Sat F w) {as2 : Option Addr} {ns2 : Nat} {cs2 : Nat} {fvf1 : Value} (hs2 : SlR (Rp.int .i64) F as2 ns2 cs2 s1) (hpff1 : GFn Tryd.prog F fvf1 (fun _ l v => ∃ (q0 : Int) (b : Bool), l = [.int .i64 q0] ∧ v = some (.bool b) ∧ f1 q0 = some b)) :
  Calls Tryd.prog 78 #[.slice as2 ns2 cs2, fvf1] w fun e w' => ∃ v F' O', e = .returned v ∧ HS F w [] F' O' w' ∧ (v = .int .i64 r ∧ O' = []) := by
 unfold slices_IndexFunc_int_int at hm
 have h := HS.init hs
 refine calls_of 19 Tryd.func78 rfl rfl rfl ?_
 refine c_seq (c_region (r_assign rfl rfl rfl (r_nil (q_then (c_seq (c_seq (c_region (r_move rfl rfl rfl ?_))))))))
 refine r_lenS hs2.len u81 rfl rfl rfl ?_
 refine r_move rfl rfl rfl (r_nil (q_then (c_block ?_)))
 intro a hax3
 obtain ⟨kont1, hkont1⟩ : ∃ kont1 : Option Int, kont1 = (
       some (-1)) := ⟨_, rfl⟩
 replace hm : (fun m (s : Int) => slices_IndexFunc_int_int_L1 n s1 f1 kont1 m s) n 0 = some r := by rw [hkont1]; exact hm
 refine loopX (id := 0) (fun m (s : Int) => slices_IndexFunc_int_int_L1 n s1 f1 kont1 m s) (fun (y : Unit) => kont1) r (fun (s : Int) a w' => ∃ (Fx1 : Frz), Frz.le F Fx1 ∧ HS F w [] Fx1 [] w' ∧ Has 19 a [(0, .slice as2 ns2 cs2), (1, fvf1), (7, .int .i64 (s1.length : Int)), (8, .int .i64 s)]) (fun (y : Unit) a w' => ∃ (Fx2 : Frz), Frz.le F Fx2 ∧ HS F w [] Fx2 [] w' ∧ Has 19 a []) (fun _ => rfl) ?_ ?_ hm ⟨_, Frz.refl _, h.pick [] (by decide) rfl, hax3.cut (l := [0, 1, 7, 8]) rfl⟩
 ·clear hm; rintro _u a wx1 hm ⟨Fx2, hF2, hx2, hax1⟩
  rw [hkont1] at hm
  refine qw_apply (e := .exit 0) hax1 ?_
  refine q_block_hit (q_then (c_seq (c_region (r_assign rfl rfl rfl (r_nil (q_then (c_ret ?_)))))))
  refine b_ret1 rfl rfl ?_
  obtain rfl := Option.some.inj hm
  exact ⟨_, _, _, rfl, hx2.pick [] (by decide) rfl, rfl, rfl⟩
 ·clear hm hkont1; intro hk1 mx1 K ihx1
  rintro i1 a wx2 hm ⟨Fx1, hF1, hx1, hax2⟩
  simp only [slices_IndexFunc_int_int_L1_s] at hm
  refine cw_apply hax2 ?_
  refine c_seq (c_region ?_)
  refine r_bin rfl rfl rfl rfl rfl ?_
  refine r_nil (q_then (c_seq ?_))
  rcases cond_some hm with ⟨hb1, hm⟩ | ⟨hb1, hm⟩
  ·refine c_lit 9 rfl hb1 ?_
   refine c_true rfl (c_skip (q_then (c_seq (c_block (c_seq (c_region (r_move rfl rfl rfl (r_assign rfl rfl rfl (r_nil (q_then (c_seq (c_region (r_move rfl rfl rfl (r_move rfl rfl rfl (r_move rfl rfl rfl ?_)))))))))))))))
   obtain ⟨ex1, he1, hm⟩ := bind_some hm
   refine r_findex (r := (Rp.int .i64)) u81 sz3 rfl rfl rfl rfl (hs2.mono hF1) he1 ?_
   intro b1 o1 cs1 hf1 hr1
   have hc1 : cs1 = [.int .i64 ex1] := hr1
   subst hc1
   refine r_loadF1 (j := 0) ag3 rfl rfl hx1 hf1 rfl rfl ?_
   obtain ⟨v1, hv1, hm⟩ := bind_some hm
   refine r_callGF (hpff1.mono hF1) rfl rfl rfl rfl hx1 ⟨_, _, rfl, rfl, hv1⟩ ?_
   intro Fx3 wx3 hF3 hx3
   refine r_nil (q_then ?_)
   rcases cond_some hm with ⟨hb2, hm⟩ | ⟨hb2, hm⟩
   ·refine c_lit 16 rfl hb2 ?_
    refine c_true rfl (c_seq (c_region (r_move rfl rfl rfl (r_assign rfl rfl rfl (r_nil (q_then (c_ret (q_block_ret (q_then_ret (q_then_ret (q_block_ret (q_then_ret ?_))))))))))))
    refine b_ret1 rfl rfl ?_
    obtain rfl := Option.some.inj hm
    exact ⟨_, _, _, rfl, hx3.pick [] (by decide) rfl, rfl, rfl⟩
   ·refine c_lit 16 rfl hb2 ?_
    refine c_false rfl (c_skip (q_block (q_then (c_region ?_))))
    refine r_bin rfl rfl rfl rfl rfl ?_
    refine r_move rfl rfl rfl (r_nil ?_)
    refine q_next (fun a ha => ihx1 (iadd .i64 i1 1) a _ hm ?_)
    exact ⟨_, (hF1.trans hF3), hx3.pick [] (by decide) rfl, ha.cut (l := [0, 1, 7, 8]) rfl⟩
  ·refine c_lit 9 rfl hb1 ?_
   refine c_false rfl (c_exit (q_then_exit (q_then_exit ?_)))
   refine fun a ha => hk1 () a _ hm ?_
   exact ⟨_, hF1, hx1.pick [] (by decide) rfl, ha.cut (l := []) rfl⟩


theorem ent78 : Ent Tryd.prog 78 := fun _ _ => by kernel_rfl

def slices_ContainsFunc_int_int (n : Nat) (s1 : (List Int)) (f1 : (Int → Option Bool)) : Option Bool :=
 (slices_IndexFunc_int_int n s1 f1).bind fun v1 =>
 some (decide (0 ≤ v1))

set_option maxHeartbeats 1000000 in
set_option maxRecDepth 1000000 in
theorem slices_ContainsFunc_int_int_ok (n : Nat) (s1 : (List Int)) (f1 : (Int → Option Bool)) (r : Bool) (hm : slices_ContainsFunc_int_int n s1 f1 = some r) {w : World} {F : Frz} (hs : Sat F w) {as2 : Option Addr} {ns2 : Nat} {cs2 : Nat} {fvf1 : Value} (hs2 : SlR (Rp.int .i64) F as2 ns2 cs2 s1) (hpff1 : GFn Tryd.prog F fvf1 (fun _ l v => ∃ (q0 : Int) (b : Bool), l = [.int .i64 q0] ∧ v = some (.bool b) ∧ f1 q0 = some b)) :
  Calls Tryd.prog 68 #[.slice as2 ns2 cs2, fvf1] w fun e w' => ∃ v F' O', e = .returned v ∧ HS F w [] F' O' w' ∧ (v = .bool r ∧ O' = []) := by
 unfold slices_ContainsFunc_int_int at hm
 have h := HS.init hs
 refine calls_of 9 Tryd.func68 rfl rfl rfl ?_
 refine c_seq (c_region (r_assign rfl rfl rfl (r_nil (q_then (c_seq (c_region (r_move rfl rfl rfl (r_move rfl rfl rfl ?_))))))))
 obtain ⟨v1, hv1, hm⟩ := bind_some hm
 refine r_callG0 ent78 rfl rfl rfl rfl h (slices_IndexFunc_int_int_ok _ _ _ _ hv1 h.sat hs2 hpff1) ?_
 rintro _ Fx1 _ wx1 hF1 hx1 ⟨rfl, rfl⟩
 refine r_bin rfl rfl rfl rfl rfl ?_
 refine r_assign rfl rfl rfl (r_nil (q_then (c_ret ?_)))
 refine b_ret1 rfl rfl ?_
 obtain rfl := Option.some.inj hm
 exact ⟨_, _, _, rfl, hx1.pick [] (by decide) rfl, rfl, rfl⟩


def tariff_all_1 (_n : Nat) (nx1 : Int) (cap1 : Int) : Option Bool :=
 some (nx1 != cap1)

set_option maxHeartbeats 1000000 in
set_option maxRecDepth 1000000 in
theorem tariff_all_1_ok (n : Nat) (nx1 : Int) (cap1 : Int) (r : Bool) (hm : tariff_all_1 n nx1 cap1 = some r) {w : World} {F : Frz} (hs : Sat F w) {bcap1 : Nat} (hccap1 : FC F bcap1 0 [.int .i64 cap1]) :
  Calls Tryd.prog 69 #[.int .i64 nx1, .pointer (some ⟨bcap1, 0, none⟩)] w fun e w' => e = .returned (.bool r) ∧ w' = w := by
 unfold tariff_all_1 at hm
 have h := HS.init hs
 refine calls_of 7 Tryd.func69 rfl rfl rfl ?_
 refine c_seq (c_region (r_assign rfl rfl rfl (r_nil (q_then (c_seq (c_region (r_move rfl rfl rfl ?_)))))))
 refine r_loadF1 (j := 0) ag3 rfl rfl h hccap1 rfl rfl ?_
 refine r_bin rfl rfl rfl rfl rfl ?_
 refine r_assign rfl rfl rfl (r_nil (q_then (c_ret ?_)))
 refine b_ret1 rfl rfl ?_
 obtain rfl := Option.some.inj hm
 exact ⟨rfl, rfl⟩


theorem ent69 : Ent Tryd.prog 69 := fun _ _ => by kernel_rfl

theorem ent68 : Ent Tryd.prog 68 := fun _ _ => by kernel_rfl

def tariff_all (n : Nat) (k1 : Int) (l1 : (List Int)) (want1 : Int) : Option (Int × Int) :=
 (slices_ContainsFunc_int_int n l1 (fun (q0 : Int) => tariff_all_1 n q0 want1)).bind fun v1 =>
 bif v1 then
  some (0, 13)
 else
  some (k1, 0)

set_option maxHeartbeats 1000000 in
set_option maxRecDepth 1000000 in
theorem tariff_all_ok (n : Nat) (k1 : Int) (l1 : (List Int)) (want1 : Int) (r : (Int × Int)) (hm : tariff_all n k1 l1 want1 = some r) {w : World} {F : Frz} (hs : Sat F w) {as1 : Option Addr} {ns1 : Nat} {cs1 : Nat} (hs1 : SlR (Rp.int .i64) F as1 ns1 cs1 l1) :
  Calls Tryd.prog 50 #[.int .i64 k1, .slice as1 ns1 cs1, .int .i64 want1] w fun e w' => ∃ v F' O', e = .returned v ∧ HS F w [] F' O' w' ∧ (v = .tuple #[.int .i64 r.1, .int .i64 r.2] ∧ O' = []) := by
 unfold tariff_all at hm
 have h := HS.init hs
 refine calls_of 12 Tryd.func50 rfl rfl rfl ?_
 refine c_seq (c_region ?_)
 refine r_box rfl rfl rfl rfl h ?_
 intro b1 wx1 hx1
 refine r_assign rfl rfl rfl (r_assign rfl rfl rfl (r_nil (q_then (c_seq (c_seq (c_region (r_move rfl rfl rfl ?_)))))))
 obtain ⟨Fx1, hF1, hx2, hc1⟩ := freezeBox hx1 (i := 0) rfl
 refine r_makeFunc rfl rfl rfl ?_
 obtain ⟨v1, hv1, hm⟩ := bind_some hm
 refine r_callG0 ent68 rfl rfl rfl rfl hx2 (slices_ContainsFunc_int_int_ok _ _ _ _ hv1 hx2.sat (hs1.mono hF1) (show GFn Tryd.prog _ (.func (.func 69) #[] #[.pointer (some ⟨b1, 0, none⟩)]) (fun _ l v => ∃ (q0 : Int) (b : Bool), l = [.int .i64 q0] ∧ v = some (.bool b) ∧ (fun (q0 : Int) => tariff_all_1 n q0 want1) q0 = some b) from ⟨69, #[.pointer (some ⟨b1, 0, none⟩)], rfl, ent69, fun F' hF' args r w hsat h => by
                               obtain ⟨q0, b, rfl, hv, hb⟩ := h
                               obtain rfl := Option.some.inj hv
                               exact (tariff_all_1_ok n q0 want1 _ hb hsat (FC.mono hF' hc1)).mono (by rintro _ _ ⟨rfl, rfl⟩; exact ⟨_, F', [], rfl, HS.init hsat, rfl, rfl⟩)⟩)) ?_
 rintro _ Fx2 _ wx2 hF2 hx3 ⟨rfl, rfl⟩
 refine r_nil (q_then ?_)
 rcases cond_some hm with ⟨hb1, hm⟩ | ⟨hb1, hm⟩
 ·refine c_lit 10 rfl hb1 ?_
  refine c_true rfl (c_seq (c_region (r_assign rfl rfl rfl (r_assign rfl rfl rfl (r_nil (q_then (c_ret (q_then_ret ?_))))))))
  refine b_retA (vl := [.int .i64 0, .int .i64 13]) rfl ⟨v_tmp rfl, v_tmp rfl, trivial⟩ (by simp) ?_
  obtain rfl := Option.some.inj hm
  exact ⟨_, _, _, rfl, hx3.pick [] (by decide) rfl, rfl, rfl⟩
 ·refine c_lit 10 rfl hb1 ?_
  refine c_false rfl (c_skip (q_then (c_seq (c_region (r_move rfl rfl rfl (r_assign rfl rfl rfl (r_assign rfl rfl rfl (r_nil (q_then (c_ret ?_))))))))))
  refine b_retA (vl := [.int .i64 k1, .int .i64 0]) rfl ⟨v_tmp rfl, v_tmp rfl, trivial⟩ (by simp) ?_
  obtain rfl := Option.some.inj hm
  exact ⟨_, _, _, rfl, hx3.pick [] (by decide) rfl, rfl, rfl⟩


theorem ent50 : Ent Tryd.prog 50 := fun _ _ => by kernel_rfl

theorem ent51 : Ent Tryd.prog 51 := fun _ _ => by kernel_rfl

theorem ent36 : Ent Tryd.prog 36 := fun _ _ => by kernel_rfl

theorem ap81 : AppIs Tryd.prog 81 3 1 8 := AppIs.of (z := .int .i64 0) (by kernel_rfl) (by kernel_rfl) rfl (by decide) (by decide)

def tariff_typed_L1 (n : Nat) (rec_tariff_typed : Expr → (List Bs) → Option (Int × Int)) (x1 : Expr) (names1 : (List Bs)) (kont1 : (List Int) → Option (Int × Int)) : Nat → Int → (List Int) → Option (Int × Int)
 | 0, _, _ => none
 | mx1 + 1, i1, l1 =>
  bif decide (i1 < (x1.Args.length : Int)) then
   (ix x1.Args i1).bind fun ex13 =>
   (rec_tariff_typed ex13 names1).bind fun v13 =>
   bif v13.2 != 0 then
    some (0, v13.2)
   else
    (app 8 l1 [v13.1]).bind fun l3 =>
    tariff_typed_L1 n rec_tariff_typed x1 names1 kont1 mx1 (iadd .i64 i1 1) l3
  else
   kont1 l1

theorem tariff_typed_L1_s (n : Nat) (rec_tariff_typed : Expr → (List Bs) → Option (Int × Int)) (x1 : Expr) (names1 : (List Bs)) (kont1 : (List Int) → Option (Int × Int)) (mx1 : Nat) (i1 : Int) (l1 : List Int) : tariff_typed_L1 n rec_tariff_typed x1 names1 kont1 (mx1 + 1) i1 l1 =
  bif decide (i1 < (x1.Args.length : Int)) then
   (ix x1.Args i1).bind fun ex13 =>
   (rec_tariff_typed ex13 names1).bind fun v13 =>
   bif v13.2 != 0 then
    some (0, v13.2)
   else
    (app 8 l1 [v13.1]).bind fun l3 =>
    tariff_typed_L1 n rec_tariff_typed x1 names1 kont1 mx1 (iadd .i64 i1 1) l3
  else
   kont1 l1 := rfl

def tariff_typed : Nat → Expr → (List Bs) → Option (Int × Int)
 | 0, _, _ => none
 | n + 1, x1, names1 =>
  tariff_typed_L1 n (tariff_typed n) x1 names1 (fun (l2 : List Int) =>
   (bif x1.Op == 1 then
    some true
   else
    some (x1.Op == 4)).bind fun v1 =>
   bif v1 then
    (slices_Contains_string_string n names1 x1.Name).bind fun v2 =>
    bif !v2 then
     some (0, 11)
    else
     bif x1.Op == 4 then
      some (2, 0)
     else
      some (1, 0)
   else
    (bif x1.Op == 0 then
     some true
    else
     bif x1.Op == 2 then
      some true
     else
      some (x1.Op == 3)).bind fun v3 =>
    bif v3 then
     some (1, 0)
    else
     (bif x1.Op == 12 then
      some true
     else
      some (x1.Op == 13)).bind fun v4 =>
     bif v4 then
      (tariff_all n 0 l2 1).bind fun v5 =>
      some (v5.1, v5.2)
     else
      (bif x1.Op == 14 then
       some true
      else
       bif x1.Op == 15 then
        some true
       else
        some (x1.Op == 16)).bind fun v6 =>
      bif v6 then
       (tariff_all n 0 l2 0).bind fun v7 =>
       some (v7.1, v7.2)
      else
       bif x1.Op == 11 then
        (ix l2 0).bind fun ex1 =>
        bif ex1 != 0 then
         some (0, 13)
        else
         (ix l2 1).bind fun ex2 =>
         (ix l2 2).bind fun ex3 =>
         (tariff_join n ex2 ex3).bind fun v8 =>
         some (v8.1, v8.2)
       else
        bif x1.Op == 7 then
         (ix l2 0).bind fun ex4 =>
         (bif ex4 == 2 then
          (ix l2 1).bind fun ex7 =>
          some (ex7 == 2)
         else
          some false).bind fun v9 =>
         bif v9 then
          some (0, 13)
         else
          (ix l2 0).bind fun ex5 =>
          (ix l2 1).bind fun ex6 =>
          (tariff_join n ex5 ex6).bind fun v10 =>
          some (v10.1, v10.2)
        else
         bif x1.Op == 8 then
          (ix x1.Args 1).bind fun ex8 =>
          bif ex8.Op != 0 then
           some (0, 13)
          else
           bif ex8.N == 0 then
            some (0, 14)
           else
            (ix l2 0).bind fun ex9 =>
            (ix l2 1).bind fun ex10 =>
            (tariff_join n ex9 ex10).bind fun v11 =>
            some (v11.1, v11.2)
         else
          (ix l2 0).bind fun ex11 =>
          (ix l2 1).bind fun ex12 =>
          (tariff_join n ex11 ex12).bind fun v12 =>
          some (v12.1, v12.2)) n 0 ([] : List Int)

theorem tariff_typed_s (n : Nat) (x1 : Expr) (names1 : (List Bs)) : tariff_typed (n + 1) x1 names1 =
  tariff_typed_L1 n (tariff_typed n) x1 names1 (fun (l2 : List Int) =>
   (bif x1.Op == 1 then
    some true
   else
    some (x1.Op == 4)).bind fun v1 =>
   bif v1 then
    (slices_Contains_string_string n names1 x1.Name).bind fun v2 =>
    bif !v2 then
     some (0, 11)
    else
     bif x1.Op == 4 then
      some (2, 0)
     else
      some (1, 0)
   else
    (bif x1.Op == 0 then
     some true
    else
     bif x1.Op == 2 then
      some true
     else
      some (x1.Op == 3)).bind fun v3 =>
    bif v3 then
     some (1, 0)
    else
     (bif x1.Op == 12 then
      some true
     else
      some (x1.Op == 13)).bind fun v4 =>
     bif v4 then
      (tariff_all n 0 l2 1).bind fun v5 =>
      some (v5.1, v5.2)
     else
      (bif x1.Op == 14 then
       some true
      else
       bif x1.Op == 15 then
        some true
       else
        some (x1.Op == 16)).bind fun v6 =>
      bif v6 then
       (tariff_all n 0 l2 0).bind fun v7 =>
       some (v7.1, v7.2)
      else
       bif x1.Op == 11 then
        (ix l2 0).bind fun ex1 =>
        bif ex1 != 0 then
         some (0, 13)
        else
         (ix l2 1).bind fun ex2 =>
         (ix l2 2).bind fun ex3 =>
         (tariff_join n ex2 ex3).bind fun v8 =>
         some (v8.1, v8.2)
       else
        bif x1.Op == 7 then
         (ix l2 0).bind fun ex4 =>
         (bif ex4 == 2 then
          (ix l2 1).bind fun ex7 =>
          some (ex7 == 2)
         else
          some false).bind fun v9 =>
         bif v9 then
          some (0, 13)
         else
          (ix l2 0).bind fun ex5 =>
          (ix l2 1).bind fun ex6 =>
          (tariff_join n ex5 ex6).bind fun v10 =>
          some (v10.1, v10.2)
        else
         bif x1.Op == 8 then
          (ix x1.Args 1).bind fun ex8 =>
          bif ex8.Op != 0 then
           some (0, 13)
          else
           bif ex8.N == 0 then
            some (0, 14)
           else
            (ix l2 0).bind fun ex9 =>
            (ix l2 1).bind fun ex10 =>
            (tariff_join n ex9 ex10).bind fun v11 =>
            some (v11.1, v11.2)
         else
          (ix l2 0).bind fun ex11 =>
          (ix l2 1).bind fun ex12 =>
          (tariff_join n ex11 ex12).bind fun v12 =>
          some (v12.1, v12.2)) n 0 ([] : List Int) := rfl

set_option maxHeartbeats 1000000 in
set_option maxRecDepth 1000000 in
theorem tariff_typed_all (n : Nat) : (∀ (x1 : Expr) (names1 : (List Bs)) (r : (Int × Int)) (_ : tariff_typed n x1 names1 = some r) {w : World} {F : Frz} (_ : Sat F w) {as1 : Option Addr} {ns1 : Nat} {cs1 : Nat} {as2 : Option Addr} {ns2 : Nat} {cs2 : Nat} (_ : SlR rp_Expr F as1 ns1 cs1 x1.Args) (_ : SlR Rp.str F as2 ns2 cs2 names1), Calls Tryd.prog 36 #[.agg #[.int .i64 x1.Op, .int .i64 x1.N, vs x1.Name, .slice as1 ns1 cs1], .slice as2 ns2 cs2] w fun e w' => ∃ v F' O', e = .returned v ∧ HS F w [] F' O' w' ∧ (v = .tuple #[.int .i64 r.1, .int .i64 r.2] ∧ O' = [])) := by
 induction n with
 | zero =>
  ·intro x1 names1 r hm
   exact absurd (show (none : Option (Int × Int)) = some r from hm) (by simp)
 | succ n ih =>
  ·intro x1 names1 r hm w F hs as1 ns1 cs1 as2 ns2 cs2 hs1 hs2
   rw [tariff_typed_s] at hm
   have h := HS.init hs
   refine calls_of 113 Tryd.func36 rfl rfl rfl ?_
   refine c_seq (c_region ?_)
   refine r_box rfl rfl rfl rfl h ?_
   intro b1 wx1 hx1
   refine r_assign rfl rfl rfl (r_assign rfl rfl rfl (r_nil (q_then (c_seq (c_region (r_assign rfl rfl rfl (r_nil (q_then (c_seq (c_seq (c_region ?_)))))))))))
   refine r_fieldAddr fa24_3 rfl rfl rfl ?_
   refine r_loadB1 ag22 rfl rfl hx1 rfl (i := 0) rfl rfl ?_
   refine r_lenS hs1.len u22 rfl rfl rfl ?_
   refine r_move rfl rfl rfl (r_nil (q_then (c_block ?_)))
   have hx2 := hx1.nilRow 3 1
   intro a hax19
   obtain ⟨kont1, hkont1⟩ : ∃ kont1 : (List Int) → Option (Int × Int), kont1 = (fun (l2 : List Int) =>
       (bif x1.Op == 1 then
        some true
       else
        some (x1.Op == 4)).bind fun v1 =>
       bif v1 then
        (slices_Contains_string_string n names1 x1.Name).bind fun v2 =>
        bif !v2 then
         some (0, 11)
        else
         bif x1.Op == 4 then
          some (2, 0)
         else
          some (1, 0)
       else
        (bif x1.Op == 0 then
         some true
        else
         bif x1.Op == 2 then
          some true
         else
          some (x1.Op == 3)).bind fun v3 =>
        bif v3 then
         some (1, 0)
        else
         (bif x1.Op == 12 then
          some true
         else
          some (x1.Op == 13)).bind fun v4 =>
         bif v4 then
          (tariff_all n 0 l2 1).bind fun v5 =>
          some (v5.1, v5.2)
         else
          (bif x1.Op == 14 then
           some true
          else
           bif x1.Op == 15 then
            some true
           else
            some (x1.Op == 16)).bind fun v6 =>
          bif v6 then
           (tariff_all n 0 l2 0).bind fun v7 =>
           some (v7.1, v7.2)
          else
           bif x1.Op == 11 then
            (ix l2 0).bind fun ex1 =>
            bif ex1 != 0 then
             some (0, 13)
            else
             (ix l2 1).bind fun ex2 =>
             (ix l2 2).bind fun ex3 =>
             (tariff_join n ex2 ex3).bind fun v8 =>
             some (v8.1, v8.2)
           else
            bif x1.Op == 7 then
             (ix l2 0).bind fun ex4 =>
             (bif ex4 == 2 then
              (ix l2 1).bind fun ex7 =>
              some (ex7 == 2)
             else
              some false).bind fun v9 =>
             bif v9 then
              some (0, 13)
             else
              (ix l2 0).bind fun ex5 =>
              (ix l2 1).bind fun ex6 =>
              (tariff_join n ex5 ex6).bind fun v10 =>
              some (v10.1, v10.2)
            else
             bif x1.Op == 8 then
              (ix x1.Args 1).bind fun ex8 =>
              bif ex8.Op != 0 then
               some (0, 13)
              else
               bif ex8.N == 0 then
                some (0, 14)
               else
                (ix l2 0).bind fun ex9 =>
                (ix l2 1).bind fun ex10 =>
                (tariff_join n ex9 ex10).bind fun v11 =>
                some (v11.1, v11.2)
             else
              (ix l2 0).bind fun ex11 =>
              (ix l2 1).bind fun ex12 =>
              (tariff_join n ex11 ex12).bind fun v12 =>
              some (v12.1, v12.2)) := ⟨_, rfl⟩
   replace hm : (fun m (s : Int × List Int) => tariff_typed_L1 n (tariff_typed n) x1 names1 kont1 m s.1 s.2) n (0, ([] : List Int)) = some r := by rw [hkont1]; exact hm
   refine loopX (id := 0) (fun m (s : Int × List Int) => tariff_typed_L1 n (tariff_typed n) x1 names1 kont1 m s.1 s.2) (fun (y : List Int) => kont1 y) r (fun (s : Int × List Int) a w' => ∃ (Fx1 : Frz) (as3 : Option Addr) (ns3 : Nat) (cs3 : Nat) (xss3 : List Value), Frz.le F Fx1 ∧ HS F w [] Fx1 [.row 3 1 as3 ns3 cs3 xss3, .box b1 24 [.int .i64 x1.Op, .int .i64 x1.N, vs x1.Name, .slice as1 ns1 cs1]] w' ∧ (RowN (Rp.int .i64) Fx1 ns3 xss3 s.2) ∧ Has 113 a [(1, .slice as2 ns2 cs2), (2, .pointer (some ⟨b1, 0, none⟩)), (6, .slice as3 ns3 cs3), (13, .slice as1 ns1 cs1), (14, .int .i64 (x1.Args.length : Int)), (15, .int .i64 s.1)]) (fun (y : List Int) a w' => ∃ (Fx2 : Frz) (as4 : Option Addr) (ns4 : Nat) (cs4 : Nat) (xss4 : List Value), Frz.le F Fx2 ∧ HS F w [] Fx2 [.row 3 1 as4 ns4 cs4 xss4, .box b1 24 [.int .i64 x1.Op, .int .i64 x1.N, vs x1.Name, .slice as1 ns1 cs1]] w' ∧ (RowN (Rp.int .i64) Fx2 ns4 xss4 y) ∧ Has 113 a [(1, .slice as2 ns2 cs2), (2, .pointer (some ⟨b1, 0, none⟩)), (6, .slice as4 ns4 cs4)]) (fun _ => rfl) ?_ ?_ hm ⟨_, none, 0, 0, [], Frz.refl _, hx2.pick [0, 1] (by decide) rfl, ((show RowN (Rp.int .i64) _ 0 [] [] from ⟨rfl, rfl⟩)), hax19.cut (l := [1, 2, 6, 13, 14, 15]) rfl⟩
   ·clear hm; rintro l2 a wx2 hm ⟨Fx2, as4, ns4, cs4, xss4, hF2, hx4, hs4, hax1⟩
    rw [hkont1] at hm
    replace hm := hm
    refine qw_apply (e := .exit 0) hax1 ?_
    refine q_block_hit (q_then (c_seq (c_seq (c_region ?_))))
    refine r_fieldAddr fa24_0 rfl rfl rfl ?_
    refine r_loadB1 ag3 rfl rfl hx4 rfl (i := 1) rfl rfl ?_
    refine r_nil (q_then (c_block (c_seq (c_seq (c_region ?_)))))
    refine r_bin rfl rfl rfl rfl rfl ?_
    refine r_assign rfl rfl rfl (r_nil (q_then ?_))
    obtain ⟨v1, hb1, hm⟩ := bind_some hm
    refine c_midT (fun a w' => wx2 = w' ∧ Has 113 a [(1, .slice as2 ns2 cs2), (2, .pointer (some ⟨b1, 0, none⟩)), (6, .slice as4 ns4 cs4), (34, .int .i64 x1.Op), (35, .bool v1)]) ?_ ?_
    ·rintro a wx3 ⟨rfl, hax2⟩
     refine cw_apply hax2 ?_
     rcases cond_some hm with ⟨hb2, hm⟩ | ⟨hb2, hm⟩
     ·refine c_lit 35 rfl hb2 ?_
      refine c_true rfl (c_seq (c_seq (c_region (r_move rfl rfl rfl ?_))))
      refine r_fieldAddr fa24_2 rfl rfl rfl ?_
      refine r_loadB1 ag9 rfl rfl hx4 rfl (i := 1) rfl rfl ?_
      obtain ⟨v2, hv1, hm⟩ := bind_some hm
      refine r_callP0 ent48 rfl rfl rfl rfl (slices_Contains_string_string_ok _ _ _ _ hv1 hx4.sat (hs2.mono hF2)) ?_
      refine r_not rfl rfl rfl (r_nil (q_then ?_))
      rcases cond_some hm with ⟨hb3, hm⟩ | ⟨hb3, hm⟩
      ·refine c_lit 42 rfl hb3 ?_
       refine c_true rfl (c_seq (c_region (r_assign rfl rfl rfl (r_assign rfl rfl rfl (r_nil (q_then (c_ret (q_then_ret (q_block_ret (q_then_ret ?_))))))))))
       refine b_retA (vl := [.int .i64 0, .int .i64 11]) rfl ⟨v_tmp rfl, v_tmp rfl, trivial⟩ (by simp) ?_
       obtain rfl := Option.some.inj hm
       exact ⟨_, _, _, rfl, hx4.pick [] (by decide) rfl, rfl, rfl⟩
      ·refine c_lit 42 rfl hb3 ?_
       refine c_false rfl (c_skip (q_then (c_seq (c_seq (c_region ?_)))))
       refine r_fieldAddr fa24_0 rfl rfl rfl ?_
       refine r_loadB1 ag3 rfl rfl hx4 rfl (i := 1) rfl rfl ?_
       refine r_bin rfl rfl rfl rfl rfl ?_
       refine r_nil (q_then ?_)
       rcases cond_some hm with ⟨hb4, hm⟩ | ⟨hb4, hm⟩
       ·refine c_lit 45 rfl hb4 ?_
        refine c_true rfl (c_seq (c_region (r_assign rfl rfl rfl (r_assign rfl rfl rfl (r_nil (q_then (c_ret (q_then_ret (q_block_ret (q_then_ret ?_))))))))))
        refine b_retA (vl := [.int .i64 2, .int .i64 0]) rfl ⟨v_tmp rfl, v_tmp rfl, trivial⟩ (by simp) ?_
        obtain rfl := Option.some.inj hm
        exact ⟨_, _, _, rfl, hx4.pick [] (by decide) rfl, rfl, rfl⟩
       ·refine c_lit 45 rfl hb4 ?_
        refine c_false rfl (c_skip (q_then (c_seq (c_region (r_assign rfl rfl rfl (r_assign rfl rfl rfl (r_nil (q_then (c_ret (q_block_ret (q_then_ret ?_)))))))))))
        refine b_retA (vl := [.int .i64 1, .int .i64 0]) rfl ⟨v_tmp rfl, v_tmp rfl, trivial⟩ (by simp) ?_
        obtain rfl := Option.some.inj hm
        exact ⟨_, _, _, rfl, hx4.pick [] (by decide) rfl, rfl, rfl⟩
     ·refine c_lit 35 rfl hb2 ?_
      refine c_false rfl (c_seq (c_seq (c_region ?_)))
      refine r_bin rfl rfl rfl rfl rfl ?_
      refine r_assign rfl rfl rfl (r_nil (q_then ?_))
      obtain ⟨v3, hb5, hm⟩ := bind_some hm
      refine c_midT (fun a w' => wx2 = w' ∧ Has 113 a [(2, .pointer (some ⟨b1, 0, none⟩)), (6, .slice as4 ns4 cs4), (34, .int .i64 x1.Op), (46, .bool v3)]) ?_ ?_
      ·rintro a wx4 ⟨rfl, hax3⟩
       refine cw_apply hax3 ?_
       rcases cond_some hm with ⟨hb6, hm⟩ | ⟨hb6, hm⟩
       ·refine c_lit 46 rfl hb6 ?_
        refine c_true rfl (c_seq (c_region (r_assign rfl rfl rfl (r_assign rfl rfl rfl (r_nil (q_then (c_ret (q_block_ret (q_then_ret ?_)))))))))
        refine b_retA (vl := [.int .i64 1, .int .i64 0]) rfl ⟨v_tmp rfl, v_tmp rfl, trivial⟩ (by simp) ?_
        obtain rfl := Option.some.inj hm
        exact ⟨_, _, _, rfl, hx4.pick [] (by decide) rfl, rfl, rfl⟩
       ·refine c_lit 46 rfl hb6 ?_
        refine c_false rfl (c_seq (c_seq (c_region ?_)))
        refine r_bin rfl rfl rfl rfl rfl ?_
        refine r_assign rfl rfl rfl (r_nil (q_then ?_))
        obtain ⟨v4, hb7, hm⟩ := bind_some hm
        refine c_midT (fun a w' => wx2 = w' ∧ Has 113 a [(2, .pointer (some ⟨b1, 0, none⟩)), (6, .slice as4 ns4 cs4), (34, .int .i64 x1.Op), (50, .bool v4)]) ?_ ?_
        ·rintro a wx5 ⟨rfl, hax4⟩
         refine cw_apply hax4 ?_
         rcases cond_some hm with ⟨hb8, hm⟩ | ⟨hb8, hm⟩
         ·refine c_lit 50 rfl hb8 ?_
          refine c_true rfl (c_seq (c_region (r_move rfl rfl rfl ?_)))
          obtain ⟨Fx3, hF3, hx5, hsx1⟩ := freezeRow hx4 (i := 0) rfl hs4
          obtain ⟨v5, hv2, hm⟩ := bind_some hm
          refine r_callG0 ent50 rfl rfl rfl rfl hx5 (tariff_all_ok _ _ _ _ _ hv2 hx5.sat hsx1) ?_
          rintro _ Fx4 _ wx6 hF4 hx6 ⟨rfl, rfl⟩
          refine r_extract rfl rfl rfl rfl (r_extract rfl rfl rfl rfl (r_assign rfl rfl rfl (r_assign rfl rfl rfl (r_nil (q_then (c_ret (q_block_ret (q_then_ret ?_))))))))
          refine b_retA (vl := [.int .i64 v5.1, .int .i64 v5.2]) rfl ⟨v_tmp rfl, v_tmp rfl, trivial⟩ (by simp) ?_
          obtain rfl := Option.some.inj hm
          exact ⟨_, _, _, rfl, hx6.pick [] (by decide) rfl, rfl, rfl⟩
         ·refine c_lit 50 rfl hb8 ?_
          refine c_false rfl (c_seq (c_seq (c_region ?_)))
          refine r_bin rfl rfl rfl rfl rfl ?_
          refine r_assign rfl rfl rfl (r_nil (q_then ?_))
          obtain ⟨v6, hb9, hm⟩ := bind_some hm
          refine c_midT (fun a w' => wx2 = w' ∧ Has 113 a [(2, .pointer (some ⟨b1, 0, none⟩)), (6, .slice as4 ns4 cs4), (34, .int .i64 x1.Op), (57, .bool v6)]) ?_ ?_
          ·rintro a wx7 ⟨rfl, hax5⟩
           refine cw_apply hax5 ?_
           rcases cond_some hm with ⟨hb10, hm⟩ | ⟨hb10, hm⟩
           ·refine c_lit 57 rfl hb10 ?_
            refine c_true rfl (c_seq (c_region (r_move rfl rfl rfl ?_)))
            obtain ⟨Fx5, hF5, hx7, hsx2⟩ := freezeRow hx4 (i := 0) rfl hs4
            obtain ⟨v7, hv3, hm⟩ := bind_some hm
            refine r_callG0 ent50 rfl rfl rfl rfl hx7 (tariff_all_ok _ _ _ _ _ hv3 hx7.sat hsx2) ?_
            rintro _ Fx6 _ wx8 hF6 hx8 ⟨rfl, rfl⟩
            refine r_extract rfl rfl rfl rfl (r_extract rfl rfl rfl rfl (r_assign rfl rfl rfl (r_assign rfl rfl rfl (r_nil (q_then (c_ret (q_block_ret (q_then_ret ?_))))))))
            refine b_retA (vl := [.int .i64 v7.1, .int .i64 v7.2]) rfl ⟨v_tmp rfl, v_tmp rfl, trivial⟩ (by simp) ?_
            obtain rfl := Option.some.inj hm
            exact ⟨_, _, _, rfl, hx8.pick [] (by decide) rfl, rfl, rfl⟩
           ·refine c_lit 57 rfl hb10 ?_
            refine c_false rfl (c_seq (c_region ?_))
            refine r_bin rfl rfl rfl rfl rfl ?_
            refine r_assign rfl rfl rfl (r_nil (q_then ?_))
            rcases cond_some hm with ⟨hb11, hm⟩ | ⟨hb11, hm⟩
            ·refine c_lit 65 rfl hb11 ?_
             refine c_true rfl (c_seq (c_seq (c_region (r_move rfl rfl rfl ?_))))
             obtain ⟨ex1, he1, hm⟩ := bind_some hm
             refine r_rindex (r := (Rp.int .i64)) u81 sz3 rfl rfl hx4 rfl rfl (p := 0) rfl rfl hs4 he1 ?_
             intro b2 o1 cs1 hax6 ho1 hr1 hp1
             have hc1 : cs1 = [.int .i64 ex1] := hr1
             subst hc1
             refine r_loadR1 (j := 0) ag3 rfl rfl hx4 rfl (p := 0) rfl rfl hax6 ho1 hp1 rfl ?_
             refine r_bin rfl rfl rfl rfl rfl ?_
             refine r_nil (q_then ?_)
             rcases cond_some hm with ⟨hb12, hm⟩ | ⟨hb12, hm⟩
             ·refine c_lit 70 rfl hb12 ?_
              refine c_true rfl (c_seq (c_region (r_assign rfl rfl rfl (r_assign rfl rfl rfl (r_nil (q_then (c_ret (q_then_ret (q_block_ret (q_then_ret ?_))))))))))
              refine b_retA (vl := [.int .i64 0, .int .i64 13]) rfl ⟨v_tmp rfl, v_tmp rfl, trivial⟩ (by simp) ?_
              obtain rfl := Option.some.inj hm
              exact ⟨_, _, _, rfl, hx4.pick [] (by decide) rfl, rfl, rfl⟩
             ·refine c_lit 70 rfl hb12 ?_
              refine c_false rfl (c_skip (q_then (c_seq ?_)))
              refine c_regionD (by kernel_rfl) (by kernel_rfl) hx4 ?_
              refine q_stp rfl rfl rfl rfl (fun _ _ _ _ => r_move rfl rfl rfl (r_nil (qq rfl))) ?_
              obtain ⟨ex2, he2, hm⟩ := bind_some hm
              obtain ⟨b3, o2, cs2, hax7, ho2, hr2, hp2, hrun1⟩ := rindex_ex (P := Tryd.prog) (r := (Rp.int .i64)) u81 sz3 hx4 (p := 0) rfl rfl hs4 he2
              have hc2 : cs2 = [.int .i64 ex2] := hr2
              subst hc2
              refine q_findex rfl rfl rfl rfl hrun1 ?_
              refine q_stp rfl rfl rfl rfl (fun _ _ _ hq => r_loadR1 (j := 0) ag3 rfl rfl hq rfl (p := 0) rfl rfl hax7 ho2 hp2 rfl (r_nil (qq rfl))) ?_
              refine q_stp rfl rfl rfl rfl (fun _ _ _ _ => r_move rfl rfl rfl (r_nil (qq rfl))) ?_
              obtain ⟨ex3, he3, hm⟩ := bind_some hm
              obtain ⟨b4, o3, cs3, hax8, ho3, hr3, hp3, hrun2⟩ := rindex_ex (P := Tryd.prog) (r := (Rp.int .i64)) u81 sz3 hx4 (p := 0) rfl rfl hs4 he3
              have hc3 : cs3 = [.int .i64 ex3] := hr3
              subst hc3
              refine q_findex rfl rfl rfl rfl hrun2 ?_
              refine q_stp rfl rfl rfl rfl (fun _ _ _ hq => r_loadR1 (j := 0) ag3 rfl rfl hq rfl (p := 0) rfl rfl hax8 ho3 hp3 rfl (r_nil (qq rfl))) ?_
              obtain ⟨v8, hv4, hm⟩ := bind_some hm
              refine q_callP0 ent51 rfl rfl rfl rfl (fun _ _ hleq hq => tariff_join_ok _ _ _ _ hv4) ?_
              refine q_stp rfl rfl rfl rfl (fun _ _ _ _ => r_extract rfl rfl rfl rfl (r_nil (qq rfl))) ?_
              refine q_stp rfl rfl rfl rfl (fun _ _ _ _ => r_extract rfl rfl rfl rfl (r_nil (qq rfl))) ?_
              refine q_stp rfl rfl rfl rfl (fun _ _ _ _ => r_assign rfl rfl rfl (r_nil (qq rfl))) ?_
              refine q_stp rfl rfl rfl rfl (fun _ _ _ _ => r_assign rfl rfl rfl (r_nil (qq rfl))) ?_
              refine q_end ?_
              rintro wx9 ⟨Fx7, hF7, hx9⟩
              refine q_then (c_ret (q_block_ret (q_then_ret ?_)))
              refine b_retA (vl := [.int .i64 v8.1, .int .i64 v8.2]) rfl ⟨v_tmp rfl, v_tmp rfl, trivial⟩ (by simp) ?_
              obtain rfl := Option.some.inj hm
              exact ⟨_, _, _, rfl, hx9.pick [] (by decide) rfl, rfl, rfl⟩
            ·refine c_lit 65 rfl hb11 ?_
             refine c_false rfl (c_seq (c_region ?_))
             refine r_bin rfl rfl rfl rfl rfl ?_
             refine r_assign rfl rfl rfl (r_nil (q_then ?_))
             rcases cond_some hm with ⟨hb13, hm⟩ | ⟨hb13, hm⟩
             ·refine c_lit 80 rfl hb13 ?_
              refine c_true rfl (c_seq (c_region (r_move rfl rfl rfl ?_)))
              obtain ⟨ex4, he4, hm⟩ := bind_some hm
              refine r_rindex (r := (Rp.int .i64)) u81 sz3 rfl rfl hx4 rfl rfl (p := 0) rfl rfl hs4 he4 ?_
              intro b5 o4 cs4 hax9 ho4 hr4 hp4
              have hc4 : cs4 = [.int .i64 ex4] := hr4
              subst hc4
              refine r_loadR1 (j := 0) ag3 rfl rfl hx4 rfl (p := 0) rfl rfl hax9 ho4 hp4 rfl ?_
              refine r_bin rfl rfl rfl rfl rfl ?_
              refine r_move rfl rfl rfl ?_
              obtain ⟨v9, hb14, hm⟩ := bind_some hm
              refine r_mid 5 (fun a w' => wx2 = w' ∧ Has 113 a [(6, .slice as4 ns4 cs4), (91, .bool v9)]) ?_ ?_
              ·rintro a wx10 ⟨rfl, hax10⟩
               refine rw_apply hax10 ?_
               refine r_nil (q_then ?_)
               rcases cond_some hm with ⟨hb15, hm⟩ | ⟨hb15, hm⟩
               ·refine c_lit 91 rfl hb15 ?_
                refine c_true rfl (c_seq (c_region (r_assign rfl rfl rfl (r_assign rfl rfl rfl (r_nil (q_then (c_ret (q_block_ret (q_then_ret ?_)))))))))
                refine b_retA (vl := [.int .i64 0, .int .i64 13]) rfl ⟨v_tmp rfl, v_tmp rfl, trivial⟩ (by simp) ?_
                obtain rfl := Option.some.inj hm
                exact ⟨_, _, _, rfl, hx4.pick [] (by decide) rfl, rfl, rfl⟩
               ·refine c_lit 91 rfl hb15 ?_
                refine c_false rfl (c_skip (q_block (q_then (c_seq ?_))))
                refine c_regionD (by kernel_rfl) (by kernel_rfl) hx4 ?_
                refine q_stp rfl rfl rfl rfl (fun _ _ _ _ => r_move rfl rfl rfl (r_nil (qq rfl))) ?_
                obtain ⟨ex5, he5, hm⟩ := bind_some hm
                obtain ⟨b6, o5, cs5, hax11, ho5, hr5, hp5, hrun3⟩ := rindex_ex (P := Tryd.prog) (r := (Rp.int .i64)) u81 sz3 hx4 (p := 0) rfl rfl hs4 he5
                have hc5 : cs5 = [.int .i64 ex5] := hr5
                subst hc5
                refine q_findex rfl rfl rfl rfl hrun3 ?_
                refine q_stp rfl rfl rfl rfl (fun _ _ _ hq => r_loadR1 (j := 0) ag3 rfl rfl hq rfl (p := 0) rfl rfl hax11 ho5 hp5 rfl (r_nil (qq rfl))) ?_
                refine q_stp rfl rfl rfl rfl (fun _ _ _ _ => r_move rfl rfl rfl (r_nil (qq rfl))) ?_
                obtain ⟨ex6, he6, hm⟩ := bind_some hm
                obtain ⟨b7, o6, cs6, hax12, ho6, hr6, hp6, hrun4⟩ := rindex_ex (P := Tryd.prog) (r := (Rp.int .i64)) u81 sz3 hx4 (p := 0) rfl rfl hs4 he6
                have hc6 : cs6 = [.int .i64 ex6] := hr6
                subst hc6
                refine q_findex rfl rfl rfl rfl hrun4 ?_
                refine q_stp rfl rfl rfl rfl (fun _ _ _ hq => r_loadR1 (j := 0) ag3 rfl rfl hq rfl (p := 0) rfl rfl hax12 ho6 hp6 rfl (r_nil (qq rfl))) ?_
                obtain ⟨v10, hv5, hm⟩ := bind_some hm
                refine q_callP0 ent51 rfl rfl rfl rfl (fun _ _ hleq hq => tariff_join_ok _ _ _ _ hv5) ?_
                refine q_stp rfl rfl rfl rfl (fun _ _ _ _ => r_extract rfl rfl rfl rfl (r_nil (qq rfl))) ?_
                refine q_stp rfl rfl rfl rfl (fun _ _ _ _ => r_extract rfl rfl rfl rfl (r_nil (qq rfl))) ?_
                refine q_stp rfl rfl rfl rfl (fun _ _ _ _ => r_assign rfl rfl rfl (r_nil (qq rfl))) ?_
                refine q_stp rfl rfl rfl rfl (fun _ _ _ _ => r_assign rfl rfl rfl (r_nil (qq rfl))) ?_
                refine q_end ?_
                rintro wx11 ⟨Fx8, hF8, hx10⟩
                refine q_then (c_ret ?_)
                refine b_retA (vl := [.int .i64 v10.1, .int .i64 v10.2]) rfl ⟨v_tmp rfl, v_tmp rfl, trivial⟩ (by simp) ?_
                obtain rfl := Option.some.inj hm
                exact ⟨_, _, _, rfl, hx10.pick [] (by decide) rfl, rfl, rfl⟩
              ·clear hm
               rcases cond_some hb14 with ⟨hb16, hb14⟩ | ⟨hb16, hb14⟩
               ·refine r_lit 86 rfl hb16 ?_
                refine r_move rfl rfl rfl ?_
                obtain ⟨ex7, he7, hb14⟩ := bind_some hb14
                refine r_rindex (r := (Rp.int .i64)) u81 sz3 rfl rfl hx4 rfl rfl (p := 0) rfl rfl hs4 he7 ?_
                intro b8 o7 cs7 hax13 ho7 hr7 hp7
                have hc7 : cs7 = [.int .i64 ex7] := hr7
                subst hc7
                refine r_loadR1 (j := 0) ag3 rfl rfl hx4 rfl (p := 0) rfl rfl hax13 ho7 hp7 rfl ?_
                refine r_bin rfl rfl rfl rfl rfl ?_
                refine r_pick_true rfl rfl rfl rfl (r_nil ?_)
                refine q_next (fun a ha => ?_)
                cases hb14
                exact ⟨rfl, ha.cut (l := [6, 91]) rfl⟩
               ·refine r_lit 86 rfl hb16 ?_
                refine r_off rfl (by decide) rfl (r_off rfl (by decide) rfl (r_off rfl (by decide) rfl (r_off rfl (by decide) rfl (r_pick_false rfl rfl rfl rfl (r_nil ?_)))))
                refine q_next (fun a ha => ?_)
                cases hb14
                exact ⟨rfl, ha.cut (l := [6, 91]) rfl⟩
             ·refine c_lit 80 rfl hb13 ?_
              refine c_false rfl (c_seq (c_region ?_))
              refine r_bin rfl rfl rfl rfl rfl ?_
              refine r_assign rfl rfl rfl (r_nil (q_then ?_))
              rcases cond_some hm with ⟨hb17, hm⟩ | ⟨hb17, hm⟩
              ·refine c_lit 92 rfl hb17 ?_
               refine c_true rfl (c_seq (c_region ?_))
               refine r_fieldAddr fa24_3 rfl rfl rfl ?_
               refine r_loadB1 ag22 rfl rfl hx4 rfl (i := 1) rfl rfl ?_
               obtain ⟨ex8, he8, hm⟩ := bind_some hm
               refine r_findex (r := rp_Expr) u22 sz24 rfl rfl rfl rfl (hs1.mono hF2) he8 ?_
               intro b9 o8 cs8 hf1 hr8
               obtain ⟨as5, ns5, cs5, hc8, hs5⟩ := expr_iff.1 hr8
               subst hc8
               refine r_loadFW ag24 sz24 rfl rfl hx4 hf1 rfl rfl ?_
               refine r_alloc ze24 rfl rfl rfl hx4 ?_
               intro b10 wx12 hx11
               refine r_store sz24 rfl hx11 rfl rfl rfl rfl (i := 0) rfl rfl rfl rfl ?_
               intro wx13 hx12
               refine r_nil (q_then (c_seq (c_region ?_)))
               refine r_fieldAddr fa24_0 rfl rfl rfl ?_
               refine r_loadB1 ag3 rfl rfl hx12 rfl (i := 0) rfl rfl ?_
               refine r_bin rfl rfl rfl rfl rfl ?_
               refine r_nil (q_then ?_)
               rcases cond_some hm with ⟨hb18, hm⟩ | ⟨hb18, hm⟩
               ·refine c_lit 100 rfl hb18 ?_
                refine c_true rfl (c_seq (c_region (r_assign rfl rfl rfl (r_assign rfl rfl rfl (r_nil (q_then (c_ret (q_block_ret (q_then_ret ?_)))))))))
                refine b_retA (vl := [.int .i64 0, .int .i64 13]) rfl ⟨v_tmp rfl, v_tmp rfl, trivial⟩ (by simp) ?_
                obtain rfl := Option.some.inj hm
                exact ⟨_, _, _, rfl, hx12.pick [] (by decide) rfl, rfl, rfl⟩
               ·refine c_lit 100 rfl hb18 ?_
                refine c_false rfl (c_seq (c_region ?_))
                refine r_fieldAddr fa24_1 rfl rfl rfl ?_
                refine r_loadB1 ag3 rfl rfl hx12 rfl (i := 0) rfl rfl ?_
                refine r_bin rfl rfl rfl rfl rfl ?_
                refine r_nil (q_then ?_)
                rcases cond_some hm with ⟨hb19, hm⟩ | ⟨hb19, hm⟩
                ·refine c_lit 103 rfl hb19 ?_
                 refine c_true rfl (c_seq (c_region (r_assign rfl rfl rfl (r_assign rfl rfl rfl (r_nil (q_then (c_ret (q_block_ret (q_then_ret ?_)))))))))
                 refine b_retA (vl := [.int .i64 0, .int .i64 14]) rfl ⟨v_tmp rfl, v_tmp rfl, trivial⟩ (by simp) ?_
                 obtain rfl := Option.some.inj hm
                 exact ⟨_, _, _, rfl, hx12.pick [] (by decide) rfl, rfl, rfl⟩
                ·refine c_lit 103 rfl hb19 ?_
                 refine c_false rfl (c_skip (q_block (q_then (c_seq ?_))))
                 refine c_regionD (by kernel_rfl) (by kernel_rfl) hx12 ?_
                 refine q_stp rfl rfl rfl rfl (fun _ _ _ _ => r_move rfl rfl rfl (r_nil (qq rfl))) ?_
                 obtain ⟨ex9, he9, hm⟩ := bind_some hm
                 obtain ⟨b11, o9, cs9, hax14, ho8, hr9, hp8, hrun5⟩ := rindex_ex (P := Tryd.prog) (r := (Rp.int .i64)) u81 sz3 hx12 (p := 1) rfl rfl hs4 he9
                 have hc9 : cs9 = [.int .i64 ex9] := hr9
                 subst hc9
                 refine q_findex rfl rfl rfl rfl hrun5 ?_
                 refine q_stp rfl rfl rfl rfl (fun _ _ _ hq => r_loadR1 (j := 0) ag3 rfl rfl hq rfl (p := 1) rfl rfl hax14 ho8 hp8 rfl (r_nil (qq rfl))) ?_
                 refine q_stp rfl rfl rfl rfl (fun _ _ _ _ => r_move rfl rfl rfl (r_nil (qq rfl))) ?_
                 obtain ⟨ex10, he10, hm⟩ := bind_some hm
                 obtain ⟨b12, o10, cs10, hax15, ho9, hr10, hp9, hrun6⟩ := rindex_ex (P := Tryd.prog) (r := (Rp.int .i64)) u81 sz3 hx12 (p := 1) rfl rfl hs4 he10
                 have hc10 : cs10 = [.int .i64 ex10] := hr10
                 subst hc10
                 refine q_findex rfl rfl rfl rfl hrun6 ?_
                 refine q_stp rfl rfl rfl rfl (fun _ _ _ hq => r_loadR1 (j := 0) ag3 rfl rfl hq rfl (p := 1) rfl rfl hax15 ho9 hp9 rfl (r_nil (qq rfl))) ?_
                 obtain ⟨v11, hv6, hm⟩ := bind_some hm
                 refine q_callP0 ent51 rfl rfl rfl rfl (fun _ _ hleq hq => tariff_join_ok _ _ _ _ hv6) ?_
                 refine q_stp rfl rfl rfl rfl (fun _ _ _ _ => r_extract rfl rfl rfl rfl (r_nil (qq rfl))) ?_
                 refine q_stp rfl rfl rfl rfl (fun _ _ _ _ => r_extract rfl rfl rfl rfl (r_nil (qq rfl))) ?_
                 refine q_stp rfl rfl rfl rfl (fun _ _ _ _ => r_assign rfl rfl rfl (r_nil (qq rfl))) ?_
                 refine q_stp rfl rfl rfl rfl (fun _ _ _ _ => r_assign rfl rfl rfl (r_nil (qq rfl))) ?_
                 refine q_end ?_
                 rintro wx14 ⟨Fx9, hF9, hx13⟩
                 refine q_then (c_ret ?_)
                 refine b_retA (vl := [.int .i64 v11.1, .int .i64 v11.2]) rfl ⟨v_tmp rfl, v_tmp rfl, trivial⟩ (by simp) ?_
                 obtain rfl := Option.some.inj hm
                 exact ⟨_, _, _, rfl, hx13.pick [] (by decide) rfl, rfl, rfl⟩
              ·refine c_lit 92 rfl hb17 ?_
               refine c_false rfl (c_skip (q_block (q_then (c_seq ?_))))
               refine c_regionD (by kernel_rfl) (by kernel_rfl) hx4 ?_
               refine q_stp rfl rfl rfl rfl (fun _ _ _ _ => r_move rfl rfl rfl (r_nil (qq rfl))) ?_
               obtain ⟨ex11, he11, hm⟩ := bind_some hm
               obtain ⟨b13, o11, cs11, hax16, ho10, hr11, hp10, hrun7⟩ := rindex_ex (P := Tryd.prog) (r := (Rp.int .i64)) u81 sz3 hx4 (p := 0) rfl rfl hs4 he11
               have hc11 : cs11 = [.int .i64 ex11] := hr11
               subst hc11
               refine q_findex rfl rfl rfl rfl hrun7 ?_
               refine q_stp rfl rfl rfl rfl (fun _ _ _ hq => r_loadR1 (j := 0) ag3 rfl rfl hq rfl (p := 0) rfl rfl hax16 ho10 hp10 rfl (r_nil (qq rfl))) ?_
               refine q_stp rfl rfl rfl rfl (fun _ _ _ _ => r_move rfl rfl rfl (r_nil (qq rfl))) ?_
               obtain ⟨ex12, he12, hm⟩ := bind_some hm
               obtain ⟨b14, o12, cs12, hax17, ho11, hr12, hp11, hrun8⟩ := rindex_ex (P := Tryd.prog) (r := (Rp.int .i64)) u81 sz3 hx4 (p := 0) rfl rfl hs4 he12
               have hc12 : cs12 = [.int .i64 ex12] := hr12
               subst hc12
               refine q_findex rfl rfl rfl rfl hrun8 ?_
               refine q_stp rfl rfl rfl rfl (fun _ _ _ hq => r_loadR1 (j := 0) ag3 rfl rfl hq rfl (p := 0) rfl rfl hax17 ho11 hp11 rfl (r_nil (qq rfl))) ?_
               obtain ⟨v12, hv7, hm⟩ := bind_some hm
               refine q_callP0 ent51 rfl rfl rfl rfl (fun _ _ hleq hq => tariff_join_ok _ _ _ _ hv7) ?_
               refine q_stp rfl rfl rfl rfl (fun _ _ _ _ => r_extract rfl rfl rfl rfl (r_nil (qq rfl))) ?_
               refine q_stp rfl rfl rfl rfl (fun _ _ _ _ => r_extract rfl rfl rfl rfl (r_nil (qq rfl))) ?_
               refine q_stp rfl rfl rfl rfl (fun _ _ _ _ => r_assign rfl rfl rfl (r_nil (qq rfl))) ?_
               refine q_stp rfl rfl rfl rfl (fun _ _ _ _ => r_assign rfl rfl rfl (r_nil (qq rfl))) ?_
               refine q_end ?_
               rintro wx15 ⟨Fx10, hF10, hx14⟩
               refine q_then (c_ret ?_)
               refine b_retA (vl := [.int .i64 v12.1, .int .i64 v12.2]) rfl ⟨v_tmp rfl, v_tmp rfl, trivial⟩ (by simp) ?_
               obtain rfl := Option.some.inj hm
               exact ⟨_, _, _, rfl, hx14.pick [] (by decide) rfl, rfl, rfl⟩
          ·clear hm
           rcases cond_some hb9 with ⟨hb20, hb9⟩ | ⟨hb20, hb9⟩
           ·refine c_lit 57 rfl hb20 ?_
            refine c_true rfl (c_skip ?_)
            refine q_next (fun a ha => ?_)
            cases hb9
            exact ⟨rfl, ha.cut (l := [2, 6, 34, 57]) rfl⟩
           ·refine c_lit 57 rfl hb20 ?_
            refine c_false rfl (c_seq (c_region ?_))
            refine r_bin rfl rfl rfl rfl rfl ?_
            refine r_assign rfl rfl rfl (r_nil (q_then ?_))
            rcases cond_some hb9 with ⟨hb21, hb9⟩ | ⟨hb21, hb9⟩
            ·refine c_lit 57 rfl hb21 ?_
             refine c_true rfl (c_skip ?_)
             refine q_next (fun a ha => ?_)
             cases hb9
             exact ⟨rfl, ha.cut (l := [2, 6, 34, 57]) rfl⟩
            ·refine c_lit 57 rfl hb21 ?_
             refine c_false rfl (c_region ?_)
             refine r_bin rfl rfl rfl rfl rfl ?_
             refine r_assign rfl rfl rfl (r_nil ?_)
             refine q_next (fun a ha => ?_)
             cases hb9
             exact ⟨rfl, ha.cut (l := [2, 6, 34, 57]) rfl⟩
        ·clear hm
         rcases cond_some hb7 with ⟨hb22, hb7⟩ | ⟨hb22, hb7⟩
         ·refine c_lit 50 rfl hb22 ?_
          refine c_true rfl (c_skip ?_)
          refine q_next (fun a ha => ?_)
          cases hb7
          exact ⟨rfl, ha.cut (l := [2, 6, 34, 50]) rfl⟩
         ·refine c_lit 50 rfl hb22 ?_
          refine c_false rfl (c_region ?_)
          refine r_bin rfl rfl rfl rfl rfl ?_
          refine r_assign rfl rfl rfl (r_nil ?_)
          refine q_next (fun a ha => ?_)
          cases hb7
          exact ⟨rfl, ha.cut (l := [2, 6, 34, 50]) rfl⟩
      ·clear hm
       rcases cond_some hb5 with ⟨hb23, hb5⟩ | ⟨hb23, hb5⟩
       ·refine c_lit 46 rfl hb23 ?_
        refine c_true rfl (c_skip ?_)
        refine q_next (fun a ha => ?_)
        cases hb5
        exact ⟨rfl, ha.cut (l := [2, 6, 34, 46]) rfl⟩
       ·refine c_lit 46 rfl hb23 ?_
        refine c_false rfl (c_seq (c_region ?_))
        refine r_bin rfl rfl rfl rfl rfl ?_
        refine r_assign rfl rfl rfl (r_nil (q_then ?_))
        rcases cond_some hb5 with ⟨hb24, hb5⟩ | ⟨hb24, hb5⟩
        ·refine c_lit 46 rfl hb24 ?_
         refine c_true rfl (c_skip ?_)
         refine q_next (fun a ha => ?_)
         cases hb5
         exact ⟨rfl, ha.cut (l := [2, 6, 34, 46]) rfl⟩
        ·refine c_lit 46 rfl hb24 ?_
         refine c_false rfl (c_region ?_)
         refine r_bin rfl rfl rfl rfl rfl ?_
         refine r_assign rfl rfl rfl (r_nil ?_)
         refine q_next (fun a ha => ?_)
         cases hb5
         exact ⟨rfl, ha.cut (l := [2, 6, 34, 46]) rfl⟩
    ·clear hm
     rcases cond_some hb1 with ⟨hb25, hb1⟩ | ⟨hb25, hb1⟩
     ·refine c_lit 35 rfl hb25 ?_
      refine c_true rfl (c_skip ?_)
      refine q_next (fun a ha => ?_)
      cases hb1
      exact ⟨rfl, ha.cut (l := [1, 2, 6, 34, 35]) rfl⟩
     ·refine c_lit 35 rfl hb25 ?_
      refine c_false rfl (c_region ?_)
      refine r_bin rfl rfl rfl rfl rfl ?_
      refine r_assign rfl rfl rfl (r_nil ?_)
      refine q_next (fun a ha => ?_)
      cases hb1
      exact ⟨rfl, ha.cut (l := [1, 2, 6, 34, 35]) rfl⟩
   ·clear hm hkont1; intro hk1 mx1 K ihx1
    rintro ⟨i1, l1⟩ a wx16 hm ⟨Fx1, as3, ns3, cs3, xss3, hF1, hx3, hs3, hax18⟩
    simp only [tariff_typed_L1_s] at hm
    refine cw_apply hax18 ?_
    refine c_seq (c_region ?_)
    refine r_bin rfl rfl rfl rfl rfl ?_
    refine r_nil (q_then (c_seq ?_))
    rcases cond_some hm with ⟨hb26, hm⟩ | ⟨hb26, hm⟩
    ·refine c_lit 16 rfl hb26 ?_
     refine c_true rfl (c_skip (q_then (c_seq (c_block (c_seq (c_region ?_))))))
     obtain ⟨ex13, he13, hm⟩ := bind_some hm
     refine r_findex (r := rp_Expr) u22 sz24 rfl rfl rfl rfl (hs1.mono hF1) he13 ?_
     intro b15 o13 cs13 hf2 hr13
     obtain ⟨as6, ns6, cs6, hc13, hs6⟩ := expr_iff.1 hr13
     subst hc13
     refine r_loadFW ag24 sz24 rfl rfl hx3 hf2 rfl rfl ?_
     refine r_alloc ze24 rfl rfl rfl hx3 ?_
     intro b16 wx17 hx15
     refine r_store sz24 rfl hx15 rfl rfl rfl rfl (i := 0) rfl rfl rfl rfl ?_
     intro wx18 hx16
     refine r_nil (q_then (c_seq (c_region ?_)))
     refine r_loadBW ag24 sz24 rfl rfl hx16 rfl (i := 0) rfl rfl ?_
     refine r_move rfl rfl rfl ?_
     obtain ⟨v13, hv8, hm⟩ := bind_some hm
     refine r_callG0 ent36 rfl rfl rfl rfl hx16 (ih _ _ _ hv8 hx16.sat hs6 (hs2.mono hF1)) ?_
     rintro _ Fx11 _ wx19 hF11 hx17 ⟨rfl, rfl⟩
     refine r_move rfl rfl rfl (r_extract rfl rfl rfl rfl (r_extract rfl rfl rfl rfl (r_assign rfl rfl rfl (r_assign rfl rfl rfl (r_nil (q_then (c_seq (c_seq (c_region (r_move rfl rfl rfl ?_))))))))))
     refine r_bin rfl rfl rfl rfl rfl ?_
     refine r_nil (q_then ?_)
     rcases cond_some hm with ⟨hb27, hm⟩ | ⟨hb27, hm⟩
     ·refine c_lit 26 rfl hb27 ?_
      refine c_true rfl (c_seq (c_region (r_move rfl rfl rfl (r_assign rfl rfl rfl (r_assign rfl rfl rfl (r_nil (q_then (c_ret (q_then_ret (q_block_ret (q_then_ret (q_then_ret (q_block_ret (q_then_ret ?_))))))))))))))
      refine b_retA (vl := [.int .i64 0, .int .i64 v13.2]) rfl ⟨v_tmp rfl, v_tmp rfl, trivial⟩ (by simp) ?_
      obtain rfl := Option.some.inj hm
      exact ⟨_, _, _, rfl, hx17.pick [] (by decide) rfl, rfl, rfl⟩
     ·refine c_lit 26 rfl hb27 ?_
      refine c_false rfl (c_skip (q_then (c_region (r_move rfl rfl rfl (r_move rfl rfl rfl ?_)))))
      refine r_buildSlice (e := 3) (cs := [.int .i64 v13.1]) (q := 1) rfl rfl hx17 rfl (fun _ => by kernel_rfl) rfl rfl ?_
      intro b17 wx20 hx18
      obtain ⟨l3, hr14, hm⟩ := bind_some hm
      refine r_appendN (r := (Rp.int .i64)) ap81 rfl rfl hx18 rfl rfl (i := 2) (j := 0) rfl rfl (hs3.mono hF11) ((show RowN (Rp.int .i64) Fx11 1 [.int .i64 v13.1] [v13.1] from ⟨rfl, ⟨_, _, rfl, rfl, (rfl : RowR (Rp.int .i64) _ [] [])⟩⟩)) hr14 ?_
      intro as7 cs7 wx21 hx19 hs7
      refine r_assign rfl rfl rfl (r_nil (q_block (q_then (c_region ?_))))
      refine r_bin rfl rfl rfl rfl rfl ?_
      refine r_move rfl rfl rfl (r_nil ?_)
      refine q_next (fun a ha => ihx1 ((iadd .i64 i1 1), l3) a _ hm ?_)
      exact ⟨_, as7, (ns3 + 1), cs7, (xss3 ++ [.int .i64 v13.1]), (hF1.trans hF11), hx19.pick [2, 3] (by decide) rfl, hs7, ha.cut (l := [1, 2, 6, 13, 14, 15]) rfl⟩
    ·refine c_lit 16 rfl hb26 ?_
     refine c_false rfl (c_exit (q_then_exit (q_then_exit ?_)))
     refine fun a ha => hk1 l1 a _ hm ?_
     exact ⟨_, as3, ns3, cs3, xss3, hF1, hx3.pick [0, 1] (by decide) rfl, hs3, ha.cut (l := [1, 2, 6]) rfl⟩

theorem tariff_typed_ok (n : Nat) (x1 : Expr) (names1 : (List Bs)) (r : (Int × Int)) (hm : tariff_typed n x1 names1 = some r) {w : World} {F : Frz} (hs : Sat F w) {as1 : Option Addr} {ns1 : Nat} {cs1 : Nat} {as2 : Option Addr} {ns2 : Nat} {cs2 : Nat} (hs1 : SlR rp_Expr F as1 ns1 cs1 x1.Args) (hs2 : SlR Rp.str F as2 ns2 cs2 names1) :
  Calls Tryd.prog 36 #[.agg #[.int .i64 x1.Op, .int .i64 x1.N, vs x1.Name, .slice as1 ns1 cs1], .slice as2 ns2 cs2] w fun e w' => ∃ v F' O', e = .returned v ∧ HS F w [] F' O' w' ∧ (v = .tuple #[.int .i64 r.1, .int .i64 r.2] ∧ O' = []) :=
 (tariff_typed_all n) x1 names1 r hm hs hs1 hs2


def slices_IndexFunc_api_Expr_api_Expr_L1 (n : Nat) (s1 : (List Expr)) (f1 : (Expr → Option Bool)) (kont1 : Option Int) : Nat → Int → Option Int
 | 0, _ => none
 | mx1 + 1, i1 =>
  bif decide (i1 < (s1.length : Int)) then
   (ix s1 i1).bind fun ex1 =>
   (f1 ex1).bind fun v1 =>
   bif v1 then
    some i1
   else
    slices_IndexFunc_api_Expr_api_Expr_L1 n s1 f1 kont1 mx1 (iadd .i64 i1 1)
  else
   kont1

theorem slices_IndexFunc_api_Expr_api_Expr_L1_s (n : Nat) (s1 : (List Expr)) (f1 : (Expr → Option Bool)) (kont1 : Option Int) (mx1 : Nat) (i1 : Int) : slices_IndexFunc_api_Expr_api_Expr_L1 n s1 f1 kont1 (mx1 + 1) i1 =
  bif decide (i1 < (s1.length : Int)) then
   (ix s1 i1).bind fun ex1 =>
   (f1 ex1).bind fun v1 =>
   bif v1 then
    some i1
   else
    slices_IndexFunc_api_Expr_api_Expr_L1 n s1 f1 kont1 mx1 (iadd .i64 i1 1)
  else
   kont1 := rfl

def slices_IndexFunc_api_Expr_api_Expr (n : Nat) (s1 : (List Expr)) (f1 : (Expr → Option Bool)) : Option Int :=
 slices_IndexFunc_api_Expr_api_Expr_L1 n s1 f1 (
  some (-1)) n 0

set_option maxHeartbeats 1000000 in
set_option maxRecDepth 1000000 in
theorem slices_IndexFunc_api_Expr_api_Expr_ok (n : Nat) (s1 : (List Expr)) (f1 : (Expr → Option Bool)) (r : Int) (hm : slices_IndexFunc_api_Expr_api_Expr n s1 f1 = some r) {w : World} {F : Frz} (hs : Sat F w) {as2 : Option Addr} {ns2 : Nat} {cs2 : Nat} {fvf1 : Value} (hs2 : SlR rp_Expr F as2 ns2 cs2 s1) (hpff1 : GFn Tryd.prog F fvf1 (fun F l v => ∃ (q0 : Expr) (a0_0 : Option Addr) (n0_0 : Nat) (c0_0 : Nat) (b : Bool), l = [.agg #[.int .i64 q0.Op, .int .i64 q0.N, vs q0.Name, .slice a0_0 n0_0 c0_0]] ∧ SlR rp_Expr F a0_0 n0_0 c0_0 q0.Args ∧ v = some (.bool b) ∧ f1 q0 = some b)) :
  Calls Tryd.prog 77 #[.slice as2 ns2 cs2, fvf1] w fun e w' => ∃ v F' O', e = .returned v ∧ HS F w [] F' O' w' ∧ (v = .int .i64 r ∧ O' = []) := by
 unfold slices_IndexFunc_api_Expr_api_Expr at hm
 have h := HS.init hs
 refine calls_of 19 Tryd.func77 rfl rfl rfl ?_
 refine c_seq (c_region (r_assign rfl rfl rfl (r_nil (q_then (c_seq (c_seq (c_region (r_move rfl rfl rfl ?_))))))))
 refine r_lenS hs2.len u22 rfl rfl rfl ?_
 refine r_move rfl rfl rfl (r_nil (q_then (c_block ?_)))
 intro a hax3
 obtain ⟨kont1, hkont1⟩ : ∃ kont1 : Option Int, kont1 = (
       some (-1)) := ⟨_, rfl⟩
 replace hm : (fun m (s : Int) => slices_IndexFunc_api_Expr_api_Expr_L1 n s1 f1 kont1 m s) n 0 = some r := by rw [hkont1]; exact hm
 refine loopX (id := 0) (fun m (s : Int) => slices_IndexFunc_api_Expr_api_Expr_L1 n s1 f1 kont1 m s) (fun (y : Unit) => kont1) r (fun (s : Int) a w' => ∃ (Fx1 : Frz), Frz.le F Fx1 ∧ HS F w [] Fx1 [] w' ∧ Has 19 a [(0, .slice as2 ns2 cs2), (1, fvf1), (7, .int .i64 (s1.length : Int)), (8, .int .i64 s)]) (fun (y : Unit) a w' => ∃ (Fx2 : Frz), Frz.le F Fx2 ∧ HS F w [] Fx2 [] w' ∧ Has 19 a []) (fun _ => rfl) ?_ ?_ hm ⟨_, Frz.refl _, h.pick [] (by decide) rfl, hax3.cut (l := [0, 1, 7, 8]) rfl⟩
 ·clear hm; rintro _u a wx1 hm ⟨Fx2, hF2, hx2, hax1⟩
  rw [hkont1] at hm
  refine qw_apply (e := .exit 0) hax1 ?_
  refine q_block_hit (q_then (c_seq (c_region (r_assign rfl rfl rfl (r_nil (q_then (c_ret ?_)))))))
  refine b_ret1 rfl rfl ?_
  obtain rfl := Option.some.inj hm
  exact ⟨_, _, _, rfl, hx2.pick [] (by decide) rfl, rfl, rfl⟩
 ·clear hm hkont1; intro hk1 mx1 K ihx1
  rintro i1 a wx2 hm ⟨Fx1, hF1, hx1, hax2⟩
  simp only [slices_IndexFunc_api_Expr_api_Expr_L1_s] at hm
  refine cw_apply hax2 ?_
  refine c_seq (c_region ?_)
  refine r_bin rfl rfl rfl rfl rfl ?_
  refine r_nil (q_then (c_seq ?_))
  rcases cond_some hm with ⟨hb1, hm⟩ | ⟨hb1, hm⟩
  ·refine c_lit 9 rfl hb1 ?_
   refine c_true rfl (c_skip (q_then (c_seq (c_block (c_seq (c_region (r_move rfl rfl rfl (r_assign rfl rfl rfl (r_nil (q_then (c_seq (c_region (r_move rfl rfl rfl (r_move rfl rfl rfl (r_move rfl rfl rfl ?_)))))))))))))))
   obtain ⟨ex1, he1, hm⟩ := bind_some hm
   refine r_findex (r := rp_Expr) u22 sz24 rfl rfl rfl rfl (hs2.mono hF1) he1 ?_
   intro b1 o1 cs1 hf1 hr1
   obtain ⟨as3, ns3, cs3, hc1, hs3⟩ := expr_iff.1 hr1
   subst hc1
   refine r_loadFW ag24 sz24 rfl rfl hx1 hf1 rfl rfl ?_
   obtain ⟨v1, hv1, hm⟩ := bind_some hm
   refine r_callGF (hpff1.mono hF1) rfl rfl rfl rfl hx1 ⟨_, _, _, _, _, rfl, hs3, rfl, hv1⟩ ?_
   intro Fx3 wx3 hF3 hx3
   refine r_nil (q_then ?_)
   rcases cond_some hm with ⟨hb2, hm⟩ | ⟨hb2, hm⟩
   ·refine c_lit 16 rfl hb2 ?_
    refine c_true rfl (c_seq (c_region (r_move rfl rfl rfl (r_assign rfl rfl rfl (r_nil (q_then (c_ret (q_block_ret (q_then_ret (q_then_ret (q_block_ret (q_then_ret ?_))))))))))))
    refine b_ret1 rfl rfl ?_
    obtain rfl := Option.some.inj hm
    exact ⟨_, _, _, rfl, hx3.pick [] (by decide) rfl, rfl, rfl⟩
   ·refine c_lit 16 rfl hb2 ?_
    refine c_false rfl (c_skip (q_block (q_then (c_region ?_))))
    refine r_bin rfl rfl rfl rfl rfl ?_
    refine r_move rfl rfl rfl (r_nil ?_)
    refine q_next (fun a ha => ihx1 (iadd .i64 i1 1) a _ hm ?_)
    exact ⟨_, (hF1.trans hF3), hx3.pick [] (by decide) rfl, ha.cut (l := [0, 1, 7, 8]) rfl⟩
  ·refine c_lit 9 rfl hb1 ?_
   refine c_false rfl (c_exit (q_then_exit (q_then_exit ?_)))
   refine fun a ha => hk1 () a _ hm ?_
   exact ⟨_, hF1, hx1.pick [] (by decide) rfl, ha.cut (l := []) rfl⟩


theorem ent77 : Ent Tryd.prog 77 := fun _ _ => by kernel_rfl

def slices_ContainsFunc_api_Expr_api_Expr (n : Nat) (s1 : (List Expr)) (f1 : (Expr → Option Bool)) : Option Bool :=
 (slices_IndexFunc_api_Expr_api_Expr n s1 f1).bind fun v1 =>
 some (decide (0 ≤ v1))

set_option maxHeartbeats 1000000 in
set_option maxRecDepth 1000000 in
theorem slices_ContainsFunc_api_Expr_api_Expr_ok (n : Nat) (s1 : (List Expr)) (f1 : (Expr → Option Bool)) (r : Bool) (hm : slices_ContainsFunc_api_Expr_api_Expr n s1 f1 = some r) {w : World} {F : Frz} (hs : Sat F w) {as2 : Option Addr} {ns2 : Nat} {cs2 : Nat} {fvf1 : Value} (hs2 : SlR rp_Expr F as2 ns2 cs2 s1) (hpff1 : GFn Tryd.prog F fvf1 (fun F l v => ∃ (q0 : Expr) (a0_0 : Option Addr) (n0_0 : Nat) (c0_0 : Nat) (b : Bool), l = [.agg #[.int .i64 q0.Op, .int .i64 q0.N, vs q0.Name, .slice a0_0 n0_0 c0_0]] ∧ SlR rp_Expr F a0_0 n0_0 c0_0 q0.Args ∧ v = some (.bool b) ∧ f1 q0 = some b)) :
  Calls Tryd.prog 66 #[.slice as2 ns2 cs2, fvf1] w fun e w' => ∃ v F' O', e = .returned v ∧ HS F w [] F' O' w' ∧ (v = .bool r ∧ O' = []) := by
 unfold slices_ContainsFunc_api_Expr_api_Expr at hm
 have h := HS.init hs
 refine calls_of 9 Tryd.func66 rfl rfl rfl ?_
 refine c_seq (c_region (r_assign rfl rfl rfl (r_nil (q_then (c_seq (c_region (r_move rfl rfl rfl (r_move rfl rfl rfl ?_))))))))
 obtain ⟨v1, hv1, hm⟩ := bind_some hm
 refine r_callG0 ent77 rfl rfl rfl rfl h (slices_IndexFunc_api_Expr_api_Expr_ok _ _ _ _ hv1 h.sat hs2 hpff1) ?_
 rintro _ Fx1 _ wx1 hF1 hx1 ⟨rfl, rfl⟩
 refine r_bin rfl rfl rfl rfl rfl ?_
 refine r_assign rfl rfl rfl (r_nil (q_then (c_ret ?_)))
 refine b_ret1 rfl rfl ?_
 obtain rfl := Option.some.inj hm
 exact ⟨_, _, _, rfl, hx1.pick [] (by decide) rfl, rfl, rfl⟩


theorem ent67 : Ent Tryd.prog 67 := fun _ _ => by kernel_rfl

theorem ent66 : Ent Tryd.prog 66 := fun _ _ => by kernel_rfl

theorem ent65 : Ent Tryd.prog 65 := fun _ _ => by kernel_rfl

theorem ent49 : Ent Tryd.prog 49 := fun _ _ => by kernel_rfl

mutual
def tariff_shaped : Nat → Expr → Option Bool
 | 0, _ => none
 | n + 1, x1 =>
  (bif decide (x1.Op < 0) then
   some true
  else
   some (decide (17 ≤ x1.Op))).bind fun v1 =>
  (bif v1 then
   some true
  else
   (tariff_args n x1.Op).bind fun v11 =>
   some ((x1.Args.length : Int) != v11)).bind fun v2 =>
  bif v2 then
   some false
  else
   bif x1.Op == 0 then
    (bif decide (0 ≤ x1.N) then
     some (decide (x1.N ≤ 1099511627776))
    else
     some false).bind fun v3 =>
    (bif v3 then
     some (x1.Name == [])
    else
     some false).bind fun v4 =>
    some v4
   else
    (bif x1.Op == 1 then
     some true
    else
     some (x1.Op == 4)).bind fun v5 =>
    bif v5 then
     (bif x1.N == 0 then
      (lexer_Name n x1.Name).bind fun v7 =>
      some v7
     else
      some false).bind fun v6 =>
     some v6
    else
     (bif x1.N == 0 then
      some (x1.Name == [])
     else
      some false).bind fun v8 =>
     (bif v8 then
      (slices_ContainsFunc_api_Expr_api_Expr n x1.Args (tariff_shaped_1 n)).bind fun v10 =>
      some (!v10)
     else
      some false).bind fun v9 =>
     some v9
def tariff_shaped_1 : Nat → Expr → Option Bool
 | 0, _ => none
 | n + 1, ax1 =>
  (tariff_shaped n ax1).bind fun v1 =>
  some (!v1)
 end

theorem tariff_shaped_s (n : Nat) (x1 : Expr) : tariff_shaped (n + 1) x1 =
  (bif decide (x1.Op < 0) then
   some true
  else
   some (decide (17 ≤ x1.Op))).bind fun v1 =>
  (bif v1 then
   some true
  else
   (tariff_args n x1.Op).bind fun v11 =>
   some ((x1.Args.length : Int) != v11)).bind fun v2 =>
  bif v2 then
   some false
  else
   bif x1.Op == 0 then
    (bif decide (0 ≤ x1.N) then
     some (decide (x1.N ≤ 1099511627776))
    else
     some false).bind fun v3 =>
    (bif v3 then
     some (x1.Name == [])
    else
     some false).bind fun v4 =>
    some v4
   else
    (bif x1.Op == 1 then
     some true
    else
     some (x1.Op == 4)).bind fun v5 =>
    bif v5 then
     (bif x1.N == 0 then
      (lexer_Name n x1.Name).bind fun v7 =>
      some v7
     else
      some false).bind fun v6 =>
     some v6
    else
     (bif x1.N == 0 then
      some (x1.Name == [])
     else
      some false).bind fun v8 =>
     (bif v8 then
      (slices_ContainsFunc_api_Expr_api_Expr n x1.Args (tariff_shaped_1 n)).bind fun v10 =>
      some (!v10)
     else
      some false).bind fun v9 =>
     some v9 := rfl

theorem tariff_shaped_1_s (n : Nat) (ax1 : Expr) : tariff_shaped_1 (n + 1) ax1 =
  (tariff_shaped n ax1).bind fun v1 =>
  some (!v1) := rfl

set_option maxHeartbeats 1000000 in
set_option maxRecDepth 1000000 in
theorem tariff_shaped_all (n : Nat) : (∀ (x1 : Expr) (r : Bool) (_ : tariff_shaped n x1 = some r) {w : World} {F : Frz} (_ : Sat F w) {as1 : Option Addr} {ns1 : Nat} {cs1 : Nat} (_ : SlR rp_Expr F as1 ns1 cs1 x1.Args), Calls Tryd.prog 49 #[.agg #[.int .i64 x1.Op, .int .i64 x1.N, vs x1.Name, .slice as1 ns1 cs1]] w fun e w' => ∃ v F' O', e = .returned v ∧ HS F w [] F' O' w' ∧ (v = .bool r ∧ O' = [])) ∧
  (∀ (ax1 : Expr) (r : Bool) (_ : tariff_shaped_1 n ax1 = some r) {w : World} {F : Frz} (_ : Sat F w) {as1 : Option Addr} {ns1 : Nat} {cs1 : Nat} (_ : SlR rp_Expr F as1 ns1 cs1 ax1.Args), Calls Tryd.prog 67 #[.agg #[.int .i64 ax1.Op, .int .i64 ax1.N, vs ax1.Name, .slice as1 ns1 cs1]] w fun e w' => ∃ v F' O', e = .returned v ∧ HS F w [] F' O' w' ∧ (v = .bool r ∧ O' = [])) := by
 induction n with
 | zero =>
  refine ⟨?_, ?_⟩
  ·intro x1 r hm
   exact absurd (show (none : Option Bool) = some r from hm) (by simp)
  ·intro ax1 r hm
   exact absurd (show (none : Option Bool) = some r from hm) (by simp)
 | succ n ih =>
  refine ⟨?_, ?_⟩
  ·intro x1 r hm w F hs as1 ns1 cs1 hs1
   rw [tariff_shaped_s] at hm
   have h := HS.init hs
   refine calls_of 62 Tryd.func49 rfl rfl rfl ?_
   refine c_seq (c_region ?_)
   refine r_box rfl rfl rfl rfl h ?_
   intro b1 wx1 hx1
   refine r_assign rfl rfl rfl (r_nil (q_then (c_seq (c_seq ?_))))
   refine c_regionD (by kernel_rfl) (by kernel_rfl) hx1 ?_
   refine q_stp rfl rfl rfl rfl (fun _ _ _ _ => r_fieldAddr fa24_0 rfl rfl rfl (r_nil (qq rfl))) ?_
   refine q_stp rfl rfl rfl rfl (fun _ _ _ hq => r_loadB1 ag3 rfl rfl hq rfl (i := 0) rfl rfl (r_nil (qq rfl))) ?_
   refine q_stp rfl rfl rfl rfl (fun _ _ _ _ => r_bin rfl rfl rfl rfl rfl (r_nil (qq rfl))) ?_
   refine q_stp rfl rfl rfl rfl (fun _ _ _ _ => r_move rfl rfl rfl (r_nil (qq rfl))) ?_
   obtain ⟨v1, hb1, hm⟩ := bind_some hm
   refine q_mid 4 (fun a => Has 62 a [(1, .pointer (some ⟨b1, 0, none⟩)), (10, .bool v1)]) ?_ ?_
   ·intro a hax1
    refine qr_apply hax1 ?_
    refine q_stp rfl rfl rfl rfl (fun _ _ _ _ => r_move rfl rfl rfl (r_nil (qq rfl))) ?_
    obtain ⟨v2, hb2, hm⟩ := bind_some hm
    refine q_mid 8 (fun a => Has 62 a [(1, .pointer (some ⟨b1, 0, none⟩)), (19, .bool v2)]) ?_ ?_
    ·intro a hax2
     refine qr_apply hax2 ?_
     refine q_end ?_
     rintro wx4 ⟨Fx1, hF1, hx2⟩
     refine q_then ?_
     rcases cond_some hm with ⟨hb3, hm⟩ | ⟨hb3, hm⟩
     ·refine c_lit 19 rfl hb3 ?_
      refine c_true rfl (c_seq (c_region (r_assign rfl rfl rfl (r_nil (q_then (c_ret (q_then_ret ?_)))))))
      refine b_ret1 rfl rfl ?_
      obtain rfl := Option.some.inj hm
      exact ⟨_, _, _, rfl, hx2.pick [] (by decide) rfl, rfl, rfl⟩
     ·refine c_lit 19 rfl hb3 ?_
      refine c_false rfl (c_skip (q_then (c_seq (c_seq (c_region ?_)))))
      refine r_fieldAddr fa24_0 rfl rfl rfl ?_
      refine r_loadB1 ag3 rfl rfl hx2 rfl (i := 0) rfl rfl ?_
      refine r_nil (q_then (c_block (c_seq (c_region ?_))))
      refine r_bin rfl rfl rfl rfl rfl ?_
      refine r_assign rfl rfl rfl (r_nil (q_then ?_))
      rcases cond_some hm with ⟨hb4, hm⟩ | ⟨hb4, hm⟩
      ·refine c_lit 22 rfl hb4 ?_
       refine c_true rfl (c_seq (c_region ?_))
       refine r_fieldAddr fa24_1 rfl rfl rfl ?_
       refine r_loadB1 ag3 rfl rfl hx2 rfl (i := 0) rfl rfl ?_
       refine r_bin rfl rfl rfl rfl rfl ?_
       refine r_move rfl rfl rfl ?_
       obtain ⟨v3, hb5, hm⟩ := bind_some hm
       refine r_mid 4 (fun a w' => wx4 = w' ∧ Has 62 a [(1, .pointer (some ⟨b1, 0, none⟩)), (31, .bool v3)]) ?_ ?_
       ·rintro a wx5 ⟨rfl, hax3⟩
        refine rw_apply hax3 ?_
        refine r_move rfl rfl rfl ?_
        obtain ⟨v4, hb6, hm⟩ := bind_some hm
        refine r_mid 4 (fun a w' => wx4 = w' ∧ Has 62 a [(36, .bool v4)]) ?_ ?_
        ·rintro a wx6 ⟨rfl, hax4⟩
         refine rw_apply hax4 ?_
         refine r_assign rfl rfl rfl (r_nil (q_then (c_ret (q_block_ret (q_then_ret ?_)))))
         refine b_ret1 rfl rfl ?_
         obtain rfl := Option.some.inj hm
         exact ⟨_, _, _, rfl, hx2.pick [] (by decide) rfl, rfl, rfl⟩
        ·clear hm
         rcases cond_some hb6 with ⟨hb7, hb6⟩ | ⟨hb7, hb6⟩
         ·refine r_lit 32 rfl hb7 ?_
          refine r_fieldAddr fa24_2 rfl rfl rfl ?_
          refine r_loadB1 ag9 rfl rfl hx2 rfl (i := 0) rfl rfl ?_
          refine r_str rfl rfl rfl rfl rfl ?_
          refine r_pick_true rfl rfl rfl rfl (r_nil ?_)
          refine q_next (fun a ha => ?_)
          cases hb6
          exact ⟨rfl, ha.cut (l := [36]) rfl⟩
         ·refine r_lit 32 rfl hb7 ?_
          refine r_off rfl (by decide) rfl (r_off rfl (by decide) rfl (r_off rfl (by decide) rfl (r_pick_false rfl rfl rfl rfl (r_nil ?_))))
          refine q_next (fun a ha => ?_)
          cases hb6
          exact ⟨rfl, ha.cut (l := [36]) rfl⟩
       ·clear hm
        rcases cond_some hb5 with ⟨hb8, hb5⟩ | ⟨hb8, hb5⟩
        ·refine r_lit 27 rfl hb8 ?_
         refine r_fieldAddr fa24_1 rfl rfl rfl ?_
         refine r_loadB1 ag3 rfl rfl hx2 rfl (i := 0) rfl rfl ?_
         refine r_bin rfl rfl rfl rfl rfl ?_
         refine r_pick_true rfl rfl rfl rfl (r_nil ?_)
         refine q_next (fun a ha => ?_)
         cases hb5
         exact ⟨rfl, ha.cut (l := [1, 31]) rfl⟩
        ·refine r_lit 27 rfl hb8 ?_
         refine r_off rfl (by decide) rfl (r_off rfl (by decide) rfl (r_off rfl (by decide) rfl (r_pick_false rfl rfl rfl rfl (r_nil ?_))))
         refine q_next (fun a ha => ?_)
         cases hb5
         exact ⟨rfl, ha.cut (l := [1, 31]) rfl⟩
      ·refine c_lit 22 rfl hb4 ?_
       refine c_false rfl (c_seq (c_seq (c_region ?_)))
       refine r_bin rfl rfl rfl rfl rfl ?_
       refine r_assign rfl rfl rfl (r_nil (q_then ?_))
       obtain ⟨v5, hb9, hm⟩ := bind_some hm
       refine c_midT (fun a w' => wx4 = w' ∧ Has 62 a [(1, .pointer (some ⟨b1, 0, none⟩)), (37, .bool v5)]) ?_ ?_
       ·rintro a wx7 ⟨rfl, hax5⟩
        refine cw_apply hax5 ?_
        rcases cond_some hm with ⟨hb10, hm⟩ | ⟨hb10, hm⟩
        ·refine c_lit 37 rfl hb10 ?_
         refine c_true rfl (c_seq (c_region ?_))
         refine r_fieldAddr fa24_1 rfl rfl rfl ?_
         refine r_loadB1 ag3 rfl rfl hx2 rfl (i := 0) rfl rfl ?_
         refine r_bin rfl rfl rfl rfl rfl ?_
         refine r_move rfl rfl rfl ?_
         obtain ⟨v6, hb11, hm⟩ := bind_some hm
         refine r_mid 4 (fun a w' => wx4 = w' ∧ Has 62 a [(47, .bool v6)]) ?_ ?_
         ·rintro a wx8 ⟨rfl, hax6⟩
          refine rw_apply hax6 ?_
          refine r_assign rfl rfl rfl (r_nil (q_then (c_ret (q_block_ret (q_then_ret ?_)))))
          refine b_ret1 rfl rfl ?_
          obtain rfl := Option.some.inj hm
          exact ⟨_, _, _, rfl, hx2.pick [] (by decide) rfl, rfl, rfl⟩
         ·clear hm
          rcases cond_some hb11 with ⟨hb12, hb11⟩ | ⟨hb12, hb11⟩
          ·refine r_lit 43 rfl hb12 ?_
           refine r_fieldAddr fa24_2 rfl rfl rfl ?_
           refine r_loadB1 ag9 rfl rfl hx2 rfl (i := 0) rfl rfl ?_
           obtain ⟨v7, hv1, hb11⟩ := bind_some hb11
           refine r_callP0 ent42 rfl rfl rfl rfl (lexer_Name_ok _ _ _ hv1) ?_
           refine r_pick_true rfl rfl rfl rfl (r_nil ?_)
           refine q_next (fun a ha => ?_)
           cases hb11
           exact ⟨rfl, ha.cut (l := [47]) rfl⟩
          ·refine r_lit 43 rfl hb12 ?_
           refine r_off rfl (by decide) rfl (r_off rfl (by decide) rfl (r_off rfl (by decide) rfl (r_pick_false rfl rfl rfl rfl (r_nil ?_))))
           refine q_next (fun a ha => ?_)
           cases hb11
           exact ⟨rfl, ha.cut (l := [47]) rfl⟩
        ·refine c_lit 37 rfl hb10 ?_
         refine c_false rfl (c_skip (q_block (q_then (c_seq (c_region ?_)))))
         refine r_fieldAddr fa24_1 rfl rfl rfl ?_
         refine r_loadB1 ag3 rfl rfl hx2 rfl (i := 0) rfl rfl ?_
         refine r_bin rfl rfl rfl rfl rfl ?_
         refine r_move rfl rfl rfl ?_
         obtain ⟨v8, hb13, hm⟩ := bind_some hm
         refine r_mid 4 (fun a w' => wx4 = w' ∧ Has 62 a [(1, .pointer (some ⟨b1, 0, none⟩)), (55, .bool v8)]) ?_ ?_
         ·rintro a wx9 ⟨rfl, hax7⟩
          refine rw_apply hax7 ?_
          refine r_move rfl rfl rfl ?_
          obtain ⟨v9, hb14, hm⟩ := bind_some hm
          refine r_mid 5 (fun a w' => ∃ (Fx2 : Frz), Frz.le Fx1 Fx2 ∧ HS F w [] Fx2 [.box b1 24 [.int .i64 x1.Op, .int .i64 x1.N, vs x1.Name, .slice as1 ns1 cs1]] w' ∧ Has 62 a [(61, .bool v9)]) ?_ ?_
          ·rintro a wx10 ⟨Fx2, hF2, hx3, hax8⟩
           refine rw_apply hax8 ?_
           refine r_assign rfl rfl rfl (r_nil (q_then (c_ret ?_)))
           refine b_ret1 rfl rfl ?_
           obtain rfl := Option.some.inj hm
           exact ⟨_, _, _, rfl, hx3.pick [] (by decide) rfl, rfl, rfl⟩
          ·clear hm
           rcases cond_some hb14 with ⟨hb15, hb14⟩ | ⟨hb15, hb14⟩
           ·refine r_lit 56 rfl hb15 ?_
            refine r_fieldAddr fa24_3 rfl rfl rfl ?_
            refine r_loadB1 ag22 rfl rfl hx2 rfl (i := 0) rfl rfl ?_
            obtain ⟨v10, hv2, hb14⟩ := bind_some hb14
            refine r_callG0 ent66 rfl rfl rfl rfl hx2 (slices_ContainsFunc_api_Expr_api_Expr_ok _ _ _ _ hv2 hx2.sat (hs1.mono hF1) (show GFn Tryd.prog _ (.func (.func 67) #[] #[]) (fun F l v => ∃ (q0 : Expr) (a0_0 : Option Addr) (n0_0 : Nat) (c0_0 : Nat) (b : Bool), l = [.agg #[.int .i64 q0.Op, .int .i64 q0.N, vs q0.Name, .slice a0_0 n0_0 c0_0]] ∧ SlR rp_Expr F a0_0 n0_0 c0_0 q0.Args ∧ v = some (.bool b) ∧ (tariff_shaped_1 n) q0 = some b) from ⟨67, #[], rfl, ent67, fun F' hF' args r w hsat h => by
                               obtain ⟨q0, a0_0, n0_0, c0_0, b, rfl, hs0_0, hv, hb⟩ := h
                               obtain rfl := Option.some.inj hv
                               exact (ih.2 q0 _ hb hsat hs0_0).mono (by rintro _ _ ⟨v, F2, O', h1, h2, rfl, rfl⟩; exact ⟨_, F2, _, h1, h2, rfl, rfl⟩)⟩)) ?_
            rintro _ Fx3 _ wx11 hF3 hx4 ⟨rfl, rfl⟩
            refine r_not rfl rfl rfl (r_pick_true rfl rfl rfl rfl (r_nil ?_))
            refine q_next (fun a ha => ?_)
            cases hb14
            exact ⟨_, hF3, hx4.pick [0] (by decide) rfl, ha.cut (l := [61]) rfl⟩
           ·refine r_lit 56 rfl hb15 ?_
            refine r_off rfl (by decide) rfl (r_off rfl (by decide) rfl (r_off rfl (by decide) rfl (r_off rfl (by decide) rfl (r_pick_false rfl rfl rfl rfl (r_nil ?_)))))
            refine q_next (fun a ha => ?_)
            cases hb14
            exact ⟨_, Frz.refl _, hx2.pick [0] (by decide) rfl, ha.cut (l := [61]) rfl⟩
         ·clear hm
          rcases cond_some hb13 with ⟨hb16, hb13⟩ | ⟨hb16, hb13⟩
          ·refine r_lit 51 rfl hb16 ?_
           refine r_fieldAddr fa24_2 rfl rfl rfl ?_
           refine r_loadB1 ag9 rfl rfl hx2 rfl (i := 0) rfl rfl ?_
           refine r_str rfl rfl rfl rfl rfl ?_
           refine r_pick_true rfl rfl rfl rfl (r_nil ?_)
           refine q_next (fun a ha => ?_)
           cases hb13
           exact ⟨rfl, ha.cut (l := [1, 55]) rfl⟩
          ·refine r_lit 51 rfl hb16 ?_
           refine r_off rfl (by decide) rfl (r_off rfl (by decide) rfl (r_off rfl (by decide) rfl (r_pick_false rfl rfl rfl rfl (r_nil ?_))))
           refine q_next (fun a ha => ?_)
           cases hb13
           exact ⟨rfl, ha.cut (l := [1, 55]) rfl⟩
       ·clear hm
        rcases cond_some hb9 with ⟨hb17, hb9⟩ | ⟨hb17, hb9⟩
        ·refine c_lit 37 rfl hb17 ?_
         refine c_true rfl (c_skip ?_)
         refine q_next (fun a ha => ?_)
         cases hb9
         exact ⟨rfl, ha.cut (l := [1, 37]) rfl⟩
        ·refine c_lit 37 rfl hb17 ?_
         refine c_false rfl (c_region ?_)
         refine r_bin rfl rfl rfl rfl rfl ?_
         refine r_assign rfl rfl rfl (r_nil ?_)
         refine q_next (fun a ha => ?_)
         cases hb9
         exact ⟨rfl, ha.cut (l := [1, 37]) rfl⟩
    ·clear hm
     rcases cond_some hb2 with ⟨hb18, hb2⟩ | ⟨hb18, hb2⟩
     ·refine q_lit 11 rfl hb18 ?_
      refine q_off rfl rfl rfl (q_off rfl rfl rfl (q_off rfl rfl rfl (q_off rfl rfl rfl (q_off rfl rfl rfl (q_off rfl rfl rfl (q_off rfl rfl rfl ?_))))))
      refine q_stp rfl rfl rfl rfl (fun _ _ _ _ => r_pick_true rfl rfl rfl rfl (r_nil (qq rfl))) ?_
      refine q_nil (fun a ha => ?_)
      cases hb2
      exact ha.cut (l := [1, 19]) rfl
     ·refine q_lit 11 rfl hb18 ?_
      refine q_stp rfl rfl rfl rfl (fun _ _ _ _ => r_fieldAddr fa24_3 rfl rfl rfl (r_nil (qq rfl))) ?_
      refine q_stp rfl rfl rfl rfl (fun _ _ _ hq => r_loadB1 ag22 rfl rfl hq rfl (i := 0) rfl rfl (r_nil (qq rfl))) ?_
      refine q_stp rfl rfl rfl rfl (fun _ _ _ _ => r_lenS hs1.len u22 rfl rfl rfl (r_nil (qq rfl))) ?_
      refine q_stp rfl rfl rfl rfl (fun _ _ _ _ => r_fieldAddr fa24_0 rfl rfl rfl (r_nil (qq rfl))) ?_
      refine q_stp rfl rfl rfl rfl (fun _ _ _ hq => r_loadB1 ag3 rfl rfl hq rfl (i := 0) rfl rfl (r_nil (qq rfl))) ?_
      obtain ⟨v11, hv3, hb2⟩ := bind_some hb2
      refine q_callP0 ent65 rfl rfl rfl rfl (fun _ _ hleq hq => tariff_args_ok _ _ _ hv3) ?_
      refine q_stp rfl rfl rfl rfl (fun _ _ _ _ => r_bin rfl rfl rfl rfl rfl (r_nil (qq rfl))) ?_
      refine q_stp rfl rfl rfl rfl (fun _ _ _ _ => r_pick_false rfl rfl rfl rfl (r_nil (qq rfl))) ?_
      refine q_nil (fun a ha => ?_)
      cases hb2
      exact ha.cut (l := [1, 19]) rfl
   ·clear hm
    rcases cond_some hb1 with ⟨hb19, hb1⟩ | ⟨hb19, hb1⟩
    ·refine q_lit 6 rfl hb19 ?_
     refine q_off rfl rfl rfl (q_off rfl rfl rfl (q_off rfl rfl rfl ?_))
     refine q_stp rfl rfl rfl rfl (fun _ _ _ _ => r_pick_true rfl rfl rfl rfl (r_nil (qq rfl))) ?_
     refine q_nil (fun a ha => ?_)
     cases hb1
     exact ha.cut (l := [1, 10]) rfl
    ·refine q_lit 6 rfl hb19 ?_
     refine q_stp rfl rfl rfl rfl (fun _ _ _ _ => r_fieldAddr fa24_0 rfl rfl rfl (r_nil (qq rfl))) ?_
     refine q_stp rfl rfl rfl rfl (fun _ _ _ hq => r_loadB1 ag3 rfl rfl hq rfl (i := 0) rfl rfl (r_nil (qq rfl))) ?_
     refine q_stp rfl rfl rfl rfl (fun _ _ _ _ => r_bin rfl rfl rfl rfl rfl (r_nil (qq rfl))) ?_
     refine q_stp rfl rfl rfl rfl (fun _ _ _ _ => r_pick_false rfl rfl rfl rfl (r_nil (qq rfl))) ?_
     refine q_nil (fun a ha => ?_)
     cases hb1
     exact ha.cut (l := [1, 10]) rfl
  ·intro ax1 r hm w F hs as1 ns1 cs1 hs1
   rw [tariff_shaped_1_s] at hm
   have h := HS.init hs
   refine calls_of 6 Tryd.func67 rfl rfl rfl ?_
   refine c_seq (c_region ?_)
   refine r_box rfl rfl rfl rfl h ?_
   intro b1 wx1 hx1
   refine r_assign rfl rfl rfl (r_nil (q_then (c_seq (c_region ?_))))
   refine r_loadBW ag24 sz24 rfl rfl hx1 rfl (i := 0) rfl rfl ?_
   obtain ⟨v1, hv1, hm⟩ := bind_some hm
   refine r_callG0 ent49 rfl rfl rfl rfl hx1 (ih.1 _ _ hv1 hx1.sat hs1) ?_
   rintro _ Fx1 _ wx2 hF1 hx2 ⟨rfl, rfl⟩
   refine r_not rfl rfl rfl (r_assign rfl rfl rfl (r_nil (q_then (c_ret ?_))))
   refine b_ret1 rfl rfl ?_
   obtain rfl := Option.some.inj hm
   exact ⟨_, _, _, rfl, hx2.pick [] (by decide) rfl, rfl, rfl⟩

theorem tariff_shaped_ok (n : Nat) (x1 : Expr) (r : Bool) (hm : tariff_shaped n x1 = some r) {w : World} {F : Frz} (hs : Sat F w) {as1 : Option Addr} {ns1 : Nat} {cs1 : Nat} (hs1 : SlR rp_Expr F as1 ns1 cs1 x1.Args) :
  Calls Tryd.prog 49 #[.agg #[.int .i64 x1.Op, .int .i64 x1.N, vs x1.Name, .slice as1 ns1 cs1]] w fun e w' => ∃ v F' O', e = .returned v ∧ HS F w [] F' O' w' ∧ (v = .bool r ∧ O' = []) :=
 (tariff_shaped_all n).1 x1 r hm hs hs1

theorem tariff_shaped_1_ok (n : Nat) (ax1 : Expr) (r : Bool) (hm : tariff_shaped_1 n ax1 = some r) {w : World} {F : Frz} (hs : Sat F w) {as1 : Option Addr} {ns1 : Nat} {cs1 : Nat} (hs1 : SlR rp_Expr F as1 ns1 cs1 ax1.Args) :
  Calls Tryd.prog 67 #[.agg #[.int .i64 ax1.Op, .int .i64 ax1.N, vs ax1.Name, .slice as1 ns1 cs1]] w fun e w' => ∃ v F' O', e = .returned v ∧ HS F w [] F' O' w' ∧ (v = .bool r ∧ O' = []) :=
 (tariff_shaped_all n).2 ax1 r hm hs hs1


theorem ze3 : ZeroIs Tryd.prog 3 (.int .i64 0) := fun _ => by kernel_rfl

def tariff_form (n : Nat) (x1 : Expr) : Option Bool :=
 (tariff_sized n x1 10 100).bind fun v1 =>
 (bif v1.2 then
  (tariff_shaped n x1).bind fun v3 =>
  some v3
 else
  some false).bind fun v2 =>
 some v2

set_option maxHeartbeats 1000000 in
set_option maxRecDepth 1000000 in
theorem tariff_form_ok (n : Nat) (x1 : Expr) (r : Bool) (hm : tariff_form n x1 = some r) {w : World} {F : Frz} (hs : Sat F w) {as1 : Option Addr} {ns1 : Nat} {cs1 : Nat} (hs1 : SlR rp_Expr F as1 ns1 cs1 x1.Args) :
  Calls Tryd.prog 35 #[.agg #[.int .i64 x1.Op, .int .i64 x1.N, vs x1.Name, .slice as1 ns1 cs1]] w fun e w' => ∃ v F' O', e = .returned v ∧ HS F w [] F' O' w' ∧ (v = .bool r ∧ O' = []) := by
 unfold tariff_form at hm
 have h := HS.init hs
 refine calls_of 10 Tryd.func35 rfl rfl rfl ?_
 refine c_seq (c_region ?_)
 refine r_box rfl rfl rfl rfl h ?_
 intro b1 wx1 hx1
 refine r_assign rfl rfl rfl (r_nil (q_then (c_seq (c_region ?_))))
 refine r_alloc ze3 rfl rfl rfl hx1 ?_
 intro b2 wx2 hx2
 refine r_store sz3 rfl hx2 rfl rfl rfl rfl (i := 0) rfl rfl rfl rfl ?_
 intro wx3 hx3
 refine r_nil (q_then (c_seq (c_region ?_)))
 refine r_loadBW ag24 sz24 rfl rfl hx3 rfl (i := 1) rfl rfl ?_
 obtain ⟨v1, hv1, hm⟩ := bind_some hm
 refine r_callL ent30 rfl rfl rfl rfl hx3 (i := 0) rfl (tariff_sized_ok _ _ _ _ _ hv1 hx3.sat hs1 (hx3.get (i := 0) rfl) (hx3.lendable (i := 0) rfl)) ?_
 rintro _ Fx1 _ _ wx4 hF1 hx4 ⟨rfl, rfl, rfl⟩
 refine r_move rfl rfl rfl ?_
 obtain ⟨v2, hb1, hm⟩ := bind_some hm
 refine r_mid 3 (fun a w' => ∃ (Fx2 : Frz), Frz.le Fx1 Fx2 ∧ HS F w [] Fx2 [.box b2 3 [.int .i64 v1.1], .box b1 24 [.int .i64 x1.Op, .int .i64 x1.N, vs x1.Name, .slice as1 ns1 cs1]] w' ∧ Has 10 a [(9, .bool v2)]) ?_ ?_
 ·rintro a wx5 ⟨Fx2, hF2, hx5, hax1⟩
  refine rw_apply hax1 ?_
  refine r_assign rfl rfl rfl (r_nil (q_then (c_ret ?_)))
  refine b_ret1 rfl rfl ?_
  obtain rfl := Option.some.inj hm
  exact ⟨_, _, _, rfl, hx5.pick [] (by decide) rfl, rfl, rfl⟩
 ·clear hm
  rcases cond_some hb1 with ⟨hb2, hb1⟩ | ⟨hb2, hb1⟩
  ·refine r_lit 6 rfl hb2 ?_
   refine r_loadBW ag24 sz24 rfl rfl hx4 rfl (i := 1) rfl rfl ?_
   obtain ⟨v3, hv2, hb1⟩ := bind_some hb1
   refine r_callG0 ent49 rfl rfl rfl rfl hx4 (tariff_shaped_ok _ _ _ hv2 hx4.sat (hs1.mono hF1)) ?_
   rintro _ Fx3 _ wx6 hF3 hx6 ⟨rfl, rfl⟩
   refine r_pick_true rfl rfl rfl rfl (r_nil ?_)
   refine q_next (fun a ha => ?_)
   cases hb1
   exact ⟨_, hF3, hx6.pick [0, 1] (by decide) rfl, ha.cut (l := [9]) rfl⟩
  ·refine r_lit 6 rfl hb2 ?_
   refine r_off rfl (by decide) rfl (r_off rfl (by decide) rfl (r_pick_false rfl rfl rfl rfl (r_nil ?_)))
   refine q_next (fun a ha => ?_)
   cases hb1
   exact ⟨_, Frz.refl _, hx4.pick [0, 1] (by decide) rfl, ha.cut (l := [9]) rfl⟩


theorem ent35 : Ent Tryd.prog 35 := fun _ _ => by kernel_rfl

def tariff_writable (n : Nat) (t1 : Tariff) : Option Bool :=
 (lexer_Name n t1.Name).bind fun v1 =>
 (bif v1 then
  (tariff_form n t1.Fee).bind fun v5 =>
  some v5
 else
  some false).bind fun v2 =>
 (bif v2 then
  some (decide ((-1) ≤ t1.Cap))
 else
  some false).bind fun v3 =>
 (bif v3 then
  some (decide (t1.Cap ≤ 1099511627776))
 else
  some false).bind fun v4 =>
 some v4

set_option maxHeartbeats 1000000 in
set_option maxRecDepth 1000000 in
theorem tariff_writable_ok (n : Nat) (t1 : Tariff) (r : Bool) (hm : tariff_writable n t1 = some r) {w : World} {F : Frz} (hs : Sat F w) {as1 : Option Addr} {ns1 : Nat} {cs1 : Nat} (hs1 : SlR rp_Expr F as1 ns1 cs1 t1.Fee.Args) :
  Calls Tryd.prog 23 #[.agg #[vs t1.Name, .int .i64 t1.Fee.Op, .int .i64 t1.Fee.N, vs t1.Fee.Name, .slice as1 ns1 cs1, .int .i64 t1.Cap]] w fun e w' => ∃ v F' O', e = .returned v ∧ HS F w [] F' O' w' ∧ (v = .bool r ∧ O' = []) := by
 unfold tariff_writable at hm
 have h := HS.init hs
 refine calls_of 21 Tryd.func23 rfl rfl rfl ?_
 refine c_seq (c_region ?_)
 refine r_box rfl rfl rfl rfl h ?_
 intro b1 wx1 hx1
 refine r_assign rfl rfl rfl (r_nil (q_then (c_seq (c_region ?_))))
 refine r_fieldAddr fa26_0 rfl rfl rfl ?_
 refine r_loadB1 ag9 rfl rfl hx1 rfl (i := 0) rfl rfl ?_
 obtain ⟨v1, hv1, hm⟩ := bind_some hm
 refine r_callP0 ent42 rfl rfl rfl rfl (lexer_Name_ok _ _ _ hv1) ?_
 refine r_move rfl rfl rfl ?_
 obtain ⟨v2, hb1, hm⟩ := bind_some hm
 refine r_mid 4 (fun a w' => ∃ (Fx1 : Frz), Frz.le F Fx1 ∧ HS F w [] Fx1 [.box b1 26 [vs t1.Name, .int .i64 t1.Fee.Op, .int .i64 t1.Fee.N, vs t1.Fee.Name, .slice as1 ns1 cs1, .int .i64 t1.Cap]] w' ∧ Has 21 a [(1, .pointer (some ⟨b1, 0, none⟩)), (10, .bool v2)]) ?_ ?_
 ·rintro a wx2 ⟨Fx1, hF1, hx2, hax1⟩
  refine rw_apply hax1 ?_
  refine r_move rfl rfl rfl ?_
  obtain ⟨v3, hb2, hm⟩ := bind_some hm
  refine r_mid 4 (fun a w' => wx2 = w' ∧ Has 21 a [(1, .pointer (some ⟨b1, 0, none⟩)), (15, .bool v3)]) ?_ ?_
  ·rintro a wx3 ⟨rfl, hax2⟩
   refine rw_apply hax2 ?_
   refine r_move rfl rfl rfl ?_
   obtain ⟨v4, hb3, hm⟩ := bind_some hm
   refine r_mid 4 (fun a w' => wx2 = w' ∧ Has 21 a [(20, .bool v4)]) ?_ ?_
   ·rintro a wx4 ⟨rfl, hax3⟩
    refine rw_apply hax3 ?_
    refine r_assign rfl rfl rfl (r_nil (q_then (c_ret ?_)))
    refine b_ret1 rfl rfl ?_
    obtain rfl := Option.some.inj hm
    exact ⟨_, _, _, rfl, hx2.pick [] (by decide) rfl, rfl, rfl⟩
   ·clear hm
    rcases cond_some hb3 with ⟨hb4, hb3⟩ | ⟨hb4, hb3⟩
    ·refine r_lit 16 rfl hb4 ?_
     refine r_fieldAddr fa26_2 rfl rfl rfl ?_
     refine r_loadB1 ag3 rfl rfl hx2 rfl (i := 0) rfl rfl ?_
     refine r_bin rfl rfl rfl rfl rfl ?_
     refine r_pick_true rfl rfl rfl rfl (r_nil ?_)
     refine q_next (fun a ha => ?_)
     cases hb3
     exact ⟨rfl, ha.cut (l := [20]) rfl⟩
    ·refine r_lit 16 rfl hb4 ?_
     refine r_off rfl (by decide) rfl (r_off rfl (by decide) rfl (r_off rfl (by decide) rfl (r_pick_false rfl rfl rfl rfl (r_nil ?_))))
     refine q_next (fun a ha => ?_)
     cases hb3
     exact ⟨rfl, ha.cut (l := [20]) rfl⟩
  ·clear hm
   rcases cond_some hb2 with ⟨hb5, hb2⟩ | ⟨hb5, hb2⟩
   ·refine r_lit 11 rfl hb5 ?_
    refine r_fieldAddr fa26_2 rfl rfl rfl ?_
    refine r_loadB1 ag3 rfl rfl hx2 rfl (i := 0) rfl rfl ?_
    refine r_bin rfl rfl rfl rfl rfl ?_
    refine r_pick_true rfl rfl rfl rfl (r_nil ?_)
    refine q_next (fun a ha => ?_)
    cases hb2
    exact ⟨rfl, ha.cut (l := [1, 15]) rfl⟩
   ·refine r_lit 11 rfl hb5 ?_
    refine r_off rfl (by decide) rfl (r_off rfl (by decide) rfl (r_off rfl (by decide) rfl (r_pick_false rfl rfl rfl rfl (r_nil ?_))))
    refine q_next (fun a ha => ?_)
    cases hb2
    exact ⟨rfl, ha.cut (l := [1, 15]) rfl⟩
 ·clear hm
  rcases cond_some hb1 with ⟨hb6, hb1⟩ | ⟨hb6, hb1⟩
  ·refine r_lit 6 rfl hb6 ?_
   refine r_fieldAddr fa26_1 rfl rfl rfl ?_
   refine r_loadBA (cs' := [.int .i64 t1.Fee.Op, .int .i64 t1.Fee.N, vs t1.Fee.Name, .slice as1 ns1 cs1]) ag24 sz24 rfl rfl hx1 rfl (i := 0) rfl rfl rfl ?_
   obtain ⟨v5, hv2, hb1⟩ := bind_some hb1
   refine r_callG0 ent35 rfl rfl rfl rfl hx1 (tariff_form_ok _ _ _ hv2 hx1.sat hs1) ?_
   rintro _ Fx2 _ wx5 hF2 hx3 ⟨rfl, rfl⟩
   refine r_pick_true rfl rfl rfl rfl (r_nil ?_)
   refine q_next (fun a ha => ?_)
   cases hb1
   exact ⟨_, hF2, hx3.pick [0] (by decide) rfl, ha.cut (l := [1, 10]) rfl⟩
  ·refine r_lit 6 rfl hb6 ?_
   refine r_off rfl (by decide) rfl (r_off rfl (by decide) rfl (r_off rfl (by decide) rfl (r_pick_false rfl rfl rfl rfl (r_nil ?_))))
   refine q_next (fun a ha => ?_)
   cases hb1
   exact ⟨_, Frz.refl _, hx1.pick [0] (by decide) rfl, ha.cut (l := [1, 10]) rfl⟩


theorem ze26 : ZeroIs Tryd.prog 26 (.agg #[vs [], .int .i64 0, .int .i64 0, vs [], .slice none 0 0, .int .i64 0]) := fun _ => by kernel_rfl

theorem ent19 : Ent Tryd.prog 19 := fun _ _ => by kernel_rfl

theorem sz26 : SizeIs Tryd.prog 26 6 := fun _ => by kernel_rfl

theorem ag26 : IsAgg Tryd.prog 26 true := fun _ => by kernel_rfl

def tariff_Parse (n : Nat) (s1 : Bs) : Option (Tariff × Int × Int) :=
 (lexer_Scan n s1).bind fun v1 =>
 bif v1.2.2 != 0 then
  some ((⟨[], (⟨0, 0, [], []⟩ : Expr), 0⟩ : Tariff), v1.2.1, v1.2.2)
 else
  (tariff_reader_need n (⟨v1.1, 0, 0⟩ : reader) [[116, 97, 114, 105, 102, 102]]).bind fun v2 =>
  (tariff_reader_one n v2 0).bind fun v3 =>
  (tariff_reader_need n v3.1 [[123], [102, 101, 101], [61]]).bind fun v4 =>
  (tariff_reader_expr n v4).bind fun v5 =>
  (tariff_reader_is n v5.1 [59]).bind fun v6 =>
  (bif v6.2 then
   (tariff_sized n v5.2 10 100).bind fun v16 =>
   some (!v16.2, v16.1)
  else
   some (false, 100)).bind fun (v7, _) =>
  (bif v7 then
   (tariff_reader_fail n v6.1 6).bind fun v15 =>
   some (v15.l, v15.at_, v15.e)
  else
   some (v6.1.l, v6.1.at_, v6.1.e)).bind fun (f2, f3, f4) =>
  (tariff_reader_need n (⟨f2, f3, f4⟩ : reader) [[59]]).bind fun v8 =>
  (tariff_reader_take n v8 [99, 97, 112]).bind fun v9 =>
  (bif v9.2 then
   (tariff_reader_need n v9.1 [[61]]).bind fun v12 =>
   (tariff_reader_one n v12 1).bind fun v13 =>
   (tariff_reader_need n v13.1 [[59]]).bind fun v14 =>
   some (v13.2.N, v14.l, v14.at_, v14.e)
  else
   some ((-1), v9.1.l, v9.1.at_, v9.1.e)).bind fun (f5, f6, f7, f8) =>
  (tariff_reader_need n (⟨f6, f7, f8⟩ : reader) [[125]]).bind fun v10 =>
  (bif decide (v10.at_ < (v1.1.length : Int)) then
   (tariff_reader_fail n v10 12).bind fun v11 =>
   some (v11.l, v11.at_, v11.e)
  else
   some (v10.l, v10.at_, v10.e)).bind fun (_, f10, f11) =>
  bif f11 == 0 then
   some ((⟨v3.2.Text, v5.2, f5⟩ : Tariff), 0, 0)
  else
   bif decide (f10 < (v1.1.length : Int)) then
    (ix v1.1 f10).bind fun ex1 =>
    some ((⟨[], (⟨0, 0, [], []⟩ : Expr), 0⟩ : Tariff), ex1.Pos, f11)
   else
    some ((⟨[], (⟨0, 0, [], []⟩ : Expr), 0⟩ : Tariff), (s1.length : Int), f11)

set_option maxHeartbeats 1000000 in
set_option maxRecDepth 1000000 in
theorem tariff_Parse_ok (n : Nat) (s1 : Bs) (r : (Tariff × Int × Int)) (hm : tariff_Parse n s1 = some r) {w : World} {F : Frz} (hs : Sat F w) (hg0 : FX F 0 [.int .u8 40, .int .u8 41, .int .u8 44, .int .u8 59, .int .u8 58, .int .u8 61, .int .u8 60, .int .u8 43, .int .u8 45, .int .u8 42, .int .u8 47, .int .u8 123, .int .u8 125]) :
  Calls Tryd.prog 10 #[vs s1] w fun e w' => ∃ v F' O', e = .returned v ∧ HS F w [] F' O' w' ∧ (∃ (a0_4 : Option Addr) (n0_4 : Nat) (c0_4 : Nat), v = .tuple #[.agg #[vs r.1.Name, .int .i64 r.1.Fee.Op, .int .i64 r.1.Fee.N, vs r.1.Fee.Name, .slice a0_4 n0_4 c0_4, .int .i64 r.1.Cap], .int .i64 r.2.1, .int .i64 r.2.2] ∧ O' = [] ∧ SlR rp_Expr F' a0_4 n0_4 c0_4 r.1.Fee.Args) := by
 unfold tariff_Parse at hm
 have h := HS.init hs
 refine calls_of 110 Tryd.func10 rfl rfl rfl ?_
 refine c_seq (c_region ?_)
 refine r_alloc ze26 rfl rfl rfl h ?_
 intro b1 wx1 hx1
 refine r_assign rfl rfl rfl (r_assign rfl rfl rfl (r_nil (q_then (c_seq (c_region (r_move rfl rfl rfl ?_))))))
 obtain ⟨v1, hv1, hm⟩ := bind_some hm
 refine r_callG0 ent19 rfl rfl rfl rfl hx1 (lexer_Scan_ok _ _ _ hv1 hx1.sat hg0) ?_
 rintro _ Fx1 _ wx2 hF1 hx2 ⟨as2, ns2, cs2, rfl, rfl, hs2⟩
 refine r_move rfl rfl rfl (r_extract rfl rfl rfl rfl (r_extract rfl rfl rfl rfl (r_extract rfl rfl rfl rfl (r_assign rfl rfl rfl (r_assign rfl rfl rfl (r_assign rfl rfl rfl (r_nil (q_then (c_seq (c_seq (c_region (r_move rfl rfl rfl ?_))))))))))))
 refine r_bin rfl rfl rfl rfl rfl ?_
 refine r_nil (q_then ?_)
 rcases cond_some hm with ⟨hb1, hm⟩ | ⟨hb1, hm⟩
 ·refine c_lit 18 rfl hb1 ?_
  refine c_true rfl (c_seq (c_region ?_))
  refine r_build (v := .agg #[vs [], .int .i64 0, .int .i64 0, vs [], .slice none 0 0, .int .i64 0]) rfl rfl rfl (fun _ => by kernel_rfl) ?_
  refine r_move rfl rfl rfl (r_move rfl rfl rfl ?_)
  refine r_store sz26 rfl hx2 rfl rfl rfl rfl (i := 0) rfl rfl rfl rfl ?_
  intro wx3 hx3
  refine r_assign rfl rfl rfl (r_assign rfl rfl rfl (r_nil (q_then (c_ret (q_then_ret ?_)))))
  refine b_retA (vl := [.agg #[vs [], .int .i64 0, .int .i64 0, vs [], .slice none 0 0, .int .i64 0], .int .i64 v1.2.1, .int .i64 v1.2.2]) rfl ⟨v_cell ag26 sz26 rfl hx3 rfl (i := 0) rfl, v_tmp rfl, v_tmp rfl, trivial⟩ (by simp) ?_
  obtain rfl := Option.some.inj hm
  exact ⟨_, _, _, rfl, hx3.pick [] (by decide) rfl, none, 0, 0, rfl, rfl, SlR.nil _ _⟩
 ·refine c_lit 18 rfl hb1 ?_
  refine c_false rfl (c_skip (q_then (c_seq (c_region (r_move rfl rfl rfl ?_)))))
  refine r_build (v := .agg #[.slice as2 ns2 cs2, .int .i64 0, .int .i64 0]) rfl rfl rfl (fun _ => by kernel_rfl) ?_
  refine r_box rfl rfl rfl rfl hx2 ?_
  intro b2 wx4 hx4
  refine r_assign rfl rfl rfl (r_nil (q_then (c_seq (c_region (r_move rfl rfl rfl ?_)))))
  refine r_buildSlice (e := 9) (cs := [vs [116, 97, 114, 105, 102, 102]]) (q := 1) rfl rfl hx4 rfl (fun _ => by kernel_rfl) rfl rfl ?_
  intro b3 wx5 hx5
  obtain ⟨Fx2, hF2, hx6, hsx1⟩ := freezeRow hx5 (i := 0) rfl ((show RowN Rp.str Fx1 1 [vs [116, 97, 114, 105, 102, 102]] [[116, 97, 114, 105, 102, 102]] from ⟨rfl, ⟨_, _, rfl, rfl, (rfl : RowR Rp.str _ [] [])⟩⟩))
  obtain ⟨v2, hv2, hm⟩ := bind_some hm
  refine r_callL ent26 rfl rfl rfl rfl hx6 (i := 0) rfl (tariff_reader_need_ok _ _ _ _ hv2 hx6.sat (hs2.mono hF2) (hx6.get (i := 0) rfl) (hx6.lendable (i := 0) rfl) hsx1) ?_
  rintro _ Fx3 _ _ wx6 hF3 hx7 ⟨as3, ns3, cs3, rfl, rfl, rfl, hs3⟩
  refine r_nil (q_then (c_seq (c_region (r_move rfl rfl rfl ?_))))
  obtain ⟨v3, hv3, hm⟩ := bind_some hm
  refine r_callL ent27 rfl rfl rfl rfl hx7 (i := 0) rfl (tariff_reader_one_ok _ _ _ _ hv3 hx7.sat hs3 (hx7.get (i := 0) rfl) (hx7.lendable (i := 0) rfl)) ?_
  rintro _ Fx4 _ _ wx7 hF4 hx8 ⟨as4, ns4, cs4, rfl, rfl, rfl, hs4⟩
  refine r_field (v := .agg #[.int .i64 v3.2.Kind, vs v3.2.Text, .int .i64 v3.2.N, .int .i64 v3.2.Pos]) (u := vs v3.2.Text) (fun _ => by kernel_rfl) rfl rfl rfl ?_
  refine r_build (v := .agg #[vs v3.2.Text, .int .i64 0, .int .i64 0, vs [], .slice none 0 0, .int .i64 (-1)]) rfl rfl rfl (fun _ => by kernel_rfl) ?_
  refine r_alloc ze26 rfl rfl rfl hx8 ?_
  intro b4 wx8 hx9
  refine r_store sz26 rfl hx9 rfl rfl rfl rfl (i := 0) rfl rfl rfl rfl ?_
  intro wx9 hx10
  refine r_nil (q_then (c_seq (c_region (r_move rfl rfl rfl ?_))))
  refine r_buildSlice (e := 9) (cs := [vs [123], vs [102, 101, 101], vs [61]]) (q := 1) rfl rfl hx10 rfl (fun _ => by kernel_rfl) rfl rfl ?_
  intro b5 wx10 hx11
  obtain ⟨Fx5, hF5, hx12, hsx2⟩ := freezeRow hx11 (i := 0) rfl ((show RowN Rp.str Fx4 3 [vs [123], vs [102, 101, 101], vs [61]] [[123], [102, 101, 101], [61]] from ⟨rfl, ⟨_, _, rfl, rfl, ⟨_, _, rfl, rfl, ⟨_, _, rfl, rfl, (rfl : RowR Rp.str _ [] [])⟩⟩⟩⟩))
  obtain ⟨v4, hv4, hm⟩ := bind_some hm
  refine r_callL ent26 rfl rfl rfl rfl hx12 (i := 1) rfl (tariff_reader_need_ok _ _ _ _ hv4 hx12.sat (hs4.mono hF5) (hx12.get (i := 1) rfl) (hx12.lendable (i := 1) rfl) hsx2) ?_
  rintro _ Fx6 _ _ wx11 hF6 hx13 ⟨as5, ns5, cs5, rfl, rfl, rfl, hs5⟩
  refine r_nil (q_then (c_seq (c_region (r_move rfl rfl rfl ?_))))
  obtain ⟨v5, hv5, hm⟩ := bind_some hm
  refine r_callL ent28 rfl rfl rfl rfl hx13 (i := 1) rfl (tariff_reader_expr_ok _ _ _ hv5 hx13.sat hs5 (hx13.get (i := 1) rfl) (hx13.lendable (i := 1) rfl)) ?_
  rintro _ Fx7 _ _ wx12 hF7 hx14 ⟨as6, ns6, cs6, as7, ns7, cs7, rfl, rfl, rfl, hs6, hs7⟩
  refine r_fieldAddr fa26_1 rfl rfl rfl ?_
  refine r_store sz24 rfl hx14 rfl rfl rfl rfl (i := 0) rfl rfl rfl rfl ?_
  intro wx13 hx15
  refine r_nil (q_then (c_seq (c_seq (c_region ?_))))
  refine r_alloc ze3 rfl rfl rfl hx15 ?_
  intro b6 wx14 hx16
  refine r_store sz3 rfl hx16 rfl rfl rfl rfl (i := 0) rfl rfl rfl rfl ?_
  intro wx15 hx17
  refine r_nil (q_then (c_seq (c_region (r_move rfl rfl rfl ?_))))
  obtain ⟨v6, hv6, hm⟩ := bind_some hm
  refine r_callL ent29 rfl rfl rfl rfl hx17 (i := 2) rfl (tariff_reader_is_ok _ _ _ _ hv6 hx17.sat hs6 (hx17.get (i := 2) rfl) (hx17.lendable (i := 2) rfl)) ?_
  rintro _ Fx8 _ _ wx16 hF8 hx18 ⟨as8, ns8, cs8, rfl, rfl, rfl, hs8⟩
  refine r_move rfl rfl rfl ?_
  obtain ⟨⟨v7, f1⟩, hb2, hm⟩ := bind_some hm
  refine r_mid 5 (fun a w' => ∃ (Fx9 : Frz), Frz.le Fx8 Fx9 ∧ HS F w [] Fx9 [.box b6 3 [.int .i64 f1], .box b4 26 [vs v3.2.Text, .int .i64 v5.2.Op, .int .i64 v5.2.N, vs v5.2.Name, .slice as7 ns7 cs7, .int .i64 (-1)], .box b2 59 [.slice as8 ns8 cs8, .int .i64 v6.1.at_, .int .i64 v6.1.e], .box b1 26 [vs [], .int .i64 0, .int .i64 0, vs [], .slice none 0 0, .int .i64 0]] w' ∧ Has 110 a [(0, vs s1), (2, .pointer (some ⟨b1, 0, none⟩)), (5, .slice as2 ns2 cs2), (8, .pointer (some ⟨b2, 0, none⟩)), (9, .pointer (some ⟨b4, 0, none⟩)), (45, .bool v7)]) ?_ ?_
  ·rintro a wx17 ⟨Fx9, hF9, hx19, hax1⟩
   refine rw_apply hax1 ?_
   refine r_nil (q_then ?_)
   obtain ⟨⟨f2, f3, f4⟩, hb3, hm⟩ := bind_some hm
   refine c_midT (fun a w' => ∃ (Fx10 : Frz) (as9 : Option Addr) (ns9 : Nat) (cs9 : Nat), Frz.le Fx9 Fx10 ∧ HS F w [] Fx10 [.box b6 3 [.int .i64 f1], .box b4 26 [vs v3.2.Text, .int .i64 v5.2.Op, .int .i64 v5.2.N, vs v5.2.Name, .slice as7 ns7 cs7, .int .i64 (-1)], .box b2 59 [.slice as9 ns9 cs9, .int .i64 f3, .int .i64 f4], .box b1 26 [vs [], .int .i64 0, .int .i64 0, vs [], .slice none 0 0, .int .i64 0]] w' ∧ (SlR rp_Token Fx10 as9 ns9 cs9 f2) ∧ Has 110 a [(0, vs s1), (2, .pointer (some ⟨b1, 0, none⟩)), (5, .slice as2 ns2 cs2), (8, .pointer (some ⟨b2, 0, none⟩)), (9, .pointer (some ⟨b4, 0, none⟩))]) ?_ ?_
   ·rintro a wx18 ⟨Fx10, as9, ns9, cs9, hF10, hx20, hs9, hax2⟩
    refine cw_apply hax2 ?_
    refine c_seq (c_region (r_move rfl rfl rfl ?_))
    refine r_buildSlice (e := 9) (cs := [vs [59]]) (q := 1) rfl rfl hx20 rfl (fun _ => by kernel_rfl) rfl rfl ?_
    intro b7 wx19 hx21
    obtain ⟨Fx11, hF11, hx22, hsx3⟩ := freezeRow hx21 (i := 0) rfl ((show RowN Rp.str Fx10 1 [vs [59]] [[59]] from ⟨rfl, ⟨_, _, rfl, rfl, (rfl : RowR Rp.str _ [] [])⟩⟩))
    obtain ⟨v8, hv7, hm⟩ := bind_some hm
    refine r_callL ent26 rfl rfl rfl rfl hx22 (i := 2) rfl (tariff_reader_need_ok _ _ _ _ hv7 hx22.sat (hs9.mono hF11) (hx22.get (i := 2) rfl) (hx22.lendable (i := 2) rfl) hsx3) ?_
    rintro _ Fx12 _ _ wx20 hF12 hx23 ⟨as10, ns10, cs10, rfl, rfl, rfl, hs10⟩
    refine r_nil (q_then (c_seq (c_seq (c_region (r_move rfl rfl rfl ?_)))))
    obtain ⟨v9, hv8, hm⟩ := bind_some hm
    refine r_callL ent32 rfl rfl rfl rfl hx23 (i := 2) rfl (tariff_reader_take_ok _ _ _ _ hv8 hx23.sat hs10 (hx23.get (i := 2) rfl) (hx23.lendable (i := 2) rfl)) ?_
    rintro _ Fx13 _ _ wx21 hF13 hx24 ⟨as11, ns11, cs11, rfl, rfl, rfl, hs11⟩
    refine r_nil (q_then ?_)
    obtain ⟨⟨f5, f6, f7, f8⟩, hb4, hm⟩ := bind_some hm
    refine c_midT (fun a w' => ∃ (Fx14 : Frz) (as12 : Option Addr) (ns12 : Nat) (cs12 : Nat), Frz.le Fx13 Fx14 ∧ HS F w [] Fx14 [.box b6 3 [.int .i64 f1], .box b4 26 [vs v3.2.Text, .int .i64 v5.2.Op, .int .i64 v5.2.N, vs v5.2.Name, .slice as7 ns7 cs7, .int .i64 f5], .box b2 59 [.slice as12 ns12 cs12, .int .i64 f7, .int .i64 f8], .box b1 26 [vs [], .int .i64 0, .int .i64 0, vs [], .slice none 0 0, .int .i64 0]] w' ∧ (SlR rp_Token Fx14 as12 ns12 cs12 f6) ∧ Has 110 a [(0, vs s1), (2, .pointer (some ⟨b1, 0, none⟩)), (5, .slice as2 ns2 cs2), (8, .pointer (some ⟨b2, 0, none⟩)), (9, .pointer (some ⟨b4, 0, none⟩))]) ?_ ?_
    ·rintro a wx22 ⟨Fx14, as12, ns12, cs12, hF14, hx25, hs12, hax3⟩
     refine cw_apply hax3 ?_
     refine c_seq (c_region (r_move rfl rfl rfl ?_))
     refine r_buildSlice (e := 9) (cs := [vs [125]]) (q := 1) rfl rfl hx25 rfl (fun _ => by kernel_rfl) rfl rfl ?_
     intro b8 wx23 hx26
     obtain ⟨Fx15, hF15, hx27, hsx4⟩ := freezeRow hx26 (i := 0) rfl ((show RowN Rp.str Fx14 1 [vs [125]] [[125]] from ⟨rfl, ⟨_, _, rfl, rfl, (rfl : RowR Rp.str _ [] [])⟩⟩))
     obtain ⟨v10, hv9, hm⟩ := bind_some hm
     refine r_callL ent26 rfl rfl rfl rfl hx27 (i := 2) rfl (tariff_reader_need_ok _ _ _ _ hv9 hx27.sat (hs12.mono hF15) (hx27.get (i := 2) rfl) (hx27.lendable (i := 2) rfl) hsx4) ?_
     rintro _ Fx16 _ _ wx24 hF16 hx28 ⟨as13, ns13, cs13, rfl, rfl, rfl, hs13⟩
     refine r_nil (q_then (c_seq (c_seq (c_region (r_move rfl rfl rfl ?_)))))
     refine r_nilC rfl rfl rfl ?_
     refine r_fieldAddr fa59_1 rfl rfl rfl ?_
     refine r_loadB1 ag3 rfl rfl hx28 rfl (i := 2) rfl rfl ?_
     refine r_move rfl rfl rfl ?_
     refine r_lenS hs2.len u48 rfl rfl rfl ?_
     refine r_bin rfl rfl rfl rfl rfl ?_
     refine r_nil (q_then ?_)
     obtain ⟨⟨f9, f10, f11⟩, hb5, hm⟩ := bind_some hm
     refine c_midT (fun a w' => ∃ (Fx17 : Frz) (as14 : Option Addr) (ns14 : Nat) (cs14 : Nat), Frz.le Fx16 Fx17 ∧ HS F w [] Fx17 [.box b6 3 [.int .i64 f1], .box b4 26 [vs v3.2.Text, .int .i64 v5.2.Op, .int .i64 v5.2.N, vs v5.2.Name, .slice as7 ns7 cs7, .int .i64 f5], .box b2 59 [.slice as14 ns14 cs14, .int .i64 f10, .int .i64 f11], .box b1 26 [vs [], .int .i64 0, .int .i64 0, vs [], .slice none 0 0, .int .i64 0]] w' ∧ (SlR rp_Token Fx17 as14 ns14 cs14 f9) ∧ Has 110 a [(0, vs s1), (2, .pointer (some ⟨b1, 0, none⟩)), (5, .slice as2 ns2 cs2), (8, .pointer (some ⟨b2, 0, none⟩)), (9, .pointer (some ⟨b4, 0, none⟩))]) ?_ ?_
     ·rintro a wx25 ⟨Fx17, as14, ns14, cs14, hF17, hx29, hs14, hax4⟩
      refine cw_apply hax4 ?_
      refine c_seq (c_block (c_seq (c_region (r_move rfl rfl rfl ?_))))
      refine r_nilC rfl rfl rfl ?_
      refine r_fieldAddr fa59_2 rfl rfl rfl ?_
      refine r_loadB1 ag31 rfl rfl hx29 rfl (i := 2) rfl rfl ?_
      refine r_bin rfl rfl rfl rfl rfl ?_
      refine r_assign rfl rfl rfl (r_nil (q_then ?_))
      rcases cond_some hm with ⟨hb6, hm⟩ | ⟨hb6, hm⟩
      ·refine c_lit 75 rfl hb6 ?_
       refine c_true rfl (c_seq (c_region ?_))
       refine r_loadBW ag26 sz26 rfl rfl hx29 rfl (i := 1) rfl rfl ?_
       refine r_store sz26 rfl hx29 rfl rfl rfl rfl (i := 3) rfl rfl rfl rfl ?_
       intro wx26 hx30
       refine r_assign rfl rfl rfl (r_assign rfl rfl rfl (r_nil (q_then (c_ret (q_block_ret (q_then_ret ?_))))))
       refine b_retA (vl := [.agg #[vs v3.2.Text, .int .i64 v5.2.Op, .int .i64 v5.2.N, vs v5.2.Name, .slice as7 ns7 cs7, .int .i64 f5], .int .i64 0, .int .i64 0]) rfl ⟨v_cell ag26 sz26 rfl hx30 rfl (i := 3) rfl, v_tmp rfl, v_tmp rfl, trivial⟩ (by simp) ?_
       obtain rfl := Option.some.inj hm
       exact ⟨_, _, _, rfl, hx30.pick [] (by decide) rfl, as7, ns7, cs7, rfl, rfl, ((((((((((hs7.mono hF8).mono hF9).mono hF10).mono hF11).mono hF12).mono hF13).mono hF14).mono hF15).mono hF16).mono hF17)⟩
      ·refine c_lit 75 rfl hb6 ?_
       refine c_false rfl (c_seq (c_region (r_move rfl rfl rfl ?_)))
       refine r_nilC rfl rfl rfl ?_
       refine r_fieldAddr fa59_1 rfl rfl rfl ?_
       refine r_loadB1 ag3 rfl rfl hx29 rfl (i := 2) rfl rfl ?_
       refine r_move rfl rfl rfl ?_
       refine r_lenS hs2.len u48 rfl rfl rfl ?_
       refine r_bin rfl rfl rfl rfl rfl ?_
       refine r_assign rfl rfl rfl (r_nil (q_then ?_))
       rcases cond_some hm with ⟨hb7, hm⟩ | ⟨hb7, hm⟩
       ·refine c_lit 82 rfl hb7 ?_
        refine c_true rfl (c_seq ?_)
        refine c_regionH (SH Fx17 [.box b6 3 [.int .i64 f1], .box b4 26 [vs v3.2.Text, .int .i64 v5.2.Op, .int .i64 v5.2.N, vs v5.2.Name, .slice as7 ns7 cs7, .int .i64 f5], .box b2 59 [.slice as14 ns14 cs14, .int .i64 f10, .int .i64 f11], .box b1 26 [vs [], .int .i64 0, .int .i64 0, vs [], .slice none 0 0, .int .i64 0]]) 16 rfl (by kernel_rfl) hx29 ?_
        intro wx27 hx31
        refine d_tk 0 rfl (by kernel_rfl) rfl rfl rfl rfl (hx31.sh (Frz.refl _) [0, 1, 2, 3] (by decide) rfl) (fun _ _ _ _ _ => r_build (v := .agg #[vs [], .int .i64 0, .int .i64 0, vs [], .slice none 0 0, .int .i64 0]) rfl rfl rfl (fun _ => by kernel_rfl) (r_nil (qq rfl))) ?_
        refine d_tk 1 rfl (by kernel_rfl) rfl rfl rfl rfl (hx31.sh (Frz.refl _) [0, 1, 2, 3] (by decide) rfl) (fun _ _ _ _ _ => r_move rfl rfl rfl (r_nil (qq rfl))) ?_
        refine d_tk 2 rfl (by kernel_rfl) rfl rfl rfl rfl (hx31.sh (Frz.refl _) [0, 1, 2, 3] (by decide) rfl) (fun _ _ _ _ _ => r_move rfl rfl rfl (r_nil (qq rfl))) ?_
        refine d_nilC 3 rfl (by kernel_rfl) (by kernel_rfl) (by kernel_rfl) rfl rfl rfl (hx31.sh (Frz.refl _) [0, 1, 2, 3] (by decide) rfl) ?_
        refine d_tk 4 rfl (by kernel_rfl) rfl rfl rfl rfl (hx31.sh (Frz.refl _) [0, 1, 2, 3] (by decide) rfl) (fun _ _ _ _ _ => r_fieldAddr fa59_1 rfl rfl rfl (r_nil (qq rfl))) ?_
        refine d_tk 5 rfl (by kernel_rfl) rfl rfl rfl rfl (hx31.sh (Frz.refl _) [0, 1, 2, 3] (by decide) rfl) (fun _ _ _ _ hq => r_loadB1 ag3 rfl rfl hq rfl (i := 2) rfl rfl (r_nil (qq rfl))) ?_
        obtain ⟨ex1, he1, hm⟩ := bind_some hm
        obtain ⟨b9, o1, cs1, hf1, hr1, hrun1⟩ := findex_ex (P := Tryd.prog) (r := rp_Token) u48 sz62 ((((((((((((((((hs2.mono hF2).mono hF3).mono hF4).mono hF5).mono hF6).mono hF7).mono hF8).mono hF9).mono hF10).mono hF11).mono hF12).mono hF13).mono hF14).mono hF15).mono hF16).mono hF17) he1
        have hc1 : cs1 = [.int .i64 ex1.Kind, vs ex1.Text, .int .i64 ex1.N, .int .i64 ex1.Pos] := hr1
        subst hc1
        refine d_findex 6 rfl (by kernel_rfl) (by kernel_rfl) (by kernel_rfl) rfl rfl rfl rfl hrun1 (hx31.sh (Frz.refl _) [0, 1, 2, 3] (by decide) rfl) ?_
        refine d_tk 7 rfl (by kernel_rfl) rfl rfl rfl rfl (hx31.sh (Frz.refl _) [0, 1, 2, 3] (by decide) rfl) (fun _ _ _ _ _ => r_fieldAddr fa62_3 rfl rfl rfl (r_nil (qq rfl))) ?_
        refine d_tk 8 rfl (by kernel_rfl) rfl rfl rfl rfl (hx31.sh (Frz.refl _) [0, 1, 2, 3] (by decide) rfl) (fun _ _ _ hleq hq => r_loadF1 (j := 3) ag3 rfl rfl hq (hf1.mono hleq) rfl rfl (r_nil (qq rfl))) ?_
        refine d_tk 9 rfl (by kernel_rfl) rfl rfl rfl rfl (hx31.sh (Frz.refl _) [0, 1, 2, 3] (by decide) rfl) (fun _ _ _ _ _ => r_move rfl rfl rfl (r_nil (qq rfl))) ?_
        refine d_nilC 10 rfl (by kernel_rfl) (by kernel_rfl) (by kernel_rfl) rfl rfl rfl (hx31.sh (Frz.refl _) [0, 1, 2, 3] (by decide) rfl) ?_
        refine d_tk 11 rfl (by kernel_rfl) rfl rfl rfl rfl (hx31.sh (Frz.refl _) [0, 1, 2, 3] (by decide) rfl) (fun _ _ _ _ _ => r_fieldAddr fa59_2 rfl rfl rfl (r_nil (qq rfl))) ?_
        refine d_tk 12 rfl (by kernel_rfl) rfl rfl rfl rfl (hx31.sh (Frz.refl _) [0, 1, 2, 3] (by decide) rfl) (fun _ _ _ _ hq => r_loadB1 ag31 rfl rfl hq rfl (i := 2) rfl rfl (r_nil (qq rfl))) ?_
        refine d_step 13 rfl (by kernel_rfl) ?_
        refine r_store sz26 rfl hx31 rfl rfl rfl rfl (i := 3) rfl rfl rfl rfl ?_
        intro wx28 hx32
        refine d_next (hx32.sh (Frz.refl _) [0, 1, 2, 3] (by decide) rfl) ?_
        refine d_tk 14 rfl (by kernel_rfl) rfl rfl rfl rfl (hx32.sh (Frz.refl _) [0, 1, 2, 3] (by decide) rfl) (fun _ _ _ _ _ => r_assign rfl rfl rfl (r_nil (qq rfl))) ?_
        refine d_tk 15 rfl (by kernel_rfl) rfl rfl rfl rfl (hx32.sh (Frz.refl _) [0, 1, 2, 3] (by decide) rfl) (fun _ _ _ _ _ => r_assign rfl rfl rfl (r_nil (qq rfl))) ?_
        refine d_done (by kernel_rfl) ?_
        refine q_then (c_ret (q_block_ret (q_then_ret ?_)))
        refine b_retA (vl := [.agg #[vs [], .int .i64 0, .int .i64 0, vs [], .slice none 0 0, .int .i64 0], .int .i64 ex1.Pos, .int .i64 f11]) rfl ⟨v_cell ag26 sz26 rfl hx32 rfl (i := 3) rfl, v_tmp rfl, v_tmp rfl, trivial⟩ (by simp) ?_
        obtain rfl := Option.some.inj hm
        exact ⟨_, _, _, rfl, hx32.pick [] (by decide) rfl, none, 0, 0, rfl, rfl, SlR.nil _ _⟩
       ·refine c_lit 82 rfl hb7 ?_
        refine c_false rfl (c_skip (q_block (q_then (c_seq ?_))))
        refine c_regionH (SH Fx17 [.box b6 3 [.int .i64 f1], .box b4 26 [vs v3.2.Text, .int .i64 v5.2.Op, .int .i64 v5.2.N, vs v5.2.Name, .slice as7 ns7 cs7, .int .i64 f5], .box b2 59 [.slice as14 ns14 cs14, .int .i64 f10, .int .i64 f11], .box b1 26 [vs [], .int .i64 0, .int .i64 0, vs [], .slice none 0 0, .int .i64 0]]) 10 rfl (by kernel_rfl) hx29 ?_
        intro wx29 hx33
        refine d_tk 0 rfl (by kernel_rfl) rfl rfl rfl rfl (hx33.sh (Frz.refl _) [0, 1, 2, 3] (by decide) rfl) (fun _ _ _ _ _ => r_build (v := .agg #[vs [], .int .i64 0, .int .i64 0, vs [], .slice none 0 0, .int .i64 0]) rfl rfl rfl (fun _ => by kernel_rfl) (r_nil (qq rfl))) ?_
        refine d_tk 1 rfl (by kernel_rfl) rfl rfl rfl rfl (hx33.sh (Frz.refl _) [0, 1, 2, 3] (by decide) rfl) (fun _ _ _ _ _ => r_move rfl rfl rfl (r_nil (qq rfl))) ?_
        refine d_tk 2 rfl (by kernel_rfl) rfl rfl rfl rfl (hx33.sh (Frz.refl _) [0, 1, 2, 3] (by decide) rfl) (fun _ _ _ _ _ => r_slen u9 rfl rfl rfl (r_nil (qq rfl))) ?_
        refine d_tk 3 rfl (by kernel_rfl) rfl rfl rfl rfl (hx33.sh (Frz.refl _) [0, 1, 2, 3] (by decide) rfl) (fun _ _ _ _ _ => r_move rfl rfl rfl (r_nil (qq rfl))) ?_
        refine d_nilC 4 rfl (by kernel_rfl) (by kernel_rfl) (by kernel_rfl) rfl rfl rfl (hx33.sh (Frz.refl _) [0, 1, 2, 3] (by decide) rfl) ?_
        refine d_tk 5 rfl (by kernel_rfl) rfl rfl rfl rfl (hx33.sh (Frz.refl _) [0, 1, 2, 3] (by decide) rfl) (fun _ _ _ _ _ => r_fieldAddr fa59_2 rfl rfl rfl (r_nil (qq rfl))) ?_
        refine d_tk 6 rfl (by kernel_rfl) rfl rfl rfl rfl (hx33.sh (Frz.refl _) [0, 1, 2, 3] (by decide) rfl) (fun _ _ _ _ hq => r_loadB1 ag31 rfl rfl hq rfl (i := 2) rfl rfl (r_nil (qq rfl))) ?_
        refine d_step 7 rfl (by kernel_rfl) ?_
        refine r_store sz26 rfl hx33 rfl rfl rfl rfl (i := 3) rfl rfl rfl rfl ?_
        intro wx30 hx34
        refine d_next (hx34.sh (Frz.refl _) [0, 1, 2, 3] (by decide) rfl) ?_
        refine d_tk 8 rfl (by kernel_rfl) rfl rfl rfl rfl (hx34.sh (Frz.refl _) [0, 1, 2, 3] (by decide) rfl) (fun _ _ _ _ _ => r_assign rfl rfl rfl (r_nil (qq rfl))) ?_
        refine d_tk 9 rfl (by kernel_rfl) rfl rfl rfl rfl (hx34.sh (Frz.refl _) [0, 1, 2, 3] (by decide) rfl) (fun _ _ _ _ _ => r_assign rfl rfl rfl (r_nil (qq rfl))) ?_
        refine d_done (by kernel_rfl) ?_
        refine q_then (c_ret ?_)
        refine b_retA (vl := [.agg #[vs [], .int .i64 0, .int .i64 0, vs [], .slice none 0 0, .int .i64 0], .int .i64 (s1.length : Int), .int .i64 f11]) rfl ⟨v_cell ag26 sz26 rfl hx34 rfl (i := 3) rfl, v_tmp rfl, v_tmp rfl, trivial⟩ (by simp) ?_
        obtain rfl := Option.some.inj hm
        exact ⟨_, _, _, rfl, hx34.pick [] (by decide) rfl, none, 0, 0, rfl, rfl, SlR.nil _ _⟩
     ·clear hm
      rcases cond_some hb5 with ⟨hb8, hb5⟩ | ⟨hb8, hb5⟩
      ·refine c_lit 72 rfl hb8 ?_
       refine c_true rfl (c_region (r_move rfl rfl rfl ?_))
       obtain ⟨v11, hv10, hb5⟩ := bind_some hb5
       refine r_callL ent31 rfl rfl rfl rfl hx28 (i := 2) rfl (tariff_reader_fail_ok _ _ _ _ hv10 hx28.sat hs13 (hx28.get (i := 2) rfl) (hx28.lendable (i := 2) rfl)) ?_
       rintro _ Fx18 _ _ wx31 hF18 hx35 ⟨as15, ns15, cs15, rfl, rfl, rfl, hs15⟩
       refine r_nil ?_
       refine q_next (fun a ha => ?_)
       cases hb5
       exact ⟨_, as15, ns15, cs15, hF18, hx35.pick [0, 1, 2, 3] (by decide) rfl, hs15, ha.cut (l := [0, 2, 5, 8, 9]) rfl⟩
      ·refine c_lit 72 rfl hb8 ?_
       refine c_false rfl (c_skip ?_)
       refine q_next (fun a ha => ?_)
       cases hb5
       exact ⟨_, as13, ns13, cs13, Frz.refl _, hx28.pick [0, 1, 2, 3] (by decide) rfl, hs13, ha.cut (l := [0, 2, 5, 8, 9]) rfl⟩
    ·clear hm
     rcases cond_some hb4 with ⟨hb9, hb4⟩ | ⟨hb9, hb4⟩
     ·refine c_lit 52 rfl hb9 ?_
      refine c_true rfl (c_seq (c_region (r_move rfl rfl rfl ?_)))
      refine r_buildSlice (e := 9) (cs := [vs [61]]) (q := 1) rfl rfl hx24 rfl (fun _ => by kernel_rfl) rfl rfl ?_
      intro b10 wx32 hx36
      obtain ⟨Fx19, hF19, hx37, hsx5⟩ := freezeRow hx36 (i := 0) rfl ((show RowN Rp.str Fx13 1 [vs [61]] [[61]] from ⟨rfl, ⟨_, _, rfl, rfl, (rfl : RowR Rp.str _ [] [])⟩⟩))
      obtain ⟨v12, hv11, hb4⟩ := bind_some hb4
      refine r_callL ent26 rfl rfl rfl rfl hx37 (i := 2) rfl (tariff_reader_need_ok _ _ _ _ hv11 hx37.sat (hs11.mono hF19) (hx37.get (i := 2) rfl) (hx37.lendable (i := 2) rfl) hsx5) ?_
      rintro _ Fx20 _ _ wx33 hF20 hx38 ⟨as16, ns16, cs16, rfl, rfl, rfl, hs16⟩
      refine r_nil (q_then (c_seq (c_region (r_move rfl rfl rfl ?_))))
      obtain ⟨v13, hv12, hb4⟩ := bind_some hb4
      refine r_callL ent27 rfl rfl rfl rfl hx38 (i := 2) rfl (tariff_reader_one_ok _ _ _ _ hv12 hx38.sat hs16 (hx38.get (i := 2) rfl) (hx38.lendable (i := 2) rfl)) ?_
      rintro _ Fx21 _ _ wx34 hF21 hx39 ⟨as17, ns17, cs17, rfl, rfl, rfl, hs17⟩
      refine r_field (v := .agg #[.int .i64 v13.2.Kind, vs v13.2.Text, .int .i64 v13.2.N, .int .i64 v13.2.Pos]) (u := .int .i64 v13.2.N) (fun _ => by kernel_rfl) rfl rfl rfl ?_
      refine r_fieldAddr fa26_2 rfl rfl rfl ?_
      refine r_store sz3 rfl hx39 rfl rfl rfl rfl (i := 1) rfl rfl rfl rfl ?_
      intro wx35 hx40
      refine r_nil (q_then (c_region (r_move rfl rfl rfl ?_)))
      refine r_buildSlice (e := 9) (cs := [vs [59]]) (q := 1) rfl rfl hx40 rfl (fun _ => by kernel_rfl) rfl rfl ?_
      intro b11 wx36 hx41
      obtain ⟨Fx22, hF22, hx42, hsx6⟩ := freezeRow hx41 (i := 0) rfl ((show RowN Rp.str Fx21 1 [vs [59]] [[59]] from ⟨rfl, ⟨_, _, rfl, rfl, (rfl : RowR Rp.str _ [] [])⟩⟩))
      obtain ⟨v14, hv13, hb4⟩ := bind_some hb4
      refine r_callL ent26 rfl rfl rfl rfl hx42 (i := 2) rfl (tariff_reader_need_ok _ _ _ _ hv13 hx42.sat (hs17.mono hF22) (hx42.get (i := 2) rfl) (hx42.lendable (i := 2) rfl) hsx6) ?_
      rintro _ Fx23 _ _ wx37 hF23 hx43 ⟨as18, ns18, cs18, rfl, rfl, rfl, hs18⟩
      refine r_nil ?_
      refine q_next (fun a ha => ?_)
      cases hb4
      exact ⟨_, as18, ns18, cs18, ((((hF19.trans hF20).trans hF21).trans hF22).trans hF23), hx43.pick [0, 1, 2, 3] (by decide) rfl, hs18, ha.cut (l := [0, 2, 5, 8, 9]) rfl⟩
     ·refine c_lit 52 rfl hb9 ?_
      refine c_false rfl (c_skip ?_)
      refine q_next (fun a ha => ?_)
      cases hb4
      exact ⟨_, as11, ns11, cs11, Frz.refl _, hx24.pick [0, 1, 2, 3] (by decide) rfl, hs11, ha.cut (l := [0, 2, 5, 8, 9]) rfl⟩
   ·clear hm
    rcases cond_some hb3 with ⟨hb10, hb3⟩ | ⟨hb10, hb3⟩
    ·refine c_lit 45 rfl hb10 ?_
     refine c_true rfl (c_region (r_move rfl rfl rfl ?_))
     obtain ⟨v15, hv14, hb3⟩ := bind_some hb3
     refine r_callL ent31 rfl rfl rfl rfl hx19 (i := 2) rfl (tariff_reader_fail_ok _ _ _ _ hv14 hx19.sat (hs8.mono hF9) (hx19.get (i := 2) rfl) (hx19.lendable (i := 2) rfl)) ?_
     rintro _ Fx24 _ _ wx38 hF24 hx44 ⟨as19, ns19, cs19, rfl, rfl, rfl, hs19⟩
     refine r_nil ?_
     refine q_next (fun a ha => ?_)
     cases hb3
     exact ⟨_, as19, ns19, cs19, hF24, hx44.pick [0, 1, 2, 3] (by decide) rfl, hs19, ha.cut (l := [0, 2, 5, 8, 9]) rfl⟩
    ·refine c_lit 45 rfl hb10 ?_
     refine c_false rfl (c_skip ?_)
     refine q_next (fun a ha => ?_)
     cases hb3
     exact ⟨_, as8, ns8, cs8, Frz.refl _, hx19.pick [0, 1, 2, 3] (by decide) rfl, (hs8.mono hF9), ha.cut (l := [0, 2, 5, 8, 9]) rfl⟩
  ·clear hm
   rcases cond_some hb2 with ⟨hb11, hb2⟩ | ⟨hb11, hb2⟩
   ·refine r_lit 40 rfl hb11 ?_
    refine r_fieldAddr fa26_1 rfl rfl rfl ?_
    refine r_loadBA (cs' := [.int .i64 v5.2.Op, .int .i64 v5.2.N, vs v5.2.Name, .slice as7 ns7 cs7]) ag24 sz24 rfl rfl hx18 rfl (i := 1) rfl rfl rfl ?_
    obtain ⟨v16, hv15, hb2⟩ := bind_some hb2
    refine r_callL ent30 rfl rfl rfl rfl hx18 (i := 0) rfl (tariff_sized_ok _ _ _ _ _ hv15 hx18.sat (hs7.mono hF8) (hx18.get (i := 0) rfl) (hx18.lendable (i := 0) rfl)) ?_
    rintro _ Fx25 _ _ wx39 hF25 hx45 ⟨rfl, rfl, rfl⟩
    refine r_not rfl rfl rfl (r_pick_true rfl rfl rfl rfl (r_nil ?_))
    refine q_next (fun a ha => ?_)
    cases hb2
    exact ⟨_, hF25, hx45.pick [0, 1, 2, 3] (by decide) rfl, ha.cut (l := [0, 2, 5, 8, 9, 45]) rfl⟩
   ·refine r_lit 40 rfl hb11 ?_
    refine r_off rfl (by decide) rfl (r_off rfl (by decide) rfl (r_off rfl (by decide) rfl (r_off rfl (by decide) rfl (r_pick_false rfl rfl rfl rfl (r_nil ?_)))))
    refine q_next (fun a ha => ?_)
    cases hb2
    exact ⟨_, Frz.refl _, hx18.pick [0, 1, 2, 3] (by decide) rfl, ha.cut (l := [0, 2, 5, 8, 9, 45]) rfl⟩


theorem ent34 : Ent Tryd.prog 34 := fun _ _ => by kernel_rfl

def tariff_Type (n : Nat) (x1 : Expr) (names1 : (List Bs)) : Option (Int × Int) :=
 (tariff_named n names1).bind fun v1 =>
 bif !v1 then
  some (0, 1)
 else
  (tariff_form n x1).bind fun v2 =>
  bif !v2 then
   some (0, 2)
  else
   (tariff_typed n x1 names1).bind fun v3 =>
   some (v3.1, v3.2)

set_option maxHeartbeats 1000000 in
set_option maxRecDepth 1000000 in
theorem tariff_Type_ok (n : Nat) (x1 : Expr) (names1 : (List Bs)) (r : (Int × Int)) (hm : tariff_Type n x1 names1 = some r) {w : World} {F : Frz} (hs : Sat F w) {as1 : Option Addr} {ns1 : Nat} {cs1 : Nat} {as2 : Option Addr} {ns2 : Nat} {cs2 : Nat} (hs1 : SlR rp_Expr F as1 ns1 cs1 x1.Args) (hs2 : SlR Rp.str F as2 ns2 cs2 names1) :
  Calls Tryd.prog 13 #[.agg #[.int .i64 x1.Op, .int .i64 x1.N, vs x1.Name, .slice as1 ns1 cs1], .slice as2 ns2 cs2] w fun e w' => ∃ v F' O', e = .returned v ∧ HS F w [] F' O' w' ∧ (v = .tuple #[.int .i64 r.1, .int .i64 r.2] ∧ O' = []) := by
 unfold tariff_Type at hm
 have h := HS.init hs
 refine calls_of 19 Tryd.func13 rfl rfl rfl ?_
 refine c_seq (c_region ?_)
 refine r_box rfl rfl rfl rfl h ?_
 intro b1 wx1 hx1
 refine r_assign rfl rfl rfl (r_assign rfl rfl rfl (r_nil (q_then (c_seq (c_block (c_seq (c_region (r_move rfl rfl rfl ?_))))))))
 obtain ⟨v1, hv1, hm⟩ := bind_some hm
 refine r_callP0 ent34 rfl rfl rfl rfl (tariff_named_ok _ _ _ hv1 hx1.sat hs2) ?_
 refine r_not rfl rfl rfl (r_assign rfl rfl rfl (r_nil (q_then ?_)))
 rcases cond_some hm with ⟨hb1, hm⟩ | ⟨hb1, hm⟩
 ·refine c_lit 6 rfl hb1 ?_
  refine c_true rfl (c_seq (c_region (r_assign rfl rfl rfl (r_assign rfl rfl rfl (r_nil (q_then (c_ret (q_block_ret (q_then_ret ?_)))))))))
  refine b_retA (vl := [.int .i64 0, .int .i64 1]) rfl ⟨v_tmp rfl, v_tmp rfl, trivial⟩ (by simp) ?_
  obtain rfl := Option.some.inj hm
  exact ⟨_, _, _, rfl, hx1.pick [] (by decide) rfl, rfl, rfl⟩
 ·refine c_lit 6 rfl hb1 ?_
  refine c_false rfl (c_seq (c_region ?_))
  refine r_loadBW ag24 sz24 rfl rfl hx1 rfl (i := 0) rfl rfl ?_
  obtain ⟨v2, hv2, hm⟩ := bind_some hm
  refine r_callG0 ent35 rfl rfl rfl rfl hx1 (tariff_form_ok _ _ _ hv2 hx1.sat hs1) ?_
  rintro _ Fx1 _ wx2 hF1 hx2 ⟨rfl, rfl⟩
  refine r_not rfl rfl rfl (r_assign rfl rfl rfl (r_nil (q_then ?_)))
  rcases cond_some hm with ⟨hb2, hm⟩ | ⟨hb2, hm⟩
  ·refine c_lit 10 rfl hb2 ?_
   refine c_true rfl (c_seq (c_region (r_assign rfl rfl rfl (r_assign rfl rfl rfl (r_nil (q_then (c_ret (q_block_ret (q_then_ret ?_)))))))))
   refine b_retA (vl := [.int .i64 0, .int .i64 2]) rfl ⟨v_tmp rfl, v_tmp rfl, trivial⟩ (by simp) ?_
   obtain rfl := Option.some.inj hm
   exact ⟨_, _, _, rfl, hx2.pick [] (by decide) rfl, rfl, rfl⟩
  ·refine c_lit 10 rfl hb2 ?_
   refine c_false rfl (c_skip (q_block (q_then (c_seq (c_region ?_)))))
   refine r_loadBW ag24 sz24 rfl rfl hx2 rfl (i := 0) rfl rfl ?_
   refine r_move rfl rfl rfl ?_
   obtain ⟨v3, hv3, hm⟩ := bind_some hm
   refine r_callG0 ent36 rfl rfl rfl rfl hx2 (tariff_typed_ok _ _ _ _ hv3 hx2.sat (hs1.mono hF1) (hs2.mono hF1)) ?_
   rintro _ Fx2 _ wx3 hF2 hx3 ⟨rfl, rfl⟩
   refine r_extract rfl rfl rfl rfl (r_extract rfl rfl rfl rfl (r_assign rfl rfl rfl (r_assign rfl rfl rfl (r_nil (q_then (c_ret ?_))))))
   refine b_retA (vl := [.int .i64 v3.1, .int .i64 v3.2]) rfl ⟨v_tmp rfl, v_tmp rfl, trivial⟩ (by simp) ?_
   obtain rfl := Option.some.inj hm
   exact ⟨_, _, _, rfl, hx3.pick [] (by decide) rfl, rfl, rfl⟩


theorem ent23 : Ent Tryd.prog 23 := fun _ _ => by kernel_rfl

def tariff_Check (n : Nat) (t1 : Tariff) (names1 : (List Bs)) : Option Int :=
 (tariff_named n names1).bind fun v1 =>
 bif !v1 then
  some 1
 else
  (tariff_writable n t1).bind fun v2 =>
  bif !v2 then
   some 2
  else
   (tariff_typed n t1.Fee names1).bind fun v3 =>
   (bif v3.2 == 0 then
    some (v3.1 == 0)
   else
    some false).bind fun v4 =>
   bif v4 then
    some 13
   else
    some v3.2

set_option maxHeartbeats 1000000 in
set_option maxRecDepth 1000000 in
theorem tariff_Check_ok (n : Nat) (t1 : Tariff) (names1 : (List Bs)) (r : Int) (hm : tariff_Check n t1 names1 = some r) {w : World} {F : Frz} (hs : Sat F w) {as1 : Option Addr} {ns1 : Nat} {cs1 : Nat} {as2 : Option Addr} {ns2 : Nat} {cs2 : Nat} (hs1 : SlR rp_Expr F as1 ns1 cs1 t1.Fee.Args) (hs2 : SlR Rp.str F as2 ns2 cs2 names1) :
  Calls Tryd.prog 14 #[.agg #[vs t1.Name, .int .i64 t1.Fee.Op, .int .i64 t1.Fee.N, vs t1.Fee.Name, .slice as1 ns1 cs1, .int .i64 t1.Cap], .slice as2 ns2 cs2] w fun e w' => ∃ v F' O', e = .returned v ∧ HS F w [] F' O' w' ∧ (v = .int .i64 r ∧ O' = []) := by
 unfold tariff_Check at hm
 have h := HS.init hs
 refine calls_of 29 Tryd.func14 rfl rfl rfl ?_
 refine c_seq (c_region ?_)
 refine r_box rfl rfl rfl rfl h ?_
 intro b1 wx1 hx1
 refine r_assign rfl rfl rfl (r_nil (q_then (c_seq (c_block (c_seq (c_region (r_move rfl rfl rfl ?_)))))))
 obtain ⟨v1, hv1, hm⟩ := bind_some hm
 refine r_callP0 ent34 rfl rfl rfl rfl (tariff_named_ok _ _ _ hv1 hx1.sat hs2) ?_
 refine r_not rfl rfl rfl (r_assign rfl rfl rfl (r_nil (q_then ?_)))
 rcases cond_some hm with ⟨hb1, hm⟩ | ⟨hb1, hm⟩
 ·refine c_lit 7 rfl hb1 ?_
  refine c_true rfl (c_seq (c_region (r_assign rfl rfl rfl (r_nil (q_then (c_ret (q_block_ret (q_then_ret ?_))))))))
  refine b_ret1 rfl rfl ?_
  obtain rfl := Option.some.inj hm
  exact ⟨_, _, _, rfl, hx1.pick [] (by decide) rfl, rfl, rfl⟩
 ·refine c_lit 7 rfl hb1 ?_
  refine c_false rfl (c_seq (c_region ?_))
  refine r_loadBW ag26 sz26 rfl rfl hx1 rfl (i := 0) rfl rfl ?_
  obtain ⟨v2, hv2, hm⟩ := bind_some hm
  refine r_callG0 ent23 rfl rfl rfl rfl hx1 (tariff_writable_ok _ _ _ hv2 hx1.sat hs1) ?_
  rintro _ Fx1 _ wx2 hF1 hx2 ⟨rfl, rfl⟩
  refine r_not rfl rfl rfl (r_assign rfl rfl rfl (r_nil (q_then ?_)))
  rcases cond_some hm with ⟨hb2, hm⟩ | ⟨hb2, hm⟩
  ·refine c_lit 11 rfl hb2 ?_
   refine c_true rfl (c_seq (c_region (r_assign rfl rfl rfl (r_nil (q_then (c_ret (q_block_ret (q_then_ret ?_))))))))
   refine b_ret1 rfl rfl ?_
   obtain rfl := Option.some.inj hm
   exact ⟨_, _, _, rfl, hx2.pick [] (by decide) rfl, rfl, rfl⟩
  ·refine c_lit 11 rfl hb2 ?_
   refine c_false rfl (c_skip (q_block (q_then (c_seq (c_region ?_)))))
   refine r_fieldAddr fa26_1 rfl rfl rfl ?_
   refine r_loadBA (cs' := [.int .i64 t1.Fee.Op, .int .i64 t1.Fee.N, vs t1.Fee.Name, .slice as1 ns1 cs1]) ag24 sz24 rfl rfl hx2 rfl (i := 0) rfl rfl rfl ?_
   refine r_move rfl rfl rfl ?_
   obtain ⟨v3, hv3, hm⟩ := bind_some hm
   refine r_callG0 ent36 rfl rfl rfl rfl hx2 (tariff_typed_ok _ _ _ _ hv3 hx2.sat (hs1.mono hF1) (hs2.mono hF1)) ?_
   rintro _ Fx2 _ wx3 hF2 hx3 ⟨rfl, rfl⟩
   refine r_move rfl rfl rfl (r_extract rfl rfl rfl rfl (r_extract rfl rfl rfl rfl (r_assign rfl rfl rfl (r_assign rfl rfl rfl (r_nil (q_then (c_seq (c_seq (c_region (r_move rfl rfl rfl ?_))))))))))
   refine r_bin rfl rfl rfl rfl rfl ?_
   refine r_move rfl rfl rfl ?_
   obtain ⟨v4, hb3, hm⟩ := bind_some hm
   refine r_mid 3 (fun a w' => wx3 = w' ∧ Has 29 a [(6, .int .i64 v3.2), (27, .bool v4)]) ?_ ?_
   ·rintro a wx4 ⟨rfl, hax1⟩
    refine rw_apply hax1 ?_
    refine r_nil (q_then ?_)
    rcases cond_some hm with ⟨hb4, hm⟩ | ⟨hb4, hm⟩
    ·refine c_lit 27 rfl hb4 ?_
     refine c_true rfl (c_seq (c_region (r_assign rfl rfl rfl (r_nil (q_then (c_ret (q_then_ret ?_)))))))
     refine b_ret1 rfl rfl ?_
     obtain rfl := Option.some.inj hm
     exact ⟨_, _, _, rfl, hx3.pick [] (by decide) rfl, rfl, rfl⟩
    ·refine c_lit 27 rfl hb4 ?_
     refine c_false rfl (c_skip (q_then (c_seq (c_region (r_move rfl rfl rfl (r_assign rfl rfl rfl (r_nil (q_then (c_ret ?_)))))))))
     refine b_ret1 rfl rfl ?_
     obtain rfl := Option.some.inj hm
     exact ⟨_, _, _, rfl, hx3.pick [] (by decide) rfl, rfl, rfl⟩
   ·clear hm
    rcases cond_some hb3 with ⟨hb5, hb3⟩ | ⟨hb5, hb3⟩
    ·refine r_lit 24 rfl hb5 ?_
     refine r_move rfl rfl rfl ?_
     refine r_bin rfl rfl rfl rfl rfl ?_
     refine r_pick_true rfl rfl rfl rfl (r_nil ?_)
     refine q_next (fun a ha => ?_)
     cases hb3
     exact ⟨rfl, ha.cut (l := [6, 27]) rfl⟩
    ·refine r_lit 24 rfl hb5 ?_
     refine r_off rfl (by decide) rfl (r_off rfl (by decide) rfl (r_pick_false rfl rfl rfl rfl (r_nil ?_)))
     refine q_next (fun a ha => ?_)
     cases hb3
     exact ⟨rfl, ha.cut (l := [6, 27]) rfl⟩


end Go.Proofs.YtpihabofmnnbbaaDoor.M
