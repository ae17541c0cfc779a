/- Several texts in one, for TariffTells.card: what the theorem leans on. -/
import Derived.Test.YtpihabofmnnbbaaGreatDoorRows
import Derived.Test.YtpihabofmnnbbaaGreatDoorPt2
namespace Go.Proofs.YtpihabofmnnbbaaGreatDoor.M
open Go Go.RowKit Rt
def slices_Index_string_string_L1 (n : Nat) (s1 : (List Bs)) (v1 : Bs) (kont1 : Option Int) : Nat → Int → Option Int
 | 0, _ => none
 | mx1 + 1, i1 =>
  bif decide (i1 < (s1.length : Int)) then
   (ix s1 i1).bind fun ex1 =>
   bif v1 == ex1 then
    some i1
   else
    slices_Index_string_string_L1 n s1 v1 kont1 mx1 (iadd .i64 i1 1)
  else
   kont1
theorem slices_Index_string_string_L1_s (n : Nat) (s1 : (List Bs)) (v1 : Bs) (kont1 : Option Int) (mx1 : Nat) (i1 : Int) : slices_Index_string_string_L1 n s1 v1 kont1 (mx1 + 1) i1 =
  bif decide (i1 < (s1.length : Int)) then
   (ix s1 i1).bind fun ex1 =>
   bif v1 == ex1 then
    some i1
   else
    slices_Index_string_string_L1 n s1 v1 kont1 mx1 (iadd .i64 i1 1)
  else
   kont1 := rfl
def slices_Index_string_string (n : Nat) (s1 : (List Bs)) (v1 : Bs) : Option Int :=
 slices_Index_string_string_L1 n s1 v1 (
  some (-1)) n 0
set_option maxHeartbeats 1000000 in
set_option maxRecDepth 1000000 in
theorem slices_Index_string_string_ok (n : Nat) (s1 : (List Bs)) (v1 : Bs) (r : Int) (hm : slices_Index_string_string n s1 v1 = some r) {w : World} {F : Frz} (hs : Sat F w) {as2 : Option Addr} {ns2 : Nat} {cs2 : Nat} (hs2 : SlR Rp.str F as2 ns2 cs2 s1) :
  Calls Tryz.prog 91 #[.slice as2 ns2 cs2, vs v1] w fun e w' => e = .returned (.int .i64 r) ∧ w' = w := by
 unfold slices_Index_string_string at hm
 have h := HS.init hs
 refine calls_of 19 Tryz.func91 rfl rfl rfl ?_
 refine c_seq (c_region (r_assign rfl rfl rfl (r_nil (q_then (c_seq (c_seq (c_region (r_move rfl rfl rfl ?_))))))))
 refine r_lenS hs2.len u27 rfl rfl rfl ?_
 refine r_move rfl rfl rfl (r_nil (q_then (c_block ?_)))
 intro a hax3
 obtain ⟨kont1, hkont1⟩ : ∃ kont1 : Option Int, kont1 = (
       some (-1)) := ⟨_, rfl⟩
 replace hm : (fun m (s : Int) => slices_Index_string_string_L1 n s1 v1 kont1 m s) n 0 = some r := by rw [hkont1]; exact hm
 refine loopX (id := 0) (fun m (s : Int) => slices_Index_string_string_L1 n s1 v1 kont1 m s) (fun (y : Unit) => kont1) r (fun (s : Int) a w' => w = w' ∧ Has 19 a [(0, .slice as2 ns2 cs2), (1, vs v1), (7, .int .i64 (s1.length : Int)), (8, .int .i64 s)]) (fun (y : Unit) a w' => w = w' ∧ Has 19 a []) (fun _ => rfl) ?_ ?_ hm ⟨rfl, hax3.cut (l := [0, 1, 7, 8]) rfl⟩
 ·clear hm; rintro _u a wx1 hm ⟨rfl, hax1⟩
  rw [hkont1] at hm
  refine qw_apply (e := .exit 0) hax1 ?_
  refine q_block_hit (q_then (c_seq (c_region (r_assign rfl rfl rfl (r_nil (q_then (c_ret ?_)))))))
  refine b_ret1 rfl rfl ?_
  obtain rfl := Option.some.inj hm
  exact ⟨rfl, rfl⟩
 ·clear hm hkont1; intro hk1 mx1 K ihx1
  rintro i1 a wx2 hm ⟨rfl, hax2⟩
  simp only [slices_Index_string_string_L1_s] at hm
  refine cw_apply hax2 ?_
  refine c_seq (c_region ?_)
  refine r_bin rfl rfl rfl rfl rfl ?_
  refine r_nil (q_then (c_seq ?_))
  rcases cond_some hm with ⟨hb1, hm⟩ | ⟨hb1, hm⟩
  ·refine c_lit 9 rfl hb1 ?_
   refine c_true rfl (c_skip (q_then (c_seq (c_block (c_seq (c_region (r_move rfl rfl rfl (r_assign rfl rfl rfl (r_nil (q_then (c_seq (c_region (r_move rfl rfl rfl (r_move rfl rfl rfl (r_move rfl rfl rfl ?_)))))))))))))))
   obtain ⟨ex1, he1, hm⟩ := bind_some hm
   refine r_findex (r := Rp.str) u27 sz9 rfl rfl rfl rfl hs2 he1 ?_
   intro b1 o1 cs1 hf1 hr1
   have hc1 : cs1 = [vs ex1] := hr1
   subst hc1
   refine r_loadF1 (j := 0) ag9 rfl rfl h hf1 rfl rfl ?_
   refine r_str rfl rfl rfl rfl rfl ?_
   refine r_nil (q_then ?_)
   rcases cond_some hm with ⟨hb2, hm⟩ | ⟨hb2, hm⟩
   ·refine c_lit 16 rfl hb2 ?_
    refine c_true rfl (c_seq (c_region (r_move rfl rfl rfl (r_assign rfl rfl rfl (r_nil (q_then (c_ret (q_block_ret (q_then_ret (q_then_ret (q_block_ret (q_then_ret ?_))))))))))))
    refine b_ret1 rfl rfl ?_
    obtain rfl := Option.some.inj hm
    exact ⟨rfl, rfl⟩
   ·refine c_lit 16 rfl hb2 ?_
    refine c_false rfl (c_skip (q_block (q_then (c_region ?_))))
    refine r_bin rfl rfl rfl rfl rfl ?_
    refine r_move rfl rfl rfl (r_nil ?_)
    refine q_next (fun a ha => ihx1 (iadd .i64 i1 1) a _ hm ?_)
    exact ⟨rfl, ha.cut (l := [0, 1, 7, 8]) rfl⟩
  ·refine c_lit 9 rfl hb1 ?_
   refine c_false rfl (c_exit (q_then_exit (q_then_exit ?_)))
   refine fun a ha => hk1 () a _ hm ?_
   exact ⟨rfl, ha.cut (l := []) rfl⟩
theorem ent91 : Ent Tryz.prog 91 := fun _ _ => by kernel_rfl
def slices_Contains_string_string (n : Nat) (s1 : (List Bs)) (v1 : Bs) : Option Bool :=
 (slices_Index_string_string n s1 v1).bind fun v2 =>
 some (decide (0 ≤ v2))
set_option maxHeartbeats 1000000 in
set_option maxRecDepth 1000000 in
theorem slices_Contains_string_string_ok (n : Nat) (s1 : (List Bs)) (v1 : Bs) (r : Bool) (hm : slices_Contains_string_string n s1 v1 = some r) {w : World} {F : Frz} (hs : Sat F w) {as2 : Option Addr} {ns2 : Nat} {cs2 : Nat} (hs2 : SlR Rp.str F as2 ns2 cs2 s1) :
  Calls Tryz.prog 69 #[.slice as2 ns2 cs2, vs v1] w fun e w' => e = .returned (.bool r) ∧ w' = w := by
 unfold slices_Contains_string_string at hm
 have h := HS.init hs
 refine calls_of 9 Tryz.func69 rfl rfl rfl ?_
 refine c_seq (c_region (r_assign rfl rfl rfl (r_nil (q_then (c_seq (c_region (r_move rfl rfl rfl (r_move rfl rfl rfl ?_))))))))
 obtain ⟨v2, hv1, hm⟩ := bind_some hm
 refine r_callP0 ent91 rfl rfl rfl rfl (slices_Index_string_string_ok _ _ _ _ hv1 h.sat hs2) ?_
 refine r_bin rfl rfl rfl rfl rfl ?_
 refine r_assign rfl rfl rfl (r_nil (q_then (c_ret ?_)))
 refine b_ret1 rfl rfl ?_
 obtain rfl := Option.some.inj hm
 exact ⟨rfl, rfl⟩
theorem ent69 : Ent Tryz.prog 69 := fun _ _ => by kernel_rfl
def tariff_named_L1 (n : Nat) (l1 : (List Bs)) (kont1 : Option Bool) : Nat → Int → Option Bool
 | 0, _ => none
 | mx1 + 1, i1 =>
  bif decide (i1 < (l1.length : Int)) then
   (ix l1 i1).bind fun ex1 =>
   (lexer_Name n ex1).bind fun v1 =>
   (bif !v1 then
    some true
   else
    (lsl l1 0 i1).bind fun l2 =>
    (slices_Contains_string_string n l2 ex1).bind fun v3 =>
    some v3).bind fun v2 =>
   bif v2 then
    some false
   else
    tariff_named_L1 n l1 kont1 mx1 (iadd .i64 i1 1)
  else
   kont1
theorem tariff_named_L1_s (n : Nat) (l1 : (List Bs)) (kont1 : Option Bool) (mx1 : Nat) (i1 : Int) : tariff_named_L1 n l1 kont1 (mx1 + 1) i1 =
  bif decide (i1 < (l1.length : Int)) then
   (ix l1 i1).bind fun ex1 =>
   (lexer_Name n ex1).bind fun v1 =>
   (bif !v1 then
    some true
   else
    (lsl l1 0 i1).bind fun l2 =>
    (slices_Contains_string_string n l2 ex1).bind fun v3 =>
    some v3).bind fun v2 =>
   bif v2 then
    some false
   else
    tariff_named_L1 n l1 kont1 mx1 (iadd .i64 i1 1)
  else
   kont1 := rfl
def tariff_named (n : Nat) (l1 : (List Bs)) : Option Bool :=
 tariff_named_L1 n l1 (
  some (decide ((l1.length : Int) ≤ 6))) n 0
set_option maxHeartbeats 1000000 in
set_option maxRecDepth 1000000 in
theorem tariff_named_ok (n : Nat) (l1 : (List Bs)) (r : Bool) (hm : tariff_named n l1 = some r) {w : World} {F : Frz} (hs : Sat F w) {as1 : Option Addr} {ns1 : Nat} {cs1 : Nat} (hs1 : SlR Rp.str F as1 ns1 cs1 l1) :
  Calls Tryz.prog 44 #[.slice as1 ns1 cs1] w fun e w' => e = .returned (.bool r) ∧ w' = w := by
 unfold tariff_named at hm
 have h := HS.init hs
 refine calls_of 26 Tryz.func44 rfl rfl rfl ?_
 refine c_seq (c_region (r_assign rfl rfl rfl (r_nil (q_then (c_seq (c_seq (c_region (r_move rfl rfl rfl ?_))))))))
 refine r_lenS hs1.len u27 rfl rfl rfl ?_
 refine r_move rfl rfl rfl (r_nil (q_then (c_block ?_)))
 intro a hax4
 obtain ⟨kont1, hkont1⟩ : ∃ kont1 : Option Bool, kont1 = (
       some (decide ((l1.length : Int) ≤ 6))) := ⟨_, rfl⟩
 replace hm : (fun m (s : Int) => tariff_named_L1 n l1 kont1 m s) n 0 = some r := by rw [hkont1]; exact hm
 refine loopX (id := 0) (fun m (s : Int) => tariff_named_L1 n l1 kont1 m s) (fun (y : Unit) => kont1) r (fun (s : Int) a w' => w = w' ∧ Has 26 a [(0, .slice as1 ns1 cs1), (5, .slice as1 ns1 cs1), (6, .int .i64 (l1.length : Int)), (7, .int .i64 s)]) (fun (y : Unit) a w' => w = w' ∧ Has 26 a [(0, .slice as1 ns1 cs1)]) (fun _ => rfl) ?_ ?_ hm ⟨rfl, hax4.cut (l := [0, 5, 6, 7]) rfl⟩
 ·clear hm; rintro _u a wx1 hm ⟨rfl, hax1⟩
  rw [hkont1] at hm
  refine qw_apply (e := .exit 0) hax1 ?_
  refine q_block_hit (q_then (c_seq (c_region (r_move rfl rfl rfl ?_))))
  refine r_lenS hs1.len u27 rfl rfl rfl ?_
  refine r_bin rfl rfl rfl rfl rfl ?_
  refine r_assign rfl rfl rfl (r_nil (q_then (c_ret ?_)))
  refine b_ret1 rfl rfl ?_
  obtain rfl := Option.some.inj hm
  exact ⟨rfl, rfl⟩
 ·clear hm hkont1; intro hk1 mx1 K ihx1
  rintro i1 a wx2 hm ⟨rfl, hax2⟩
  simp only [tariff_named_L1_s] at hm
  refine cw_apply hax2 ?_
  refine c_seq (c_region ?_)
  refine r_bin rfl rfl rfl rfl rfl ?_
  refine r_nil (q_then (c_seq ?_))
  rcases cond_some hm with ⟨hb1, hm⟩ | ⟨hb1, hm⟩
  ·refine c_lit 8 rfl hb1 ?_
   refine c_true rfl (c_skip (q_then (c_seq (c_block (c_seq (c_region (r_move rfl rfl rfl ?_)))))))
   obtain ⟨ex1, he1, hm⟩ := bind_some hm
   refine r_findex (r := Rp.str) u27 sz9 rfl rfl rfl rfl hs1 he1 ?_
   intro b1 o1 cs1 hf1 hr1
   have hc1 : cs1 = [vs ex1] := hr1
   subst hc1
   refine r_loadF1 (j := 0) ag9 rfl rfl h hf1 rfl rfl ?_
   refine r_assign rfl rfl rfl (r_assign rfl rfl rfl (r_nil (q_then (c_seq (c_region (r_move rfl rfl rfl ?_))))))
   obtain ⟨v1, hv1, hm⟩ := bind_some hm
   refine r_callP0 ent61 rfl rfl rfl rfl (lexer_Name_ok _ _ _ hv1) ?_
   refine r_not rfl rfl rfl (r_move rfl rfl rfl ?_)
   obtain ⟨v2, hb2, hm⟩ := bind_some hm
   refine r_mid 6 (fun a w' => w = w' ∧ Has 26 a [(0, .slice as1 ns1 cs1), (5, .slice as1 ns1 cs1), (6, .int .i64 (l1.length : Int)), (7, .int .i64 i1), (21, .bool v2)]) ?_ ?_
   ·rintro a wx3 ⟨rfl, hax3⟩
    refine rw_apply hax3 ?_
    refine r_nil (q_then ?_)
    rcases cond_some hm with ⟨hb3, hm⟩ | ⟨hb3, hm⟩
    ·refine c_lit 21 rfl hb3 ?_
     refine c_true rfl (c_seq (c_region (r_assign rfl rfl rfl (r_nil (q_then (c_ret (q_block_ret (q_then_ret (q_then_ret (q_block_ret (q_then_ret ?_)))))))))))
     refine b_ret1 rfl rfl ?_
     obtain rfl := Option.some.inj hm
     exact ⟨rfl, rfl⟩
    ·refine c_lit 21 rfl hb3 ?_
     refine c_false rfl (c_skip (q_block (q_then (c_region ?_))))
     refine r_bin rfl rfl rfl rfl rfl ?_
     refine r_move rfl rfl rfl (r_nil ?_)
     refine q_next (fun a ha => ihx1 (iadd .i64 i1 1) a _ hm ?_)
     exact ⟨rfl, ha.cut (l := [0, 5, 6, 7]) rfl⟩
   ·clear hm
    rcases cond_some hb2 with ⟨hb4, hb2⟩ | ⟨hb4, hb2⟩
    ·refine r_lit 15 rfl hb4 ?_
     refine r_off rfl (by decide) rfl (r_off rfl (by decide) rfl (r_off rfl (by decide) rfl (r_off rfl (by decide) rfl (r_off rfl (by decide) rfl (r_pick_true rfl rfl rfl rfl (r_nil ?_))))))
     refine q_next (fun a ha => ?_)
     cases hb2
     exact ⟨rfl, ha.cut (l := [0, 5, 6, 7, 21]) rfl⟩
    ·refine r_lit 15 rfl hb4 ?_
     refine r_move rfl rfl rfl (r_move rfl rfl rfl ?_)
     obtain ⟨l2, hc2, hb2⟩ := bind_some hb2
     refine r_fsl_h u27 (r := Rp.str) sz9 rfl rfl rfl rfl hs1 hc2 ?_
     intro as2 ns2 cs2 hs2
     refine r_move rfl rfl rfl ?_
     obtain ⟨v3, hv2, hb2⟩ := bind_some hb2
     refine r_callP0 ent69 rfl rfl rfl rfl (slices_Contains_string_string_ok _ _ _ _ hv2 h.sat hs2) ?_
     refine r_pick_false rfl rfl rfl rfl (r_nil ?_)
     refine q_next (fun a ha => ?_)
     cases hb2
     exact ⟨rfl, ha.cut (l := [0, 5, 6, 7, 21]) rfl⟩
  ·refine c_lit 8 rfl hb1 ?_
   refine c_false rfl (c_exit (q_then_exit (q_then_exit ?_)))
   refine fun a ha => hk1 () a _ hm ?_
   exact ⟨rfl, ha.cut (l := [0]) rfl⟩
def tariff_join (_n : Nat) (ax1 : Int) (b1 : Int) : Option (Int × Int) :=
 (bif ax1 == 0 then
  some true
 else
  some (b1 == 0)).bind fun v1 =>
 bif v1 then
  some (0, 13)
 else
  (bif ax1 == 2 then
   some true
  else
   some (b1 == 2)).bind fun v2 =>
  bif v2 then
   some (2, 0)
  else
   some (1, 0)
set_option maxHeartbeats 1000000 in
set_option maxRecDepth 1000000 in
theorem tariff_join_ok (n : Nat) (ax1 : Int) (b1 : Int) (r : (Int × Int)) (hm : tariff_join n ax1 b1 = some r) {w : World}  :
  Calls Tryz.prog 72 #[.int .i64 ax1, .int .i64 b1] w fun e w' => e = .returned (.tuple #[.int .i64 r.1, .int .i64 r.2]) ∧ w' = w := by
 unfold tariff_join at hm
 refine calls_of 20 Tryz.func72 rfl rfl rfl ?_
 refine c_seq (c_region (r_assign rfl rfl rfl (r_assign rfl rfl rfl (r_nil (q_then (c_seq (c_block (c_seq (c_region (r_move rfl rfl rfl ?_))))))))))
 refine r_bin rfl rfl rfl rfl rfl ?_
 refine r_move rfl rfl rfl ?_
 obtain ⟨v1, hb1, hm⟩ := bind_some hm
 refine r_mid 3 (fun a w' => w = w' ∧ Has 20 a [(0, .int .i64 ax1), (1, .int .i64 b1), (12, .bool v1)]) ?_ ?_
 ·rintro a wx1 ⟨rfl, hax1⟩
  refine rw_apply hax1 ?_
  refine r_assign rfl rfl rfl (r_nil (q_then ?_))
  rcases cond_some hm with ⟨hb2, hm⟩ | ⟨hb2, hm⟩
  ·refine c_lit 6 rfl hb2 ?_
   refine c_true rfl (c_seq (c_region (r_assign rfl rfl rfl (r_assign rfl rfl rfl (r_nil (q_then (c_ret (q_block_ret (q_then_ret ?_)))))))))
   refine b_retA (vl := [.int .i64 0, .int .i64 13]) rfl ⟨v_tmp rfl, v_tmp rfl, trivial⟩ (by simp) ?_
   obtain rfl := Option.some.inj hm
   exact ⟨rfl, rfl⟩
  ·refine c_lit 6 rfl hb2 ?_
   refine c_false rfl (c_seq (c_region (r_move rfl rfl rfl ?_)))
   refine r_bin rfl rfl rfl rfl rfl ?_
   refine r_move rfl rfl rfl ?_
   obtain ⟨v2, hb3, hm⟩ := bind_some hm
   refine r_mid 3 (fun a w' => w = w' ∧ Has 20 a [(19, .bool v2)]) ?_ ?_
   ·rintro a wx2 ⟨rfl, hax2⟩
    refine rw_apply hax2 ?_
    refine r_assign rfl rfl rfl (r_nil (q_then ?_))
    rcases cond_some hm with ⟨hb4, hm⟩ | ⟨hb4, hm⟩
    ·refine c_lit 13 rfl hb4 ?_
     refine c_true rfl (c_seq (c_region (r_assign rfl rfl rfl (r_assign rfl rfl rfl (r_nil (q_then (c_ret (q_block_ret (q_then_ret ?_)))))))))
     refine b_retA (vl := [.int .i64 2, .int .i64 0]) rfl ⟨v_tmp rfl, v_tmp rfl, trivial⟩ (by simp) ?_
     obtain rfl := Option.some.inj hm
     exact ⟨rfl, rfl⟩
    ·refine c_lit 13 rfl hb4 ?_
     refine c_false rfl (c_skip (q_block (q_then (c_seq (c_region (r_assign rfl rfl rfl (r_assign rfl rfl rfl (r_nil (q_then (c_ret ?_))))))))))
     refine b_retA (vl := [.int .i64 1, .int .i64 0]) rfl ⟨v_tmp rfl, v_tmp rfl, trivial⟩ (by simp) ?_
     obtain rfl := Option.some.inj hm
     exact ⟨rfl, rfl⟩
   ·clear hm
    rcases cond_some hb3 with ⟨hb5, hb3⟩ | ⟨hb5, hb3⟩
    ·refine r_lit 16 rfl hb5 ?_
     refine r_off rfl (by decide) rfl (r_off rfl (by decide) rfl (r_pick_true rfl rfl rfl rfl (r_nil ?_)))
     refine q_next (fun a ha => ?_)
     cases hb3
     exact ⟨rfl, ha.cut (l := [19]) rfl⟩
    ·refine r_lit 16 rfl hb5 ?_
     refine r_move rfl rfl rfl ?_
     refine r_bin rfl rfl rfl rfl rfl ?_
     refine r_pick_false rfl rfl rfl rfl (r_nil ?_)
     refine q_next (fun a ha => ?_)
     cases hb3
     exact ⟨rfl, ha.cut (l := [19]) rfl⟩
 ·clear hm
  rcases cond_some hb1 with ⟨hb6, hb1⟩ | ⟨hb6, hb1⟩
  ·refine r_lit 9 rfl hb6 ?_
   refine r_off rfl (by decide) rfl (r_off rfl (by decide) rfl (r_pick_true rfl rfl rfl rfl (r_nil ?_)))
   refine q_next (fun a ha => ?_)
   cases hb1
   exact ⟨rfl, ha.cut (l := [0, 1, 12]) rfl⟩
  ·refine r_lit 9 rfl hb6 ?_
   refine r_move rfl rfl rfl ?_
   refine r_bin rfl rfl rfl rfl rfl ?_
   refine r_pick_false rfl rfl rfl rfl (r_nil ?_)
   refine q_next (fun a ha => ?_)
   cases hb1
   exact ⟨rfl, ha.cut (l := [0, 1, 12]) rfl⟩
def tariff_args (_n : Nat) (op1 : Int) : Option Int :=
 bif decide (op1 ≤ 4) then
  some 0
 else
  bif op1 == 14 then
   some 1
  else
   bif op1 == 11 then
    some 3
   else
    some 2
set_option maxHeartbeats 1000000 in
set_option maxRecDepth 1000000 in
theorem tariff_args_ok (n : Nat) (op1 : Int) (r : Int) (hm : tariff_args n op1 = some r) {w : World}  :
  Calls Tryz.prog 92 #[.int .i64 op1] w fun e w' => e = .returned (.int .i64 r) ∧ w' = w := by
 unfold tariff_args at hm
 refine calls_of 12 Tryz.func92 rfl rfl rfl ?_
 refine c_seq (c_region (r_assign rfl rfl rfl (r_nil (q_then (c_seq (c_block (c_seq (c_region (r_move rfl rfl rfl ?_)))))))))
 refine r_bin rfl rfl rfl rfl rfl ?_
 refine r_assign rfl rfl rfl (r_nil (q_then ?_))
 rcases cond_some hm with ⟨hb1, hm⟩ | ⟨hb1, hm⟩
 ·refine c_lit 3 rfl hb1 ?_
  refine c_true rfl (c_seq (c_region (r_assign rfl rfl rfl (r_nil (q_then (c_ret (q_block_ret (q_then_ret ?_))))))))
  refine b_ret1 rfl rfl ?_
  obtain rfl := Option.some.inj hm
  exact ⟨rfl, rfl⟩
 ·refine c_lit 3 rfl hb1 ?_
  refine c_false rfl (c_seq (c_region (r_move rfl rfl rfl ?_)))
  refine r_bin rfl rfl rfl rfl rfl ?_
  refine r_assign rfl rfl rfl (r_nil (q_then ?_))
  rcases cond_some hm with ⟨hb2, hm⟩ | ⟨hb2, hm⟩
  ·refine c_lit 6 rfl hb2 ?_
   refine c_true rfl (c_seq (c_region (r_assign rfl rfl rfl (r_nil (q_then (c_ret (q_block_ret (q_then_ret ?_))))))))
   refine b_ret1 rfl rfl ?_
   obtain rfl := Option.some.inj hm
   exact ⟨rfl, rfl⟩
  ·refine c_lit 6 rfl hb2 ?_
   refine c_false rfl (c_seq (c_region (r_move rfl rfl rfl ?_)))
   refine r_bin rfl rfl rfl rfl rfl ?_
   refine r_assign rfl rfl rfl (r_nil (q_then ?_))
   rcases cond_some hm with ⟨hb3, hm⟩ | ⟨hb3, hm⟩
   ·refine c_lit 9 rfl hb3 ?_
    refine c_true rfl (c_seq (c_region (r_assign rfl rfl rfl (r_nil (q_then (c_ret (q_block_ret (q_then_ret ?_))))))))
    refine b_ret1 rfl rfl ?_
    obtain rfl := Option.some.inj hm
    exact ⟨rfl, rfl⟩
   ·refine c_lit 9 rfl hb3 ?_
    refine c_false rfl (c_skip (q_block (q_then (c_seq (c_region (r_assign rfl rfl rfl (r_nil (q_then (c_ret ?_)))))))))
    refine b_ret1 rfl rfl ?_
    obtain rfl := Option.some.inj hm
    exact ⟨rfl, rfl⟩
theorem u84 : Tryz.prog.underlying 84 = some (.slice 3) := by kernel_rfl
def slices_IndexFunc_int_int_L1 (n : Nat) (s1 : (List Int)) (f1 : (Int → Option Bool)) (kont1 : Option Int) : Nat → Int → Option Int
 | 0, _ => none
 | mx1 + 1, i1 =>
  bif decide (i1 < (s1.length : Int)) then
   (ix s1 i1).bind fun ex1 =>
   (f1 ex1).bind fun v1 =>
   bif v1 then
    some i1
   else
    slices_IndexFunc_int_int_L1 n s1 f1 kont1 mx1 (iadd .i64 i1 1)
  else
   kont1
theorem slices_IndexFunc_int_int_L1_s (n : Nat) (s1 : (List Int)) (f1 : (Int → Option Bool)) (kont1 : Option Int) (mx1 : Nat) (i1 : Int) : slices_IndexFunc_int_int_L1 n s1 f1 kont1 (mx1 + 1) i1 =
  bif decide (i1 < (s1.length : Int)) then
   (ix s1 i1).bind fun ex1 =>
   (f1 ex1).bind fun v1 =>
   bif v1 then
    some i1
   else
    slices_IndexFunc_int_int_L1 n s1 f1 kont1 mx1 (iadd .i64 i1 1)
  else
   kont1 := rfl
def slices_IndexFunc_int_int (n : Nat) (s1 : (List Int)) (f1 : (Int → Option Bool)) : Option Int :=
 slices_IndexFunc_int_int_L1 n s1 f1 (
  some (-1)) n 0
set_option maxHeartbeats 1000000 in
set_option maxRecDepth 1000000 in
theorem slices_IndexFunc_int_int_ok (n : Nat) (s1 : (List Int)) (f1 : (Int → Option Bool)) (r : Int) (hm : slices_IndexFunc_int_int n s1 f1 = some r) {w : World} {F : Frz} (hs : Sat F w) {as2 : Option Addr} {ns2 : Nat} {cs2 : Nat} {fvf1 : Value} (hs2 : SlR (Rp.int .i64) F as2 ns2 cs2 s1) (hpff1 : GFn Tryz.prog F fvf1 (fun _ l v => ∃ (q0 : Int) (b : Bool), l = [.int .i64 q0] ∧ v = some (.bool b) ∧ f1 q0 = some b)) :
  Calls Tryz.prog 106 #[.slice as2 ns2 cs2, fvf1] w fun e w' => ∃ v F' O', e = .returned v ∧ HS F w [] F' O' w' ∧ (v = .int .i64 r ∧ O' = []) := by
 unfold slices_IndexFunc_int_int at hm
 have h := HS.init hs
 refine calls_of 19 Tryz.func106 rfl rfl rfl ?_
 refine c_seq (c_region (r_assign rfl rfl rfl (r_nil (q_then (c_seq (c_seq (c_region (r_move rfl rfl rfl ?_))))))))
 refine r_lenS hs2.len u84 rfl rfl rfl ?_
 refine r_move rfl rfl rfl (r_nil (q_then (c_block ?_)))
 intro a hax3
 obtain ⟨kont1, hkont1⟩ : ∃ kont1 : Option Int, kont1 = (
       some (-1)) := ⟨_, rfl⟩
 replace hm : (fun m (s : Int) => slices_IndexFunc_int_int_L1 n s1 f1 kont1 m s) n 0 = some r := by rw [hkont1]; exact hm
 refine loopX (id := 0) (fun m (s : Int) => slices_IndexFunc_int_int_L1 n s1 f1 kont1 m s) (fun (y : Unit) => kont1) r (fun (s : Int) a w' => ∃ (Fx1 : Frz), Frz.le F Fx1 ∧ HS F w [] Fx1 [] w' ∧ Has 19 a [(0, .slice as2 ns2 cs2), (1, fvf1), (7, .int .i64 (s1.length : Int)), (8, .int .i64 s)]) (fun (y : Unit) a w' => ∃ (Fx2 : Frz), Frz.le F Fx2 ∧ HS F w [] Fx2 [] w' ∧ Has 19 a []) (fun _ => rfl) ?_ ?_ hm ⟨_, Frz.refl _, h.pick [] (by decide) rfl, hax3.cut (l := [0, 1, 7, 8]) rfl⟩
 ·clear hm; rintro _u a wx1 hm ⟨Fx2, hF2, hx2, hax1⟩
  rw [hkont1] at hm
  refine qw_apply (e := .exit 0) hax1 ?_
  refine q_block_hit (q_then (c_seq (c_region (r_assign rfl rfl rfl (r_nil (q_then (c_ret ?_)))))))
  refine b_ret1 rfl rfl ?_
  obtain rfl := Option.some.inj hm
  exact ⟨_, _, _, rfl, hx2.pick [] (by decide) rfl, rfl, rfl⟩
 ·clear hm hkont1; intro hk1 mx1 K ihx1
  rintro i1 a wx2 hm ⟨Fx1, hF1, hx1, hax2⟩
  simp only [slices_IndexFunc_int_int_L1_s] at hm
  refine cw_apply hax2 ?_
  refine c_seq (c_region ?_)
  refine r_bin rfl rfl rfl rfl rfl ?_
  refine r_nil (q_then (c_seq ?_))
  rcases cond_some hm with ⟨hb1, hm⟩ | ⟨hb1, hm⟩
  ·refine c_lit 9 rfl hb1 ?_
   refine c_true rfl (c_skip (q_then (c_seq (c_block (c_seq (c_region (r_move rfl rfl rfl (r_assign rfl rfl rfl (r_nil (q_then (c_seq (c_region (r_move rfl rfl rfl (r_move rfl rfl rfl (r_move rfl rfl rfl ?_)))))))))))))))
   obtain ⟨ex1, he1, hm⟩ := bind_some hm
   refine r_findex (r := (Rp.int .i64)) u84 sz3 rfl rfl rfl rfl (hs2.mono hF1) he1 ?_
   intro b1 o1 cs1 hf1 hr1
   have hc1 : cs1 = [.int .i64 ex1] := hr1
   subst hc1
   refine r_loadF1 (j := 0) ag3 rfl rfl hx1 hf1 rfl rfl ?_
   obtain ⟨v1, hv1, hm⟩ := bind_some hm
   refine r_callGF (hpff1.mono hF1) rfl rfl rfl rfl hx1 ⟨_, _, rfl, rfl, hv1⟩ ?_
   intro Fx3 wx3 hF3 hx3
   refine r_nil (q_then ?_)
   rcases cond_some hm with ⟨hb2, hm⟩ | ⟨hb2, hm⟩
   ·refine c_lit 16 rfl hb2 ?_
    refine c_true rfl (c_seq (c_region (r_move rfl rfl rfl (r_assign rfl rfl rfl (r_nil (q_then (c_ret (q_block_ret (q_then_ret (q_then_ret (q_block_ret (q_then_ret ?_))))))))))))
    refine b_ret1 rfl rfl ?_
    obtain rfl := Option.some.inj hm
    exact ⟨_, _, _, rfl, hx3.pick [] (by decide) rfl, rfl, rfl⟩
   ·refine c_lit 16 rfl hb2 ?_
    refine c_false rfl (c_skip (q_block (q_then (c_region ?_))))
    refine r_bin rfl rfl rfl rfl rfl ?_
    refine r_move rfl rfl rfl (r_nil ?_)
    refine q_next (fun a ha => ihx1 (iadd .i64 i1 1) a _ hm ?_)
    exact ⟨_, (hF1.trans hF3), hx3.pick [] (by decide) rfl, ha.cut (l := [0, 1, 7, 8]) rfl⟩
  ·refine c_lit 9 rfl hb1 ?_
   refine c_false rfl (c_exit (q_then_exit (q_then_exit ?_)))
   refine fun a ha => hk1 () a _ hm ?_
   exact ⟨_, hF1, hx1.pick [] (by decide) rfl, ha.cut (l := []) rfl⟩
theorem ent106 : Ent Tryz.prog 106 := fun _ _ => by kernel_rfl
def slices_ContainsFunc_int_int (n : Nat) (s1 : (List Int)) (f1 : (Int → Option Bool)) : Option Bool :=
 (slices_IndexFunc_int_int n s1 f1).bind fun v1 =>
 some (decide (0 ≤ v1))
set_option maxHeartbeats 1000000 in
set_option maxRecDepth 1000000 in
theorem slices_ContainsFunc_int_int_ok (n : Nat) (s1 : (List Int)) (f1 : (Int → Option Bool)) (r : Bool) (hm : slices_ContainsFunc_int_int n s1 f1 = some r) {w : World} {F : Frz} (hs : Sat F w) {as2 : Option Addr} {ns2 : Nat} {cs2 : Nat} {fvf1 : Value} (hs2 : SlR (Rp.int .i64) F as2 ns2 cs2 s1) (hpff1 : GFn Tryz.prog F fvf1 (fun _ l v => ∃ (q0 : Int) (b : Bool), l = [.int .i64 q0] ∧ v = some (.bool b) ∧ f1 q0 = some b)) :
  Calls Tryz.prog 95 #[.slice as2 ns2 cs2, fvf1] w fun e w' => ∃ v F' O', e = .returned v ∧ HS F w [] F' O' w' ∧ (v = .bool r ∧ O' = []) := by
 unfold slices_ContainsFunc_int_int at hm
 have h := HS.init hs
 refine calls_of 9 Tryz.func95 rfl rfl rfl ?_
 refine c_seq (c_region (r_assign rfl rfl rfl (r_nil (q_then (c_seq (c_region (r_move rfl rfl rfl (r_move rfl rfl rfl ?_))))))))
 obtain ⟨v1, hv1, hm⟩ := bind_some hm
 refine r_callG0 ent106 rfl rfl rfl rfl h (slices_IndexFunc_int_int_ok _ _ _ _ hv1 h.sat hs2 hpff1) ?_
 rintro _ Fx1 _ wx1 hF1 hx1 ⟨rfl, rfl⟩
 refine r_bin rfl rfl rfl rfl rfl ?_
 refine r_assign rfl rfl rfl (r_nil (q_then (c_ret ?_)))
 refine b_ret1 rfl rfl ?_
 obtain rfl := Option.some.inj hm
 exact ⟨_, _, _, rfl, hx1.pick [] (by decide) rfl, rfl, rfl⟩
def tariff_all_1 (_n : Nat) (nx1 : Int) (cap1 : Int) : Option Bool :=
 some (nx1 != cap1)
set_option maxHeartbeats 1000000 in
set_option maxRecDepth 1000000 in
theorem tariff_all_1_ok (n : Nat) (nx1 : Int) (cap1 : Int) (r : Bool) (hm : tariff_all_1 n nx1 cap1 = some r) {w : World} {F : Frz} (hs : Sat F w) {bcap1 : Nat} (hccap1 : FC F bcap1 0 [.int .i64 cap1]) :
  Calls Tryz.prog 96 #[.int .i64 nx1, .pointer (some ⟨bcap1, 0, none⟩)] w fun e w' => e = .returned (.bool r) ∧ w' = w := by
 unfold tariff_all_1 at hm
 have h := HS.init hs
 refine calls_of 7 Tryz.func96 rfl rfl rfl ?_
 refine c_seq (c_region (r_assign rfl rfl rfl (r_nil (q_then (c_seq (c_region (r_move rfl rfl rfl ?_)))))))
 refine r_loadF1 (j := 0) ag3 rfl rfl h hccap1 rfl rfl ?_
 refine r_bin rfl rfl rfl rfl rfl ?_
 refine r_assign rfl rfl rfl (r_nil (q_then (c_ret ?_)))
 refine b_ret1 rfl rfl ?_
 obtain rfl := Option.some.inj hm
 exact ⟨rfl, rfl⟩
theorem ent96 : Ent Tryz.prog 96 := fun _ _ => by kernel_rfl
theorem ent95 : Ent Tryz.prog 95 := fun _ _ => by kernel_rfl
def tariff_all (n : Nat) (k1 : Int) (l1 : (List Int)) (want1 : Int) : Option (Int × Int) :=
 (slices_ContainsFunc_int_int n l1 (fun (q0 : Int) => tariff_all_1 n q0 want1)).bind fun v1 =>
 bif v1 then
  some (0, 13)
 else
  some (k1, 0)
set_option maxHeartbeats 1000000 in
set_option maxRecDepth 1000000 in
theorem tariff_all_ok (n : Nat) (k1 : Int) (l1 : (List Int)) (want1 : Int) (r : (Int × Int)) (hm : tariff_all n k1 l1 want1 = some r) {w : World} {F : Frz} (hs : Sat F w) {as1 : Option Addr} {ns1 : Nat} {cs1 : Nat} (hs1 : SlR (Rp.int .i64) F as1 ns1 cs1 l1) :
  Calls Tryz.prog 71 #[.int .i64 k1, .slice as1 ns1 cs1, .int .i64 want1] w fun e w' => ∃ v F' O', e = .returned v ∧ HS F w [] F' O' w' ∧ (v = .tuple #[.int .i64 r.1, .int .i64 r.2] ∧ O' = []) := by
 unfold tariff_all at hm
 have h := HS.init hs
 refine calls_of 12 Tryz.func71 rfl rfl rfl ?_
 refine c_seq (c_region ?_)
 refine r_box rfl rfl rfl rfl h ?_
 intro b1 wx1 hx1
 refine r_assign rfl rfl rfl (r_assign rfl rfl rfl (r_nil (q_then (c_seq (c_seq (c_region (r_move rfl rfl rfl ?_)))))))
 obtain ⟨Fx1, hF1, hx2, hc1⟩ := freezeBox hx1 (i := 0) rfl
 refine r_makeFunc rfl rfl rfl ?_
 obtain ⟨v1, hv1, hm⟩ := bind_some hm
 refine r_callG0 ent95 rfl rfl rfl rfl hx2 (slices_ContainsFunc_int_int_ok _ _ _ _ hv1 hx2.sat (hs1.mono hF1) (show GFn Tryz.prog _ (.func (.func 96) #[] #[.pointer (some ⟨b1, 0, none⟩)]) (fun _ l v => ∃ (q0 : Int) (b : Bool), l = [.int .i64 q0] ∧ v = some (.bool b) ∧ (fun (q0 : Int) => tariff_all_1 n q0 want1) q0 = some b) from ⟨96, #[.pointer (some ⟨b1, 0, none⟩)], rfl, ent96, fun F' hF' args r w hsat h => by
                               obtain ⟨q0, b, rfl, hv, hb⟩ := h
                               obtain rfl := Option.some.inj hv
                               exact (tariff_all_1_ok n q0 want1 _ hb hsat (FC.mono hF' hc1)).mono (by rintro _ _ ⟨rfl, rfl⟩; exact ⟨_, F', [], rfl, HS.init hsat, rfl, rfl⟩)⟩)) ?_
 rintro _ Fx2 _ wx2 hF2 hx3 ⟨rfl, rfl⟩
 refine r_nil (q_then ?_)
 rcases cond_some hm with ⟨hb1, hm⟩ | ⟨hb1, hm⟩
 ·refine c_lit 10 rfl hb1 ?_
  refine c_true rfl (c_seq (c_region (r_assign rfl rfl rfl (r_assign rfl rfl rfl (r_nil (q_then (c_ret (q_then_ret ?_))))))))
  refine b_retA (vl := [.int .i64 0, .int .i64 13]) rfl ⟨v_tmp rfl, v_tmp rfl, trivial⟩ (by simp) ?_
  obtain rfl := Option.some.inj hm
  exact ⟨_, _, _, rfl, hx3.pick [] (by decide) rfl, rfl, rfl⟩
 ·refine c_lit 10 rfl hb1 ?_
  refine c_false rfl (c_skip (q_then (c_seq (c_region (r_move rfl rfl rfl (r_assign rfl rfl rfl (r_assign rfl rfl rfl (r_nil (q_then (c_ret ?_))))))))))
  refine b_retA (vl := [.int .i64 k1, .int .i64 0]) rfl ⟨v_tmp rfl, v_tmp rfl, trivial⟩ (by simp) ?_
  obtain rfl := Option.some.inj hm
  exact ⟨_, _, _, rfl, hx3.pick [] (by decide) rfl, rfl, rfl⟩
theorem ent71 : Ent Tryz.prog 71 := fun _ _ => by kernel_rfl
theorem ent72 : Ent Tryz.prog 72 := fun _ _ => by kernel_rfl
theorem ent46 : Ent Tryz.prog 46 := fun _ _ => by kernel_rfl
theorem ap84 : AppIs Tryz.prog 84 3 1 8 := AppIs.of (z := .int .i64 0) (by kernel_rfl) (by kernel_rfl) rfl (by decide) (by decide)
def tariff_typed_L1 (n : Nat) (rec_tariff_typed : Expr → (List Bs) → Option (Int × Int)) (x1 : Expr) (names1 : (List Bs)) (kont1 : (List Int) → Option (Int × Int)) : Nat → Int → (List Int) → Option (Int × Int)
 | 0, _, _ => none
 | mx1 + 1, i1, l1 =>
  bif decide (i1 < (x1.Args.length : Int)) then
   (ix x1.Args i1).bind fun ex13 =>
   (rec_tariff_typed ex13 names1).bind fun v13 =>
   bif v13.2 != 0 then
    some (0, v13.2)
   else
    (app 8 l1 [v13.1]).bind fun l3 =>
    tariff_typed_L1 n rec_tariff_typed x1 names1 kont1 mx1 (iadd .i64 i1 1) l3
  else
   kont1 l1
theorem tariff_typed_L1_s (n : Nat) (rec_tariff_typed : Expr → (List Bs) → Option (Int × Int)) (x1 : Expr) (names1 : (List Bs)) (kont1 : (List Int) → Option (Int × Int)) (mx1 : Nat) (i1 : Int) (l1 : List Int) : tariff_typed_L1 n rec_tariff_typed x1 names1 kont1 (mx1 + 1) i1 l1 =
  bif decide (i1 < (x1.Args.length : Int)) then
   (ix x1.Args i1).bind fun ex13 =>
   (rec_tariff_typed ex13 names1).bind fun v13 =>
   bif v13.2 != 0 then
    some (0, v13.2)
   else
    (app 8 l1 [v13.1]).bind fun l3 =>
    tariff_typed_L1 n rec_tariff_typed x1 names1 kont1 mx1 (iadd .i64 i1 1) l3
  else
   kont1 l1 := rfl
def tariff_typed : Nat → Expr → (List Bs) → Option (Int × Int)
 | 0, _, _ => none
 | n + 1, x1, names1 =>
  tariff_typed_L1 n (tariff_typed n) x1 names1 (fun (l2 : List Int) =>
   (bif x1.Op == 1 then
    some true
   else
    some (x1.Op == 4)).bind fun v1 =>
   bif v1 then
    (slices_Contains_string_string n names1 x1.Name).bind fun v2 =>
    bif !v2 then
     some (0, 11)
    else
     bif x1.Op == 4 then
      some (2, 0)
     else
      some (1, 0)
   else
    (bif x1.Op == 0 then
     some true
    else
     bif x1.Op == 2 then
      some true
     else
      some (x1.Op == 3)).bind fun v3 =>
    bif v3 then
     some (1, 0)
    else
     (bif x1.Op == 12 then
      some true
     else
      some (x1.Op == 13)).bind fun v4 =>
     bif v4 then
      (tariff_all n 0 l2 1).bind fun v5 =>
      some (v5.1, v5.2)
     else
      (bif x1.Op == 14 then
       some true
      else
       bif x1.Op == 15 then
        some true
       else
        some (x1.Op == 16)).bind fun v6 =>
      bif v6 then
       (tariff_all n 0 l2 0).bind fun v7 =>
       some (v7.1, v7.2)
      else
       bif x1.Op == 11 then
        (ix l2 0).bind fun ex1 =>
        bif ex1 != 0 then
         some (0, 13)
        else
         (ix l2 1).bind fun ex2 =>
         (ix l2 2).bind fun ex3 =>
         (tariff_join n ex2 ex3).bind fun v8 =>
         some (v8.1, v8.2)
       else
        bif x1.Op == 7 then
         (ix l2 0).bind fun ex4 =>
         (bif ex4 == 2 then
          (ix l2 1).bind fun ex7 =>
          some (ex7 == 2)
         else
          some false).bind fun v9 =>
         bif v9 then
          some (0, 13)
         else
          (ix l2 0).bind fun ex5 =>
          (ix l2 1).bind fun ex6 =>
          (tariff_join n ex5 ex6).bind fun v10 =>
          some (v10.1, v10.2)
        else
         bif x1.Op == 8 then
          (ix x1.Args 1).bind fun ex8 =>
          bif ex8.Op != 0 then
           some (0, 13)
          else
           bif ex8.N == 0 then
            some (0, 14)
           else
            (ix l2 0).bind fun ex9 =>
            (ix l2 1).bind fun ex10 =>
            (tariff_join n ex9 ex10).bind fun v11 =>
            some (v11.1, v11.2)
         else
          (ix l2 0).bind fun ex11 =>
          (ix l2 1).bind fun ex12 =>
          (tariff_join n ex11 ex12).bind fun v12 =>
          some (v12.1, v12.2)) n 0 ([] : List Int)
theorem tariff_typed_s (n : Nat) (x1 : Expr) (names1 : (List Bs)) : tariff_typed (n + 1) x1 names1 =
  tariff_typed_L1 n (tariff_typed n) x1 names1 (fun (l2 : List Int) =>
   (bif x1.Op == 1 then
    some true
   else
    some (x1.Op == 4)).bind fun v1 =>
   bif v1 then
    (slices_Contains_string_string n names1 x1.Name).bind fun v2 =>
    bif !v2 then
     some (0, 11)
    else
     bif x1.Op == 4 then
      some (2, 0)
     else
      some (1, 0)
   else
    (bif x1.Op == 0 then
     some true
    else
     bif x1.Op == 2 then
      some true
     else
      some (x1.Op == 3)).bind fun v3 =>
    bif v3 then
     some (1, 0)
    else
     (bif x1.Op == 12 then
      some true
     else
      some (x1.Op == 13)).bind fun v4 =>
     bif v4 then
      (tariff_all n 0 l2 1).bind fun v5 =>
      some (v5.1, v5.2)
     else
      (bif x1.Op == 14 then
       some true
      else
       bif x1.Op == 15 then
        some true
       else
        some (x1.Op == 16)).bind fun v6 =>
      bif v6 then
       (tariff_all n 0 l2 0).bind fun v7 =>
       some (v7.1, v7.2)
      else
       bif x1.Op == 11 then
        (ix l2 0).bind fun ex1 =>
        bif ex1 != 0 then
         some (0, 13)
        else
         (ix l2 1).bind fun ex2 =>
         (ix l2 2).bind fun ex3 =>
         (tariff_join n ex2 ex3).bind fun v8 =>
         some (v8.1, v8.2)
       else
        bif x1.Op == 7 then
         (ix l2 0).bind fun ex4 =>
         (bif ex4 == 2 then
          (ix l2 1).bind fun ex7 =>
          some (ex7 == 2)
         else
          some false).bind fun v9 =>
         bif v9 then
          some (0, 13)
         else
          (ix l2 0).bind fun ex5 =>
          (ix l2 1).bind fun ex6 =>
          (tariff_join n ex5 ex6).bind fun v10 =>
          some (v10.1, v10.2)
        else
         bif x1.Op == 8 then
          (ix x1.Args 1).bind fun ex8 =>
          bif ex8.Op != 0 then
           some (0, 13)
          else
           bif ex8.N == 0 then
            some (0, 14)
           else
            (ix l2 0).bind fun ex9 =>
            (ix l2 1).bind fun ex10 =>
            (tariff_join n ex9 ex10).bind fun v11 =>
            some (v11.1, v11.2)
         else
          (ix l2 0).bind fun ex11 =>
          (ix l2 1).bind fun ex12 =>
          (tariff_join n ex11 ex12).bind fun v12 =>
          some (v12.1, v12.2)) n 0 ([] : List Int) := rfl
set_option maxHeartbeats 1000000 in
set_option maxRecDepth 1000000 in
theorem tariff_typed_all (n : Nat) : (∀ (x1 : Expr) (names1 : (List Bs)) (r : (Int × Int)) (_ : tariff_typed n x1 names1 = some r) {w : World} {F : Frz} (_ : Sat F w) {as1 : Option Addr} {ns1 : Nat} {cs1 : Nat} {as2 : Option Addr} {ns2 : Nat} {cs2 : Nat} (_ : SlR rp_Expr F as1 ns1 cs1 x1.Args) (_ : SlR Rp.str F as2 ns2 cs2 names1), Calls Tryz.prog 46 #[.agg #[.int .i64 x1.Op, .int .i64 x1.N, vs x1.Name, .slice as1 ns1 cs1], .slice as2 ns2 cs2] w fun e w' => ∃ v F' O', e = .returned v ∧ HS F w [] F' O' w' ∧ (v = .tuple #[.int .i64 r.1, .int .i64 r.2] ∧ O' = [])) := by
 induction n with
 | zero =>
  ·intro x1 names1 r hm
   exact absurd (show (none : Option (Int × Int)) = some r from hm) (by simp)
 | succ n ih =>
  ·intro x1 names1 r hm w F hs as1 ns1 cs1 as2 ns2 cs2 hs1 hs2
   rw [tariff_typed_s] at hm
   have h := HS.init hs
   refine calls_of 113 Tryz.func46 rfl rfl rfl ?_
   refine c_seq (c_region ?_)
   refine r_box rfl rfl rfl rfl h ?_
   intro b1 wx1 hx1
   refine r_assign rfl rfl rfl (r_assign rfl rfl rfl (r_nil (q_then (c_seq (c_region (r_assign rfl rfl rfl (r_nil (q_then (c_seq (c_seq (c_region ?_)))))))))))
   refine r_fieldAddr fa24_3 rfl rfl rfl ?_
   refine r_loadB1 ag22 rfl rfl hx1 rfl (i := 0) rfl rfl ?_
   refine r_lenS hs1.len u22 rfl rfl rfl ?_
   refine r_move rfl rfl rfl (r_nil (q_then (c_block ?_)))
   have hx2 := hx1.nilRow 3 1
   intro a hax19
   obtain ⟨kont1, hkont1⟩ : ∃ kont1 : (List Int) → Option (Int × Int), kont1 = (fun (l2 : List Int) =>
       (bif x1.Op == 1 then
        some true
       else
        some (x1.Op == 4)).bind fun v1 =>
       bif v1 then
        (slices_Contains_string_string n names1 x1.Name).bind fun v2 =>
        bif !v2 then
         some (0, 11)
        else
         bif x1.Op == 4 then
          some (2, 0)
         else
          some (1, 0)
       else
        (bif x1.Op == 0 then
         some true
        else
         bif x1.Op == 2 then
          some true
         else
          some (x1.Op == 3)).bind fun v3 =>
        bif v3 then
         some (1, 0)
        else
         (bif x1.Op == 12 then
          some true
         else
          some (x1.Op == 13)).bind fun v4 =>
         bif v4 then
          (tariff_all n 0 l2 1).bind fun v5 =>
          some (v5.1, v5.2)
         else
          (bif x1.Op == 14 then
           some true
          else
           bif x1.Op == 15 then
            some true
           else
            some (x1.Op == 16)).bind fun v6 =>
          bif v6 then
           (tariff_all n 0 l2 0).bind fun v7 =>
           some (v7.1, v7.2)
          else
           bif x1.Op == 11 then
            (ix l2 0).bind fun ex1 =>
            bif ex1 != 0 then
             some (0, 13)
            else
             (ix l2 1).bind fun ex2 =>
             (ix l2 2).bind fun ex3 =>
             (tariff_join n ex2 ex3).bind fun v8 =>
             some (v8.1, v8.2)
           else
            bif x1.Op == 7 then
             (ix l2 0).bind fun ex4 =>
             (bif ex4 == 2 then
              (ix l2 1).bind fun ex7 =>
              some (ex7 == 2)
             else
              some false).bind fun v9 =>
             bif v9 then
              some (0, 13)
             else
              (ix l2 0).bind fun ex5 =>
              (ix l2 1).bind fun ex6 =>
              (tariff_join n ex5 ex6).bind fun v10 =>
              some (v10.1, v10.2)
            else
             bif x1.Op == 8 then
              (ix x1.Args 1).bind fun ex8 =>
              bif ex8.Op != 0 then
               some (0, 13)
              else
               bif ex8.N == 0 then
                some (0, 14)
               else
                (ix l2 0).bind fun ex9 =>
                (ix l2 1).bind fun ex10 =>
                (tariff_join n ex9 ex10).bind fun v11 =>
                some (v11.1, v11.2)
             else
              (ix l2 0).bind fun ex11 =>
              (ix l2 1).bind fun ex12 =>
              (tariff_join n ex11 ex12).bind fun v12 =>
              some (v12.1, v12.2)) := ⟨_, rfl⟩
   replace hm : (fun m (s : Int × List Int) => tariff_typed_L1 n (tariff_typed n) x1 names1 kont1 m s.1 s.2) n (0, ([] : List Int)) = some r := by rw [hkont1]; exact hm
   refine loopX (id := 0) (fun m (s : Int × List Int) => tariff_typed_L1 n (tariff_typed n) x1 names1 kont1 m s.1 s.2) (fun (y : List Int) => kont1 y) r (fun (s : Int × List Int) a w' => ∃ (Fx1 : Frz) (as3 : Option Addr) (ns3 : Nat) (cs3 : Nat) (xss3 : List Value), Frz.le F Fx1 ∧ HS F w [] Fx1 [.row 3 1 as3 ns3 cs3 xss3, .box b1 24 [.int .i64 x1.Op, .int .i64 x1.N, vs x1.Name, .slice as1 ns1 cs1]] w' ∧ (RowN (Rp.int .i64) Fx1 ns3 xss3 s.2) ∧ Has 113 a [(1, .slice as2 ns2 cs2), (2, .pointer (some ⟨b1, 0, none⟩)), (6, .slice as3 ns3 cs3), (13, .slice as1 ns1 cs1), (14, .int .i64 (x1.Args.length : Int)), (15, .int .i64 s.1)]) (fun (y : List Int) a w' => ∃ (Fx2 : Frz) (as4 : Option Addr) (ns4 : Nat) (cs4 : Nat) (xss4 : List Value), Frz.le F Fx2 ∧ HS F w [] Fx2 [.row 3 1 as4 ns4 cs4 xss4, .box b1 24 [.int .i64 x1.Op, .int .i64 x1.N, vs x1.Name, .slice as1 ns1 cs1]] w' ∧ (RowN (Rp.int .i64) Fx2 ns4 xss4 y) ∧ Has 113 a [(1, .slice as2 ns2 cs2), (2, .pointer (some ⟨b1, 0, none⟩)), (6, .slice as4 ns4 cs4)]) (fun _ => rfl) ?_ ?_ hm ⟨_, none, 0, 0, [], Frz.refl _, hx2.pick [0, 1] (by decide) rfl, ((show RowN (Rp.int .i64) _ 0 [] [] from ⟨rfl, rfl⟩)), hax19.cut (l := [1, 2, 6, 13, 14, 15]) rfl⟩
   ·clear hm; rintro l2 a wx2 hm ⟨Fx2, as4, ns4, cs4, xss4, hF2, hx4, hs4, hax1⟩
    rw [hkont1] at hm
    replace hm := hm
    refine qw_apply (e := .exit 0) hax1 ?_
    refine q_block_hit (q_then (c_seq (c_seq (c_region ?_))))
    refine r_fieldAddr fa24_0 rfl rfl rfl ?_
    refine r_loadB1 ag3 rfl rfl hx4 rfl (i := 1) rfl rfl ?_
    refine r_nil (q_then (c_block (c_seq (c_seq (c_region ?_)))))
    refine r_bin rfl rfl rfl rfl rfl ?_
    refine r_assign rfl rfl rfl (r_nil (q_then ?_))
    obtain ⟨v1, hb1, hm⟩ := bind_some hm
    refine c_midT (fun a w' => wx2 = w' ∧ Has 113 a [(1, .slice as2 ns2 cs2), (2, .pointer (some ⟨b1, 0, none⟩)), (6, .slice as4 ns4 cs4), (34, .int .i64 x1.Op), (35, .bool v1)]) ?_ ?_
    ·rintro a wx3 ⟨rfl, hax2⟩
     refine cw_apply hax2 ?_
     rcases cond_some hm with ⟨hb2, hm⟩ | ⟨hb2, hm⟩
     ·refine c_lit 35 rfl hb2 ?_
      refine c_true rfl (c_seq (c_seq (c_region (r_move rfl rfl rfl ?_))))
      refine r_fieldAddr fa24_2 rfl rfl rfl ?_
      refine r_loadB1 ag9 rfl rfl hx4 rfl (i := 1) rfl rfl ?_
      obtain ⟨v2, hv1, hm⟩ := bind_some hm
      refine r_callP0 ent69 rfl rfl rfl rfl (slices_Contains_string_string_ok _ _ _ _ hv1 hx4.sat (hs2.mono hF2)) ?_
      refine r_not rfl rfl rfl (r_nil (q_then ?_))
      rcases cond_some hm with ⟨hb3, hm⟩ | ⟨hb3, hm⟩
      ·refine c_lit 42 rfl hb3 ?_
       refine c_true rfl (c_seq (c_region (r_assign rfl rfl rfl (r_assign rfl rfl rfl (r_nil (q_then (c_ret (q_then_ret (q_block_ret (q_then_ret ?_))))))))))
       refine b_retA (vl := [.int .i64 0, .int .i64 11]) rfl ⟨v_tmp rfl, v_tmp rfl, trivial⟩ (by simp) ?_
       obtain rfl := Option.some.inj hm
       exact ⟨_, _, _, rfl, hx4.pick [] (by decide) rfl, rfl, rfl⟩
      ·refine c_lit 42 rfl hb3 ?_
       refine c_false rfl (c_skip (q_then (c_seq (c_seq (c_region ?_)))))
       refine r_fieldAddr fa24_0 rfl rfl rfl ?_
       refine r_loadB1 ag3 rfl rfl hx4 rfl (i := 1) rfl rfl ?_
       refine r_bin rfl rfl rfl rfl rfl ?_
       refine r_nil (q_then ?_)
       rcases cond_some hm with ⟨hb4, hm⟩ | ⟨hb4, hm⟩
       ·refine c_lit 45 rfl hb4 ?_
        refine c_true rfl (c_seq (c_region (r_assign rfl rfl rfl (r_assign rfl rfl rfl (r_nil (q_then (c_ret (q_then_ret (q_block_ret (q_then_ret ?_))))))))))
        refine b_retA (vl := [.int .i64 2, .int .i64 0]) rfl ⟨v_tmp rfl, v_tmp rfl, trivial⟩ (by simp) ?_
        obtain rfl := Option.some.inj hm
        exact ⟨_, _, _, rfl, hx4.pick [] (by decide) rfl, rfl, rfl⟩
       ·refine c_lit 45 rfl hb4 ?_
        refine c_false rfl (c_skip (q_then (c_seq (c_region (r_assign rfl rfl rfl (r_assign rfl rfl rfl (r_nil (q_then (c_ret (q_block_ret (q_then_ret ?_)))))))))))
        refine b_retA (vl := [.int .i64 1, .int .i64 0]) rfl ⟨v_tmp rfl, v_tmp rfl, trivial⟩ (by simp) ?_
        obtain rfl := Option.some.inj hm
        exact ⟨_, _, _, rfl, hx4.pick [] (by decide) rfl, rfl, rfl⟩
     ·refine c_lit 35 rfl hb2 ?_
      refine c_false rfl (c_seq (c_seq (c_region ?_)))
      refine r_bin rfl rfl rfl rfl rfl ?_
      refine r_assign rfl rfl rfl (r_nil (q_then ?_))
      obtain ⟨v3, hb5, hm⟩ := bind_some hm
      refine c_midT (fun a w' => wx2 = w' ∧ Has 113 a [(2, .pointer (some ⟨b1, 0, none⟩)), (6, .slice as4 ns4 cs4), (34, .int .i64 x1.Op), (46, .bool v3)]) ?_ ?_
      ·rintro a wx4 ⟨rfl, hax3⟩
       refine cw_apply hax3 ?_
       rcases cond_some hm with ⟨hb6, hm⟩ | ⟨hb6, hm⟩
       ·refine c_lit 46 rfl hb6 ?_
        refine c_true rfl (c_seq (c_region (r_assign rfl rfl rfl (r_assign rfl rfl rfl (r_nil (q_then (c_ret (q_block_ret (q_then_ret ?_)))))))))
        refine b_retA (vl := [.int .i64 1, .int .i64 0]) rfl ⟨v_tmp rfl, v_tmp rfl, trivial⟩ (by simp) ?_
        obtain rfl := Option.some.inj hm
        exact ⟨_, _, _, rfl, hx4.pick [] (by decide) rfl, rfl, rfl⟩
       ·refine c_lit 46 rfl hb6 ?_
        refine c_false rfl (c_seq (c_seq (c_region ?_)))
        refine r_bin rfl rfl rfl rfl rfl ?_
        refine r_assign rfl rfl rfl (r_nil (q_then ?_))
        obtain ⟨v4, hb7, hm⟩ := bind_some hm
        refine c_midT (fun a w' => wx2 = w' ∧ Has 113 a [(2, .pointer (some ⟨b1, 0, none⟩)), (6, .slice as4 ns4 cs4), (34, .int .i64 x1.Op), (50, .bool v4)]) ?_ ?_
        ·rintro a wx5 ⟨rfl, hax4⟩
         refine cw_apply hax4 ?_
         rcases cond_some hm with ⟨hb8, hm⟩ | ⟨hb8, hm⟩
         ·refine c_lit 50 rfl hb8 ?_
          refine c_true rfl (c_seq (c_region (r_move rfl rfl rfl ?_)))
          obtain ⟨Fx3, hF3, hx5, hsx1⟩ := freezeRow hx4 (i := 0) rfl hs4
          obtain ⟨v5, hv2, hm⟩ := bind_some hm
          refine r_callG0 ent71 rfl rfl rfl rfl hx5 (tariff_all_ok _ _ _ _ _ hv2 hx5.sat hsx1) ?_
          rintro _ Fx4 _ wx6 hF4 hx6 ⟨rfl, rfl⟩
          refine r_extract rfl rfl rfl rfl (r_extract rfl rfl rfl rfl (r_assign rfl rfl rfl (r_assign rfl rfl rfl (r_nil (q_then (c_ret (q_block_ret (q_then_ret ?_))))))))
          refine b_retA (vl := [.int .i64 v5.1, .int .i64 v5.2]) rfl ⟨v_tmp rfl, v_tmp rfl, trivial⟩ (by simp) ?_
          obtain rfl := Option.some.inj hm
          exact ⟨_, _, _, rfl, hx6.pick [] (by decide) rfl, rfl, rfl⟩
         ·refine c_lit 50 rfl hb8 ?_
          refine c_false rfl (c_seq (c_seq (c_region ?_)))
          refine r_bin rfl rfl rfl rfl rfl ?_
          refine r_assign rfl rfl rfl (r_nil (q_then ?_))
          obtain ⟨v6, hb9, hm⟩ := bind_some hm
          refine c_midT (fun a w' => wx2 = w' ∧ Has 113 a [(2, .pointer (some ⟨b1, 0, none⟩)), (6, .slice as4 ns4 cs4), (34, .int .i64 x1.Op), (57, .bool v6)]) ?_ ?_
          ·rintro a wx7 ⟨rfl, hax5⟩
           refine cw_apply hax5 ?_
           rcases cond_some hm with ⟨hb10, hm⟩ | ⟨hb10, hm⟩
           ·refine c_lit 57 rfl hb10 ?_
            refine c_true rfl (c_seq (c_region (r_move rfl rfl rfl ?_)))
            obtain ⟨Fx5, hF5, hx7, hsx2⟩ := freezeRow hx4 (i := 0) rfl hs4
            obtain ⟨v7, hv3, hm⟩ := bind_some hm
            refine r_callG0 ent71 rfl rfl rfl rfl hx7 (tariff_all_ok _ _ _ _ _ hv3 hx7.sat hsx2) ?_
            rintro _ Fx6 _ wx8 hF6 hx8 ⟨rfl, rfl⟩
            refine r_extract rfl rfl rfl rfl (r_extract rfl rfl rfl rfl (r_assign rfl rfl rfl (r_assign rfl rfl rfl (r_nil (q_then (c_ret (q_block_ret (q_then_ret ?_))))))))
            refine b_retA (vl := [.int .i64 v7.1, .int .i64 v7.2]) rfl ⟨v_tmp rfl, v_tmp rfl, trivial⟩ (by simp) ?_
            obtain rfl := Option.some.inj hm
            exact ⟨_, _, _, rfl, hx8.pick [] (by decide) rfl, rfl, rfl⟩
           ·refine c_lit 57 rfl hb10 ?_
            refine c_false rfl (c_seq (c_region ?_))
            refine r_bin rfl rfl rfl rfl rfl ?_
            refine r_assign rfl rfl rfl (r_nil (q_then ?_))
            rcases cond_some hm with ⟨hb11, hm⟩ | ⟨hb11, hm⟩
            ·refine c_lit 65 rfl hb11 ?_
             refine c_true rfl (c_seq (c_seq (c_region (r_move rfl rfl rfl ?_))))
             obtain ⟨ex1, he1, hm⟩ := bind_some hm
             refine r_rindex (r := (Rp.int .i64)) u84 sz3 rfl rfl hx4 rfl rfl (p := 0) rfl rfl hs4 he1 ?_
             intro b2 o1 cs1 hax6 ho1 hr1 hp1
             have hc1 : cs1 = [.int .i64 ex1] := hr1
             subst hc1
             refine r_loadR1 (j := 0) ag3 rfl rfl hx4 rfl (p := 0) rfl rfl hax6 ho1 hp1 rfl ?_
             refine r_bin rfl rfl rfl rfl rfl ?_
             refine r_nil (q_then ?_)
             rcases cond_some hm with ⟨hb12, hm⟩ | ⟨hb12, hm⟩
             ·refine c_lit 70 rfl hb12 ?_
              refine c_true rfl (c_seq (c_region (r_assign rfl rfl rfl (r_assign rfl rfl rfl (r_nil (q_then (c_ret (q_then_ret (q_block_ret (q_then_ret ?_))))))))))
              refine b_retA (vl := [.int .i64 0, .int .i64 13]) rfl ⟨v_tmp rfl, v_tmp rfl, trivial⟩ (by simp) ?_
              obtain rfl := Option.some.inj hm
              exact ⟨_, _, _, rfl, hx4.pick [] (by decide) rfl, rfl, rfl⟩
             ·refine c_lit 70 rfl hb12 ?_
              refine c_false rfl (c_skip (q_then (c_seq ?_)))
              refine c_regionD (by kernel_rfl) (by kernel_rfl) hx4 ?_
              refine q_stp rfl rfl rfl rfl (fun _ _ _ _ => r_move rfl rfl rfl (r_nil (qq rfl))) ?_
              obtain ⟨ex2, he2, hm⟩ := bind_some hm
              obtain ⟨b3, o2, cs2, hax7, ho2, hr2, hp2, hrun1⟩ := rindex_ex (P := Tryz.prog) (r := (Rp.int .i64)) u84 sz3 hx4 (p := 0) rfl rfl hs4 he2
              have hc2 : cs2 = [.int .i64 ex2] := hr2
              subst hc2
              refine q_findex rfl rfl rfl rfl hrun1 ?_
              refine q_stp rfl rfl rfl rfl (fun _ _ _ hq => r_loadR1 (j := 0) ag3 rfl rfl hq rfl (p := 0) rfl rfl hax7 ho2 hp2 rfl (r_nil (qq rfl))) ?_
              refine q_stp rfl rfl rfl rfl (fun _ _ _ _ => r_move rfl rfl rfl (r_nil (qq rfl))) ?_
              obtain ⟨ex3, he3, hm⟩ := bind_some hm
              obtain ⟨b4, o3, cs3, hax8, ho3, hr3, hp3, hrun2⟩ := rindex_ex (P := Tryz.prog) (r := (Rp.int .i64)) u84 sz3 hx4 (p := 0) rfl rfl hs4 he3
              have hc3 : cs3 = [.int .i64 ex3] := hr3
              subst hc3
              refine q_findex rfl rfl rfl rfl hrun2 ?_
              refine q_stp rfl rfl rfl rfl (fun _ _ _ hq => r_loadR1 (j := 0) ag3 rfl rfl hq rfl (p := 0) rfl rfl hax8 ho3 hp3 rfl (r_nil (qq rfl))) ?_
              obtain ⟨v8, hv4, hm⟩ := bind_some hm
              refine q_callP0 ent72 rfl rfl rfl rfl (fun _ _ hleq hq => tariff_join_ok _ _ _ _ hv4) ?_
              refine q_stp rfl rfl rfl rfl (fun _ _ _ _ => r_extract rfl rfl rfl rfl (r_nil (qq rfl))) ?_
              refine q_stp rfl rfl rfl rfl (fun _ _ _ _ => r_extract rfl rfl rfl rfl (r_nil (qq rfl))) ?_
              refine q_stp rfl rfl rfl rfl (fun _ _ _ _ => r_assign rfl rfl rfl (r_nil (qq rfl))) ?_
              refine q_stp rfl rfl rfl rfl (fun _ _ _ _ => r_assign rfl rfl rfl (r_nil (qq rfl))) ?_
              refine q_end ?_
              rintro wx9 ⟨Fx7, hF7, hx9⟩
              refine q_then (c_ret (q_block_ret (q_then_ret ?_)))
              refine b_retA (vl := [.int .i64 v8.1, .int .i64 v8.2]) rfl ⟨v_tmp rfl, v_tmp rfl, trivial⟩ (by simp) ?_
              obtain rfl := Option.some.inj hm
              exact ⟨_, _, _, rfl, hx9.pick [] (by decide) rfl, rfl, rfl⟩
            ·refine c_lit 65 rfl hb11 ?_
             refine c_false rfl (c_seq (c_region ?_))
             refine r_bin rfl rfl rfl rfl rfl ?_
             refine r_assign rfl rfl rfl (r_nil (q_then ?_))
             rcases cond_some hm with ⟨hb13, hm⟩ | ⟨hb13, hm⟩
             ·refine c_lit 80 rfl hb13 ?_
              refine c_true rfl (c_seq (c_region (r_move rfl rfl rfl ?_)))
              obtain ⟨ex4, he4, hm⟩ := bind_some hm
              refine r_rindex (r := (Rp.int .i64)) u84 sz3 rfl rfl hx4 rfl rfl (p := 0) rfl rfl hs4 he4 ?_
              intro b5 o4 cs4 hax9 ho4 hr4 hp4
              have hc4 : cs4 = [.int .i64 ex4] := hr4
              subst hc4
              refine r_loadR1 (j := 0) ag3 rfl rfl hx4 rfl (p := 0) rfl rfl hax9 ho4 hp4 rfl ?_
              refine r_bin rfl rfl rfl rfl rfl ?_
              refine r_move rfl rfl rfl ?_
              obtain ⟨v9, hb14, hm⟩ := bind_some hm
              refine r_mid 5 (fun a w' => wx2 = w' ∧ Has 113 a [(6, .slice as4 ns4 cs4), (91, .bool v9)]) ?_ ?_
              ·rintro a wx10 ⟨rfl, hax10⟩
               refine rw_apply hax10 ?_
               refine r_nil (q_then ?_)
               rcases cond_some hm with ⟨hb15, hm⟩ | ⟨hb15, hm⟩
               ·refine c_lit 91 rfl hb15 ?_
                refine c_true rfl (c_seq (c_region (r_assign rfl rfl rfl (r_assign rfl rfl rfl (r_nil (q_then (c_ret (q_block_ret (q_then_ret ?_)))))))))
                refine b_retA (vl := [.int .i64 0, .int .i64 13]) rfl ⟨v_tmp rfl, v_tmp rfl, trivial⟩ (by simp) ?_
                obtain rfl := Option.some.inj hm
                exact ⟨_, _, _, rfl, hx4.pick [] (by decide) rfl, rfl, rfl⟩
               ·refine c_lit 91 rfl hb15 ?_
                refine c_false rfl (c_skip (q_block (q_then (c_seq ?_))))
                refine c_regionD (by kernel_rfl) (by kernel_rfl) hx4 ?_
                refine q_stp rfl rfl rfl rfl (fun _ _ _ _ => r_move rfl rfl rfl (r_nil (qq rfl))) ?_
                obtain ⟨ex5, he5, hm⟩ := bind_some hm
                obtain ⟨b6, o5, cs5, hax11, ho5, hr5, hp5, hrun3⟩ := rindex_ex (P := Tryz.prog) (r := (Rp.int .i64)) u84 sz3 hx4 (p := 0) rfl rfl hs4 he5
                have hc5 : cs5 = [.int .i64 ex5] := hr5
                subst hc5
                refine q_findex rfl rfl rfl rfl hrun3 ?_
                refine q_stp rfl rfl rfl rfl (fun _ _ _ hq => r_loadR1 (j := 0) ag3 rfl rfl hq rfl (p := 0) rfl rfl hax11 ho5 hp5 rfl (r_nil (qq rfl))) ?_
                refine q_stp rfl rfl rfl rfl (fun _ _ _ _ => r_move rfl rfl rfl (r_nil (qq rfl))) ?_
                obtain ⟨ex6, he6, hm⟩ := bind_some hm
                obtain ⟨b7, o6, cs6, hax12, ho6, hr6, hp6, hrun4⟩ := rindex_ex (P := Tryz.prog) (r := (Rp.int .i64)) u84 sz3 hx4 (p := 0) rfl rfl hs4 he6
                have hc6 : cs6 = [.int .i64 ex6] := hr6
                subst hc6
                refine q_findex rfl rfl rfl rfl hrun4 ?_
                refine q_stp rfl rfl rfl rfl (fun _ _ _ hq => r_loadR1 (j := 0) ag3 rfl rfl hq rfl (p := 0) rfl rfl hax12 ho6 hp6 rfl (r_nil (qq rfl))) ?_
                obtain ⟨v10, hv5, hm⟩ := bind_some hm
                refine q_callP0 ent72 rfl rfl rfl rfl (fun _ _ hleq hq => tariff_join_ok _ _ _ _ hv5) ?_
                refine q_stp rfl rfl rfl rfl (fun _ _ _ _ => r_extract rfl rfl rfl rfl (r_nil (qq rfl))) ?_
                refine q_stp rfl rfl rfl rfl (fun _ _ _ _ => r_extract rfl rfl rfl rfl (r_nil (qq rfl))) ?_
                refine q_stp rfl rfl rfl rfl (fun _ _ _ _ => r_assign rfl rfl rfl (r_nil (qq rfl))) ?_
                refine q_stp rfl rfl rfl rfl (fun _ _ _ _ => r_assign rfl rfl rfl (r_nil (qq rfl))) ?_
                refine q_end ?_
                rintro wx11 ⟨Fx8, hF8, hx10⟩
                refine q_then (c_ret ?_)
                refine b_retA (vl := [.int .i64 v10.1, .int .i64 v10.2]) rfl ⟨v_tmp rfl, v_tmp rfl, trivial⟩ (by simp) ?_
                obtain rfl := Option.some.inj hm
                exact ⟨_, _, _, rfl, hx10.pick [] (by decide) rfl, rfl, rfl⟩
              ·clear hm
               rcases cond_some hb14 with ⟨hb16, hb14⟩ | ⟨hb16, hb14⟩
               ·refine r_lit 86 rfl hb16 ?_
                refine r_move rfl rfl rfl ?_
                obtain ⟨ex7, he7, hb14⟩ := bind_some hb14
                refine r_rindex (r := (Rp.int .i64)) u84 sz3 rfl rfl hx4 rfl rfl (p := 0) rfl rfl hs4 he7 ?_
                intro b8 o7 cs7 hax13 ho7 hr7 hp7
                have hc7 : cs7 = [.int .i64 ex7] := hr7
                subst hc7
                refine r_loadR1 (j := 0) ag3 rfl rfl hx4 rfl (p := 0) rfl rfl hax13 ho7 hp7 rfl ?_
                refine r_bin rfl rfl rfl rfl rfl ?_
                refine r_pick_true rfl rfl rfl rfl (r_nil ?_)
                refine q_next (fun a ha => ?_)
                cases hb14
                exact ⟨rfl, ha.cut (l := [6, 91]) rfl⟩
               ·refine r_lit 86 rfl hb16 ?_
                refine r_off rfl (by decide) rfl (r_off rfl (by decide) rfl (r_off rfl (by decide) rfl (r_off rfl (by decide) rfl (r_pick_false rfl rfl rfl rfl (r_nil ?_)))))
                refine q_next (fun a ha => ?_)
                cases hb14
                exact ⟨rfl, ha.cut (l := [6, 91]) rfl⟩
             ·refine c_lit 80 rfl hb13 ?_
              refine c_false rfl (c_seq (c_region ?_))
              refine r_bin rfl rfl rfl rfl rfl ?_
              refine r_assign rfl rfl rfl (r_nil (q_then ?_))
              rcases cond_some hm with ⟨hb17, hm⟩ | ⟨hb17, hm⟩
              ·refine c_lit 92 rfl hb17 ?_
               refine c_true rfl (c_seq (c_region ?_))
               refine r_fieldAddr fa24_3 rfl rfl rfl ?_
               refine r_loadB1 ag22 rfl rfl hx4 rfl (i := 1) rfl rfl ?_
               obtain ⟨ex8, he8, hm⟩ := bind_some hm
               refine r_findex (r := rp_Expr) u22 sz24 rfl rfl rfl rfl (hs1.mono hF2) he8 ?_
               intro b9 o8 cs8 hf1 hr8
               obtain ⟨as5, ns5, cs5, hc8, hs5⟩ := expr_iff.1 hr8
               subst hc8
               refine r_loadFW ag24 sz24 rfl rfl hx4 hf1 rfl rfl ?_
               refine r_alloc ze24 rfl rfl rfl hx4 ?_
               intro b10 wx12 hx11
               refine r_store sz24 rfl hx11 rfl rfl rfl rfl (i := 0) rfl rfl rfl rfl ?_
               intro wx13 hx12
               refine r_nil (q_then (c_seq (c_region ?_)))
               refine r_fieldAddr fa24_0 rfl rfl rfl ?_
               refine r_loadB1 ag3 rfl rfl hx12 rfl (i := 0) rfl rfl ?_
               refine r_bin rfl rfl rfl rfl rfl ?_
               refine r_nil (q_then ?_)
               rcases cond_some hm with ⟨hb18, hm⟩ | ⟨hb18, hm⟩
               ·refine c_lit 100 rfl hb18 ?_
                refine c_true rfl (c_seq (c_region (r_assign rfl rfl rfl (r_assign rfl rfl rfl (r_nil (q_then (c_ret (q_block_ret (q_then_ret ?_)))))))))
                refine b_retA (vl := [.int .i64 0, .int .i64 13]) rfl ⟨v_tmp rfl, v_tmp rfl, trivial⟩ (by simp) ?_
                obtain rfl := Option.some.inj hm
                exact ⟨_, _, _, rfl, hx12.pick [] (by decide) rfl, rfl, rfl⟩
               ·refine c_lit 100 rfl hb18 ?_
                refine c_false rfl (c_seq (c_region ?_))
                refine r_fieldAddr fa24_1 rfl rfl rfl ?_
                refine r_loadB1 ag3 rfl rfl hx12 rfl (i := 0) rfl rfl ?_
                refine r_bin rfl rfl rfl rfl rfl ?_
                refine r_nil (q_then ?_)
                rcases cond_some hm with ⟨hb19, hm⟩ | ⟨hb19, hm⟩
                ·refine c_lit 103 rfl hb19 ?_
                 refine c_true rfl (c_seq (c_region (r_assign rfl rfl rfl (r_assign rfl rfl rfl (r_nil (q_then (c_ret (q_block_ret (q_then_ret ?_)))))))))
                 refine b_retA (vl := [.int .i64 0, .int .i64 14]) rfl ⟨v_tmp rfl, v_tmp rfl, trivial⟩ (by simp) ?_
                 obtain rfl := Option.some.inj hm
                 exact ⟨_, _, _, rfl, hx12.pick [] (by decide) rfl, rfl, rfl⟩
                ·refine c_lit 103 rfl hb19 ?_
                 refine c_false rfl (c_skip (q_block (q_then (c_seq ?_))))
                 refine c_regionD (by kernel_rfl) (by kernel_rfl) hx12 ?_
                 refine q_stp rfl rfl rfl rfl (fun _ _ _ _ => r_move rfl rfl rfl (r_nil (qq rfl))) ?_
                 obtain ⟨ex9, he9, hm⟩ := bind_some hm
                 obtain ⟨b11, o9, cs9, hax14, ho8, hr9, hp8, hrun5⟩ := rindex_ex (P := Tryz.prog) (r := (Rp.int .i64)) u84 sz3 hx12 (p := 1) rfl rfl hs4 he9
                 have hc9 : cs9 = [.int .i64 ex9] := hr9
                 subst hc9
                 refine q_findex rfl rfl rfl rfl hrun5 ?_
                 refine q_stp rfl rfl rfl rfl (fun _ _ _ hq => r_loadR1 (j := 0) ag3 rfl rfl hq rfl (p := 1) rfl rfl hax14 ho8 hp8 rfl (r_nil (qq rfl))) ?_
                 refine q_stp rfl rfl rfl rfl (fun _ _ _ _ => r_move rfl rfl rfl (r_nil (qq rfl))) ?_
                 obtain ⟨ex10, he10, hm⟩ := bind_some hm
                 obtain ⟨b12, o10, cs10, hax15, ho9, hr10, hp9, hrun6⟩ := rindex_ex (P := Tryz.prog) (r := (Rp.int .i64)) u84 sz3 hx12 (p := 1) rfl rfl hs4 he10
                 have hc10 : cs10 = [.int .i64 ex10] := hr10
                 subst hc10
                 refine q_findex rfl rfl rfl rfl hrun6 ?_
                 refine q_stp rfl rfl rfl rfl (fun _ _ _ hq => r_loadR1 (j := 0) ag3 rfl rfl hq rfl (p := 1) rfl rfl hax15 ho9 hp9 rfl (r_nil (qq rfl))) ?_
                 obtain ⟨v11, hv6, hm⟩ := bind_some hm
                 refine q_callP0 ent72 rfl rfl rfl rfl (fun _ _ hleq hq => tariff_join_ok _ _ _ _ hv6) ?_
                 refine q_stp rfl rfl rfl rfl (fun _ _ _ _ => r_extract rfl rfl rfl rfl (r_nil (qq rfl))) ?_
                 refine q_stp rfl rfl rfl rfl (fun _ _ _ _ => r_extract rfl rfl rfl rfl (r_nil (qq rfl))) ?_
                 refine q_stp rfl rfl rfl rfl (fun _ _ _ _ => r_assign rfl rfl rfl (r_nil (qq rfl))) ?_
                 refine q_stp rfl rfl rfl rfl (fun _ _ _ _ => r_assign rfl rfl rfl (r_nil (qq rfl))) ?_
                 refine q_end ?_
                 rintro wx14 ⟨Fx9, hF9, hx13⟩
                 refine q_then (c_ret ?_)
                 refine b_retA (vl := [.int .i64 v11.1, .int .i64 v11.2]) rfl ⟨v_tmp rfl, v_tmp rfl, trivial⟩ (by simp) ?_
                 obtain rfl := Option.some.inj hm
                 exact ⟨_, _, _, rfl, hx13.pick [] (by decide) rfl, rfl, rfl⟩
              ·refine c_lit 92 rfl hb17 ?_
               refine c_false rfl (c_skip (q_block (q_then (c_seq ?_))))
               refine c_regionD (by kernel_rfl) (by kernel_rfl) hx4 ?_
               refine q_stp rfl rfl rfl rfl (fun _ _ _ _ => r_move rfl rfl rfl (r_nil (qq rfl))) ?_
               obtain ⟨ex11, he11, hm⟩ := bind_some hm
               obtain ⟨b13, o11, cs11, hax16, ho10, hr11, hp10, hrun7⟩ := rindex_ex (P := Tryz.prog) (r := (Rp.int .i64)) u84 sz3 hx4 (p := 0) rfl rfl hs4 he11
               have hc11 : cs11 = [.int .i64 ex11] := hr11
               subst hc11
               refine q_findex rfl rfl rfl rfl hrun7 ?_
               refine q_stp rfl rfl rfl rfl (fun _ _ _ hq => r_loadR1 (j := 0) ag3 rfl rfl hq rfl (p := 0) rfl rfl hax16 ho10 hp10 rfl (r_nil (qq rfl))) ?_
               refine q_stp rfl rfl rfl rfl (fun _ _ _ _ => r_move rfl rfl rfl (r_nil (qq rfl))) ?_
               obtain ⟨ex12, he12, hm⟩ := bind_some hm
               obtain ⟨b14, o12, cs12, hax17, ho11, hr12, hp11, hrun8⟩ := rindex_ex (P := Tryz.prog) (r := (Rp.int .i64)) u84 sz3 hx4 (p := 0) rfl rfl hs4 he12
               have hc12 : cs12 = [.int .i64 ex12] := hr12
               subst hc12
               refine q_findex rfl rfl rfl rfl hrun8 ?_
               refine q_stp rfl rfl rfl rfl (fun _ _ _ hq => r_loadR1 (j := 0) ag3 rfl rfl hq rfl (p := 0) rfl rfl hax17 ho11 hp11 rfl (r_nil (qq rfl))) ?_
               obtain ⟨v12, hv7, hm⟩ := bind_some hm
               refine q_callP0 ent72 rfl rfl rfl rfl (fun _ _ hleq hq => tariff_join_ok _ _ _ _ hv7) ?_
               refine q_stp rfl rfl rfl rfl (fun _ _ _ _ => r_extract rfl rfl rfl rfl (r_nil (qq rfl))) ?_
               refine q_stp rfl rfl rfl rfl (fun _ _ _ _ => r_extract rfl rfl rfl rfl (r_nil (qq rfl))) ?_
               refine q_stp rfl rfl rfl rfl (fun _ _ _ _ => r_assign rfl rfl rfl (r_nil (qq rfl))) ?_
               refine q_stp rfl rfl rfl rfl (fun _ _ _ _ => r_assign rfl rfl rfl (r_nil (qq rfl))) ?_
               refine q_end ?_
               rintro wx15 ⟨Fx10, hF10, hx14⟩
               refine q_then (c_ret ?_)
               refine b_retA (vl := [.int .i64 v12.1, .int .i64 v12.2]) rfl ⟨v_tmp rfl, v_tmp rfl, trivial⟩ (by simp) ?_
               obtain rfl := Option.some.inj hm
               exact ⟨_, _, _, rfl, hx14.pick [] (by decide) rfl, rfl, rfl⟩
          ·clear hm
           rcases cond_some hb9 with ⟨hb20, hb9⟩ | ⟨hb20, hb9⟩
           ·refine c_lit 57 rfl hb20 ?_
            refine c_true rfl (c_skip ?_)
            refine q_next (fun a ha => ?_)
            cases hb9
            exact ⟨rfl, ha.cut (l := [2, 6, 34, 57]) rfl⟩
           ·refine c_lit 57 rfl hb20 ?_
            refine c_false rfl (c_seq (c_region ?_))
            refine r_bin rfl rfl rfl rfl rfl ?_
            refine r_assign rfl rfl rfl (r_nil (q_then ?_))
            rcases cond_some hb9 with ⟨hb21, hb9⟩ | ⟨hb21, hb9⟩
            ·refine c_lit 57 rfl hb21 ?_
             refine c_true rfl (c_skip ?_)
             refine q_next (fun a ha => ?_)
             cases hb9
             exact ⟨rfl, ha.cut (l := [2, 6, 34, 57]) rfl⟩
            ·refine c_lit 57 rfl hb21 ?_
             refine c_false rfl (c_region ?_)
             refine r_bin rfl rfl rfl rfl rfl ?_
             refine r_assign rfl rfl rfl (r_nil ?_)
             refine q_next (fun a ha => ?_)
             cases hb9
             exact ⟨rfl, ha.cut (l := [2, 6, 34, 57]) rfl⟩
        ·clear hm
         rcases cond_some hb7 with ⟨hb22, hb7⟩ | ⟨hb22, hb7⟩
         ·refine c_lit 50 rfl hb22 ?_
          refine c_true rfl (c_skip ?_)
          refine q_next (fun a ha => ?_)
          cases hb7
          exact ⟨rfl, ha.cut (l := [2, 6, 34, 50]) rfl⟩
         ·refine c_lit 50 rfl hb22 ?_
          refine c_false rfl (c_region ?_)
          refine r_bin rfl rfl rfl rfl rfl ?_
          refine r_assign rfl rfl rfl (r_nil ?_)
          refine q_next (fun a ha => ?_)
          cases hb7
          exact ⟨rfl, ha.cut (l := [2, 6, 34, 50]) rfl⟩
      ·clear hm
       rcases cond_some hb5 with ⟨hb23, hb5⟩ | ⟨hb23, hb5⟩
       ·refine c_lit 46 rfl hb23 ?_
        refine c_true rfl (c_skip ?_)
        refine q_next (fun a ha => ?_)
        cases hb5
        exact ⟨rfl, ha.cut (l := [2, 6, 34, 46]) rfl⟩
       ·refine c_lit 46 rfl hb23 ?_
        refine c_false rfl (c_seq (c_region ?_))
        refine r_bin rfl rfl rfl rfl rfl ?_
        refine r_assign rfl rfl rfl (r_nil (q_then ?_))
        rcases cond_some hb5 with ⟨hb24, hb5⟩ | ⟨hb24, hb5⟩
        ·refine c_lit 46 rfl hb24 ?_
         refine c_true rfl (c_skip ?_)
         refine q_next (fun a ha => ?_)
         cases hb5
         exact ⟨rfl, ha.cut (l := [2, 6, 34, 46]) rfl⟩
        ·refine c_lit 46 rfl hb24 ?_
         refine c_false rfl (c_region ?_)
         refine r_bin rfl rfl rfl rfl rfl ?_
         refine r_assign rfl rfl rfl (r_nil ?_)
         refine q_next (fun a ha => ?_)
         cases hb5
         exact ⟨rfl, ha.cut (l := [2, 6, 34, 46]) rfl⟩
    ·clear hm
     rcases cond_some hb1 with ⟨hb25, hb1⟩ | ⟨hb25, hb1⟩
     ·refine c_lit 35 rfl hb25 ?_
      refine c_true rfl (c_skip ?_)
      refine q_next (fun a ha => ?_)
      cases hb1
      exact ⟨rfl, ha.cut (l := [1, 2, 6, 34, 35]) rfl⟩
     ·refine c_lit 35 rfl hb25 ?_
      refine c_false rfl (c_region ?_)
      refine r_bin rfl rfl rfl rfl rfl ?_
      refine r_assign rfl rfl rfl (r_nil ?_)
      refine q_next (fun a ha => ?_)
      cases hb1
      exact ⟨rfl, ha.cut (l := [1, 2, 6, 34, 35]) rfl⟩
   ·clear hm hkont1; intro hk1 mx1 K ihx1
    rintro ⟨i1, l1⟩ a wx16 hm ⟨Fx1, as3, ns3, cs3, xss3, hF1, hx3, hs3, hax18⟩
    simp only [tariff_typed_L1_s] at hm
    refine cw_apply hax18 ?_
    refine c_seq (c_region ?_)
    refine r_bin rfl rfl rfl rfl rfl ?_
    refine r_nil (q_then (c_seq ?_))
    rcases cond_some hm with ⟨hb26, hm⟩ | ⟨hb26, hm⟩
    ·refine c_lit 16 rfl hb26 ?_
     refine c_true rfl (c_skip (q_then (c_seq (c_block (c_seq (c_region ?_))))))
     obtain ⟨ex13, he13, hm⟩ := bind_some hm
     refine r_findex (r := rp_Expr) u22 sz24 rfl rfl rfl rfl (hs1.mono hF1) he13 ?_
     intro b15 o13 cs13 hf2 hr13
     obtain ⟨as6, ns6, cs6, hc13, hs6⟩ := expr_iff.1 hr13
     subst hc13
     refine r_loadFW ag24 sz24 rfl rfl hx3 hf2 rfl rfl ?_
     refine r_alloc ze24 rfl rfl rfl hx3 ?_
     intro b16 wx17 hx15
     refine r_store sz24 rfl hx15 rfl rfl rfl rfl (i := 0) rfl rfl rfl rfl ?_
     intro wx18 hx16
     refine r_nil (q_then (c_seq (c_region ?_)))
     refine r_loadBW ag24 sz24 rfl rfl hx16 rfl (i := 0) rfl rfl ?_
     refine r_move rfl rfl rfl ?_
     obtain ⟨v13, hv8, hm⟩ := bind_some hm
     refine r_callG0 ent46 rfl rfl rfl rfl hx16 (ih _ _ _ hv8 hx16.sat hs6 (hs2.mono hF1)) ?_
     rintro _ Fx11 _ wx19 hF11 hx17 ⟨rfl, rfl⟩
     refine r_move rfl rfl rfl (r_extract rfl rfl rfl rfl (r_extract rfl rfl rfl rfl (r_assign rfl rfl rfl (r_assign rfl rfl rfl (r_nil (q_then (c_seq (c_seq (c_region (r_move rfl rfl rfl ?_))))))))))
     refine r_bin rfl rfl rfl rfl rfl ?_
     refine r_nil (q_then ?_)
     rcases cond_some hm with ⟨hb27, hm⟩ | ⟨hb27, hm⟩
     ·refine c_lit 26 rfl hb27 ?_
      refine c_true rfl (c_seq (c_region (r_move rfl rfl rfl (r_assign rfl rfl rfl (r_assign rfl rfl rfl (r_nil (q_then (c_ret (q_then_ret (q_block_ret (q_then_ret (q_then_ret (q_block_ret (q_then_ret ?_))))))))))))))
      refine b_retA (vl := [.int .i64 0, .int .i64 v13.2]) rfl ⟨v_tmp rfl, v_tmp rfl, trivial⟩ (by simp) ?_
      obtain rfl := Option.some.inj hm
      exact ⟨_, _, _, rfl, hx17.pick [] (by decide) rfl, rfl, rfl⟩
     ·refine c_lit 26 rfl hb27 ?_
      refine c_false rfl (c_skip (q_then (c_region (r_move rfl rfl rfl (r_move rfl rfl rfl ?_)))))
      refine r_buildSlice (e := 3) (cs := [.int .i64 v13.1]) (q := 1) rfl rfl hx17 rfl (fun _ => by kernel_rfl) rfl rfl ?_
      intro b17 wx20 hx18
      obtain ⟨l3, hr14, hm⟩ := bind_some hm
      refine r_appendN (r := (Rp.int .i64)) ap84 rfl rfl hx18 rfl rfl (i := 2) (j := 0) rfl rfl (hs3.mono hF11) ((show RowN (Rp.int .i64) Fx11 1 [.int .i64 v13.1] [v13.1] from ⟨rfl, ⟨_, _, rfl, rfl, (rfl : RowR (Rp.int .i64) _ [] [])⟩⟩)) hr14 ?_
      intro as7 cs7 wx21 hx19 hs7
      refine r_assign rfl rfl rfl (r_nil (q_block (q_then (c_region ?_))))
      refine r_bin rfl rfl rfl rfl rfl ?_
      refine r_move rfl rfl rfl (r_nil ?_)
      refine q_next (fun a ha => ihx1 ((iadd .i64 i1 1), l3) a _ hm ?_)
      exact ⟨_, as7, (ns3 + 1), cs7, (xss3 ++ [.int .i64 v13.1]), (hF1.trans hF11), hx19.pick [2, 3] (by decide) rfl, hs7, ha.cut (l := [1, 2, 6, 13, 14, 15]) rfl⟩
    ·refine c_lit 16 rfl hb26 ?_
     refine c_false rfl (c_exit (q_then_exit (q_then_exit ?_)))
     refine fun a ha => hk1 l1 a _ hm ?_
     exact ⟨_, as3, ns3, cs3, xss3, hF1, hx3.pick [0, 1] (by decide) rfl, hs3, ha.cut (l := [1, 2, 6]) rfl⟩
theorem tariff_typed_ok (n : Nat) (x1 : Expr) (names1 : (List Bs)) (r : (Int × Int)) (hm : tariff_typed n x1 names1 = some r) {w : World} {F : Frz} (hs : Sat F w) {as1 : Option Addr} {ns1 : Nat} {cs1 : Nat} {as2 : Option Addr} {ns2 : Nat} {cs2 : Nat} (hs1 : SlR rp_Expr F as1 ns1 cs1 x1.Args) (hs2 : SlR Rp.str F as2 ns2 cs2 names1) :
  Calls Tryz.prog 46 #[.agg #[.int .i64 x1.Op, .int .i64 x1.N, vs x1.Name, .slice as1 ns1 cs1], .slice as2 ns2 cs2] w fun e w' => ∃ v F' O', e = .returned v ∧ HS F w [] F' O' w' ∧ (v = .tuple #[.int .i64 r.1, .int .i64 r.2] ∧ O' = []) :=
 (tariff_typed_all n) x1 names1 r hm hs hs1 hs2
def slices_IndexFunc_api_Expr_api_Expr_L1 (n : Nat) (s1 : (List Expr)) (f1 : (Expr → Option Bool)) (kont1 : Option Int) : Nat → Int → Option Int
 | 0, _ => none
 | mx1 + 1, i1 =>
  bif decide (i1 < (s1.length : Int)) then
   (ix s1 i1).bind fun ex1 =>
   (f1 ex1).bind fun v1 =>
   bif v1 then
    some i1
   else
    slices_IndexFunc_api_Expr_api_Expr_L1 n s1 f1 kont1 mx1 (iadd .i64 i1 1)
  else
   kont1
theorem slices_IndexFunc_api_Expr_api_Expr_L1_s (n : Nat) (s1 : (List Expr)) (f1 : (Expr → Option Bool)) (kont1 : Option Int) (mx1 : Nat) (i1 : Int) : slices_IndexFunc_api_Expr_api_Expr_L1 n s1 f1 kont1 (mx1 + 1) i1 =
  bif decide (i1 < (s1.length : Int)) then
   (ix s1 i1).bind fun ex1 =>
   (f1 ex1).bind fun v1 =>
   bif v1 then
    some i1
   else
    slices_IndexFunc_api_Expr_api_Expr_L1 n s1 f1 kont1 mx1 (iadd .i64 i1 1)
  else
   kont1 := rfl
def slices_IndexFunc_api_Expr_api_Expr (n : Nat) (s1 : (List Expr)) (f1 : (Expr → Option Bool)) : Option Int :=
 slices_IndexFunc_api_Expr_api_Expr_L1 n s1 f1 (
  some (-1)) n 0
set_option maxHeartbeats 1000000 in
set_option maxRecDepth 1000000 in
theorem slices_IndexFunc_api_Expr_api_Expr_ok (n : Nat) (s1 : (List Expr)) (f1 : (Expr → Option Bool)) (r : Int) (hm : slices_IndexFunc_api_Expr_api_Expr n s1 f1 = some r) {w : World} {F : Frz} (hs : Sat F w) {as2 : Option Addr} {ns2 : Nat} {cs2 : Nat} {fvf1 : Value} (hs2 : SlR rp_Expr F as2 ns2 cs2 s1) (hpff1 : GFn Tryz.prog F fvf1 (fun F l v => ∃ (q0 : Expr) (a0_0 : Option Addr) (n0_0 : Nat) (c0_0 : Nat) (b : Bool), l = [.agg #[.int .i64 q0.Op, .int .i64 q0.N, vs q0.Name, .slice a0_0 n0_0 c0_0]] ∧ SlR rp_Expr F a0_0 n0_0 c0_0 q0.Args ∧ v = some (.bool b) ∧ f1 q0 = some b)) :
  Calls Tryz.prog 105 #[.slice as2 ns2 cs2, fvf1] w fun e w' => ∃ v F' O', e = .returned v ∧ HS F w [] F' O' w' ∧ (v = .int .i64 r ∧ O' = []) := by
 unfold slices_IndexFunc_api_Expr_api_Expr at hm
 have h := HS.init hs
 refine calls_of 19 Tryz.func105 rfl rfl rfl ?_
 refine c_seq (c_region (r_assign rfl rfl rfl (r_nil (q_then (c_seq (c_seq (c_region (r_move rfl rfl rfl ?_))))))))
 refine r_lenS hs2.len u22 rfl rfl rfl ?_
 refine r_move rfl rfl rfl (r_nil (q_then (c_block ?_)))
 intro a hax3
 obtain ⟨kont1, hkont1⟩ : ∃ kont1 : Option Int, kont1 = (
       some (-1)) := ⟨_, rfl⟩
 replace hm : (fun m (s : Int) => slices_IndexFunc_api_Expr_api_Expr_L1 n s1 f1 kont1 m s) n 0 = some r := by rw [hkont1]; exact hm
 refine loopX (id := 0) (fun m (s : Int) => slices_IndexFunc_api_Expr_api_Expr_L1 n s1 f1 kont1 m s) (fun (y : Unit) => kont1) r (fun (s : Int) a w' => ∃ (Fx1 : Frz), Frz.le F Fx1 ∧ HS F w [] Fx1 [] w' ∧ Has 19 a [(0, .slice as2 ns2 cs2), (1, fvf1), (7, .int .i64 (s1.length : Int)), (8, .int .i64 s)]) (fun (y : Unit) a w' => ∃ (Fx2 : Frz), Frz.le F Fx2 ∧ HS F w [] Fx2 [] w' ∧ Has 19 a []) (fun _ => rfl) ?_ ?_ hm ⟨_, Frz.refl _, h.pick [] (by decide) rfl, hax3.cut (l := [0, 1, 7, 8]) rfl⟩
 ·clear hm; rintro _u a wx1 hm ⟨Fx2, hF2, hx2, hax1⟩
  rw [hkont1] at hm
  refine qw_apply (e := .exit 0) hax1 ?_
  refine q_block_hit (q_then (c_seq (c_region (r_assign rfl rfl rfl (r_nil (q_then (c_ret ?_)))))))
  refine b_ret1 rfl rfl ?_
  obtain rfl := Option.some.inj hm
  exact ⟨_, _, _, rfl, hx2.pick [] (by decide) rfl, rfl, rfl⟩
 ·clear hm hkont1; intro hk1 mx1 K ihx1
  rintro i1 a wx2 hm ⟨Fx1, hF1, hx1, hax2⟩
  simp only [slices_IndexFunc_api_Expr_api_Expr_L1_s] at hm
  refine cw_apply hax2 ?_
  refine c_seq (c_region ?_)
  refine r_bin rfl rfl rfl rfl rfl ?_
  refine r_nil (q_then (c_seq ?_))
  rcases cond_some hm with ⟨hb1, hm⟩ | ⟨hb1, hm⟩
  ·refine c_lit 9 rfl hb1 ?_
   refine c_true rfl (c_skip (q_then (c_seq (c_block (c_seq (c_region (r_move rfl rfl rfl (r_assign rfl rfl rfl (r_nil (q_then (c_seq (c_region (r_move rfl rfl rfl (r_move rfl rfl rfl (r_move rfl rfl rfl ?_)))))))))))))))
   obtain ⟨ex1, he1, hm⟩ := bind_some hm
   refine r_findex (r := rp_Expr) u22 sz24 rfl rfl rfl rfl (hs2.mono hF1) he1 ?_
   intro b1 o1 cs1 hf1 hr1
   obtain ⟨as3, ns3, cs3, hc1, hs3⟩ := expr_iff.1 hr1
   subst hc1
   refine r_loadFW ag24 sz24 rfl rfl hx1 hf1 rfl rfl ?_
   obtain ⟨v1, hv1, hm⟩ := bind_some hm
   refine r_callGF (hpff1.mono hF1) rfl rfl rfl rfl hx1 ⟨_, _, _, _, _, rfl, hs3, rfl, hv1⟩ ?_
   intro Fx3 wx3 hF3 hx3
   refine r_nil (q_then ?_)
   rcases cond_some hm with ⟨hb2, hm⟩ | ⟨hb2, hm⟩
   ·refine c_lit 16 rfl hb2 ?_
    refine c_true rfl (c_seq (c_region (r_move rfl rfl rfl (r_assign rfl rfl rfl (r_nil (q_then (c_ret (q_block_ret (q_then_ret (q_then_ret (q_block_ret (q_then_ret ?_))))))))))))
    refine b_ret1 rfl rfl ?_
    obtain rfl := Option.some.inj hm
    exact ⟨_, _, _, rfl, hx3.pick [] (by decide) rfl, rfl, rfl⟩
   ·refine c_lit 16 rfl hb2 ?_
    refine c_false rfl (c_skip (q_block (q_then (c_region ?_))))
    refine r_bin rfl rfl rfl rfl rfl ?_
    refine r_move rfl rfl rfl (r_nil ?_)
    refine q_next (fun a ha => ihx1 (iadd .i64 i1 1) a _ hm ?_)
    exact ⟨_, (hF1.trans hF3), hx3.pick [] (by decide) rfl, ha.cut (l := [0, 1, 7, 8]) rfl⟩
  ·refine c_lit 9 rfl hb1 ?_
   refine c_false rfl (c_exit (q_then_exit (q_then_exit ?_)))
   refine fun a ha => hk1 () a _ hm ?_
   exact ⟨_, hF1, hx1.pick [] (by decide) rfl, ha.cut (l := []) rfl⟩
theorem ent105 : Ent Tryz.prog 105 := fun _ _ => by kernel_rfl
def slices_ContainsFunc_api_Expr_api_Expr (n : Nat) (s1 : (List Expr)) (f1 : (Expr → Option Bool)) : Option Bool :=
 (slices_IndexFunc_api_Expr_api_Expr n s1 f1).bind fun v1 =>
 some (decide (0 ≤ v1))
set_option maxHeartbeats 1000000 in
set_option maxRecDepth 1000000 in
theorem slices_ContainsFunc_api_Expr_api_Expr_ok (n : Nat) (s1 : (List Expr)) (f1 : (Expr → Option Bool)) (r : Bool) (hm : slices_ContainsFunc_api_Expr_api_Expr n s1 f1 = some r) {w : World} {F : Frz} (hs : Sat F w) {as2 : Option Addr} {ns2 : Nat} {cs2 : Nat} {fvf1 : Value} (hs2 : SlR rp_Expr F as2 ns2 cs2 s1) (hpff1 : GFn Tryz.prog F fvf1 (fun F l v => ∃ (q0 : Expr) (a0_0 : Option Addr) (n0_0 : Nat) (c0_0 : Nat) (b : Bool), l = [.agg #[.int .i64 q0.Op, .int .i64 q0.N, vs q0.Name, .slice a0_0 n0_0 c0_0]] ∧ SlR rp_Expr F a0_0 n0_0 c0_0 q0.Args ∧ v = some (.bool b) ∧ f1 q0 = some b)) :
  Calls Tryz.prog 93 #[.slice as2 ns2 cs2, fvf1] w fun e w' => ∃ v F' O', e = .returned v ∧ HS F w [] F' O' w' ∧ (v = .bool r ∧ O' = []) := by
 unfold slices_ContainsFunc_api_Expr_api_Expr at hm
 have h := HS.init hs
 refine calls_of 9 Tryz.func93 rfl rfl rfl ?_
 refine c_seq (c_region (r_assign rfl rfl rfl (r_nil (q_then (c_seq (c_region (r_move rfl rfl rfl (r_move rfl rfl rfl ?_))))))))
 obtain ⟨v1, hv1, hm⟩ := bind_some hm
 refine r_callG0 ent105 rfl rfl rfl rfl h (slices_IndexFunc_api_Expr_api_Expr_ok _ _ _ _ hv1 h.sat hs2 hpff1) ?_
 rintro _ Fx1 _ wx1 hF1 hx1 ⟨rfl, rfl⟩
 refine r_bin rfl rfl rfl rfl rfl ?_
 refine r_assign rfl rfl rfl (r_nil (q_then (c_ret ?_)))
 refine b_ret1 rfl rfl ?_
 obtain rfl := Option.some.inj hm
 exact ⟨_, _, _, rfl, hx1.pick [] (by decide) rfl, rfl, rfl⟩
theorem ent94 : Ent Tryz.prog 94 := fun _ _ => by kernel_rfl
theorem ent93 : Ent Tryz.prog 93 := fun _ _ => by kernel_rfl
theorem ent92 : Ent Tryz.prog 92 := fun _ _ => by kernel_rfl
theorem ent70 : Ent Tryz.prog 70 := fun _ _ => by kernel_rfl
mutual
def tariff_shaped : Nat → Expr → Option Bool
 | 0, _ => none
 | n + 1, x1 =>
  (bif decide (x1.Op < 0) then
   some true
  else
   some (decide (17 ≤ x1.Op))).bind fun v1 =>
  (bif v1 then
   some true
  else
   (tariff_args n x1.Op).bind fun v11 =>
   some ((x1.Args.length : Int) != v11)).bind fun v2 =>
  bif v2 then
   some false
  else
   bif x1.Op == 0 then
    (bif decide (0 ≤ x1.N) then
     some (decide (x1.N ≤ 1099511627776))
    else
     some false).bind fun v3 =>
    (bif v3 then
     some (x1.Name == [])
    else
     some false).bind fun v4 =>
    some v4
   else
    (bif x1.Op == 1 then
     some true
    else
     some (x1.Op == 4)).bind fun v5 =>
    bif v5 then
     (bif x1.N == 0 then
      (lexer_Name n x1.Name).bind fun v7 =>
      some v7
     else
      some false).bind fun v6 =>
     some v6
    else
     (bif x1.N == 0 then
      some (x1.Name == [])
     else
      some false).bind fun v8 =>
     (bif v8 then
      (slices_ContainsFunc_api_Expr_api_Expr n x1.Args (tariff_shaped_1 n)).bind fun v10 =>
      some (!v10)
     else
      some false).bind fun v9 =>
     some v9
def tariff_shaped_1 : Nat → Expr → Option Bool
 | 0, _ => none
 | n + 1, ax1 =>
  (tariff_shaped n ax1).bind fun v1 =>
  some (!v1)
 end
theorem tariff_shaped_s (n : Nat) (x1 : Expr) : tariff_shaped (n + 1) x1 =
  (bif decide (x1.Op < 0) then
   some true
  else
   some (decide (17 ≤ x1.Op))).bind fun v1 =>
  (bif v1 then
   some true
  else
   (tariff_args n x1.Op).bind fun v11 =>
   some ((x1.Args.length : Int) != v11)).bind fun v2 =>
  bif v2 then
   some false
  else
   bif x1.Op == 0 then
    (bif decide (0 ≤ x1.N) then
     some (decide (x1.N ≤ 1099511627776))
    else
     some false).bind fun v3 =>
    (bif v3 then
     some (x1.Name == [])
    else
     some false).bind fun v4 =>
    some v4
   else
    (bif x1.Op == 1 then
     some true
    else
     some (x1.Op == 4)).bind fun v5 =>
    bif v5 then
     (bif x1.N == 0 then
      (lexer_Name n x1.Name).bind fun v7 =>
      some v7
     else
      some false).bind fun v6 =>
     some v6
    else
     (bif x1.N == 0 then
      some (x1.Name == [])
     else
      some false).bind fun v8 =>
     (bif v8 then
      (slices_ContainsFunc_api_Expr_api_Expr n x1.Args (tariff_shaped_1 n)).bind fun v10 =>
      some (!v10)
     else
      some false).bind fun v9 =>
     some v9 := rfl
theorem tariff_shaped_1_s (n : Nat) (ax1 : Expr) : tariff_shaped_1 (n + 1) ax1 =
  (tariff_shaped n ax1).bind fun v1 =>
  some (!v1) := rfl
set_option maxHeartbeats 1000000 in
set_option maxRecDepth 1000000 in
theorem tariff_shaped_all (n : Nat) : (∀ (x1 : Expr) (r : Bool) (_ : tariff_shaped n x1 = some r) {w : World} {F : Frz} (_ : Sat F w) {as1 : Option Addr} {ns1 : Nat} {cs1 : Nat} (_ : SlR rp_Expr F as1 ns1 cs1 x1.Args), Calls Tryz.prog 70 #[.agg #[.int .i64 x1.Op, .int .i64 x1.N, vs x1.Name, .slice as1 ns1 cs1]] w fun e w' => ∃ v F' O', e = .returned v ∧ HS F w [] F' O' w' ∧ (v = .bool r ∧ O' = [])) ∧
  (∀ (ax1 : Expr) (r : Bool) (_ : tariff_shaped_1 n ax1 = some r) {w : World} {F : Frz} (_ : Sat F w) {as1 : Option Addr} {ns1 : Nat} {cs1 : Nat} (_ : SlR rp_Expr F as1 ns1 cs1 ax1.Args), Calls Tryz.prog 94 #[.agg #[.int .i64 ax1.Op, .int .i64 ax1.N, vs ax1.Name, .slice as1 ns1 cs1]] w fun e w' => ∃ v F' O', e = .returned v ∧ HS F w [] F' O' w' ∧ (v = .bool r ∧ O' = [])) := by
 induction n with
 | zero =>
  refine ⟨?_, ?_⟩
  ·intro x1 r hm
   exact absurd (show (none : Option Bool) = some r from hm) (by simp)
  ·intro ax1 r hm
   exact absurd (show (none : Option Bool) = some r from hm) (by simp)
 | succ n ih =>
  refine ⟨?_, ?_⟩
  ·intro x1 r hm w F hs as1 ns1 cs1 hs1
   rw [tariff_shaped_s] at hm
   have h := HS.init hs
   refine calls_of 62 Tryz.func70 rfl rfl rfl ?_
   refine c_seq (c_region ?_)
   refine r_box rfl rfl rfl rfl h ?_
   intro b1 wx1 hx1
   refine r_assign rfl rfl rfl (r_nil (q_then (c_seq (c_seq ?_))))
   refine c_regionD (by kernel_rfl) (by kernel_rfl) hx1 ?_
   refine q_stp rfl rfl rfl rfl (fun _ _ _ _ => r_fieldAddr fa24_0 rfl rfl rfl (r_nil (qq rfl))) ?_
   refine q_stp rfl rfl rfl rfl (fun _ _ _ hq => r_loadB1 ag3 rfl rfl hq rfl (i := 0) rfl rfl (r_nil (qq rfl))) ?_
   refine q_stp rfl rfl rfl rfl (fun _ _ _ _ => r_bin rfl rfl rfl rfl rfl (r_nil (qq rfl))) ?_
   refine q_stp rfl rfl rfl rfl (fun _ _ _ _ => r_move rfl rfl rfl (r_nil (qq rfl))) ?_
   obtain ⟨v1, hb1, hm⟩ := bind_some hm
   refine q_mid 4 (fun a => Has 62 a [(1, .pointer (some ⟨b1, 0, none⟩)), (10, .bool v1)]) ?_ ?_
   ·intro a hax1
    refine qr_apply hax1 ?_
    refine q_stp rfl rfl rfl rfl (fun _ _ _ _ => r_move rfl rfl rfl (r_nil (qq rfl))) ?_
    obtain ⟨v2, hb2, hm⟩ := bind_some hm
    refine q_mid 8 (fun a => Has 62 a [(1, .pointer (some ⟨b1, 0, none⟩)), (19, .bool v2)]) ?_ ?_
    ·intro a hax2
     refine qr_apply hax2 ?_
     refine q_end ?_
     rintro wx4 ⟨Fx1, hF1, hx2⟩
     refine q_then ?_
     rcases cond_some hm with ⟨hb3, hm⟩ | ⟨hb3, hm⟩
     ·refine c_lit 19 rfl hb3 ?_
      refine c_true rfl (c_seq (c_region (r_assign rfl rfl rfl (r_nil (q_then (c_ret (q_then_ret ?_)))))))
      refine b_ret1 rfl rfl ?_
      obtain rfl := Option.some.inj hm
      exact ⟨_, _, _, rfl, hx2.pick [] (by decide) rfl, rfl, rfl⟩
     ·refine c_lit 19 rfl hb3 ?_
      refine c_false rfl (c_skip (q_then (c_seq (c_seq (c_region ?_)))))
      refine r_fieldAddr fa24_0 rfl rfl rfl ?_
      refine r_loadB1 ag3 rfl rfl hx2 rfl (i := 0) rfl rfl ?_
      refine r_nil (q_then (c_block (c_seq (c_region ?_))))
      refine r_bin rfl rfl rfl rfl rfl ?_
      refine r_assign rfl rfl rfl (r_nil (q_then ?_))
      rcases cond_some hm with ⟨hb4, hm⟩ | ⟨hb4, hm⟩
      ·refine c_lit 22 rfl hb4 ?_
       refine c_true rfl (c_seq (c_region ?_))
       refine r_fieldAddr fa24_1 rfl rfl rfl ?_
       refine r_loadB1 ag3 rfl rfl hx2 rfl (i := 0) rfl rfl ?_
       refine r_bin rfl rfl rfl rfl rfl ?_
       refine r_move rfl rfl rfl ?_
       obtain ⟨v3, hb5, hm⟩ := bind_some hm
       refine r_mid 4 (fun a w' => wx4 = w' ∧ Has 62 a [(1, .pointer (some ⟨b1, 0, none⟩)), (31, .bool v3)]) ?_ ?_
       ·rintro a wx5 ⟨rfl, hax3⟩
        refine rw_apply hax3 ?_
        refine r_move rfl rfl rfl ?_
        obtain ⟨v4, hb6, hm⟩ := bind_some hm
        refine r_mid 4 (fun a w' => wx4 = w' ∧ Has 62 a [(36, .bool v4)]) ?_ ?_
        ·rintro a wx6 ⟨rfl, hax4⟩
         refine rw_apply hax4 ?_
         refine r_assign rfl rfl rfl (r_nil (q_then (c_ret (q_block_ret (q_then_ret ?_)))))
         refine b_ret1 rfl rfl ?_
         obtain rfl := Option.some.inj hm
         exact ⟨_, _, _, rfl, hx2.pick [] (by decide) rfl, rfl, rfl⟩
        ·clear hm
         rcases cond_some hb6 with ⟨hb7, hb6⟩ | ⟨hb7, hb6⟩
         ·refine r_lit 32 rfl hb7 ?_
          refine r_fieldAddr fa24_2 rfl rfl rfl ?_
          refine r_loadB1 ag9 rfl rfl hx2 rfl (i := 0) rfl rfl ?_
          refine r_str rfl rfl rfl rfl rfl ?_
          refine r_pick_true rfl rfl rfl rfl (r_nil ?_)
          refine q_next (fun a ha => ?_)
          cases hb6
          exact ⟨rfl, ha.cut (l := [36]) rfl⟩
         ·refine r_lit 32 rfl hb7 ?_
          refine r_off rfl (by decide) rfl (r_off rfl (by decide) rfl (r_off rfl (by decide) rfl (r_pick_false rfl rfl rfl rfl (r_nil ?_))))
          refine q_next (fun a ha => ?_)
          cases hb6
          exact ⟨rfl, ha.cut (l := [36]) rfl⟩
       ·clear hm
        rcases cond_some hb5 with ⟨hb8, hb5⟩ | ⟨hb8, hb5⟩
        ·refine r_lit 27 rfl hb8 ?_
         refine r_fieldAddr fa24_1 rfl rfl rfl ?_
         refine r_loadB1 ag3 rfl rfl hx2 rfl (i := 0) rfl rfl ?_
         refine r_bin rfl rfl rfl rfl rfl ?_
         refine r_pick_true rfl rfl rfl rfl (r_nil ?_)
         refine q_next (fun a ha => ?_)
         cases hb5
         exact ⟨rfl, ha.cut (l := [1, 31]) rfl⟩
        ·refine r_lit 27 rfl hb8 ?_
         refine r_off rfl (by decide) rfl (r_off rfl (by decide) rfl (r_off rfl (by decide) rfl (r_pick_false rfl rfl rfl rfl (r_nil ?_))))
         refine q_next (fun a ha => ?_)
         cases hb5
         exact ⟨rfl, ha.cut (l := [1, 31]) rfl⟩
      ·refine c_lit 22 rfl hb4 ?_
       refine c_false rfl (c_seq (c_seq (c_region ?_)))
       refine r_bin rfl rfl rfl rfl rfl ?_
       refine r_assign rfl rfl rfl (r_nil (q_then ?_))
       obtain ⟨v5, hb9, hm⟩ := bind_some hm
       refine c_midT (fun a w' => wx4 = w' ∧ Has 62 a [(1, .pointer (some ⟨b1, 0, none⟩)), (37, .bool v5)]) ?_ ?_
       ·rintro a wx7 ⟨rfl, hax5⟩
        refine cw_apply hax5 ?_
        rcases cond_some hm with ⟨hb10, hm⟩ | ⟨hb10, hm⟩
        ·refine c_lit 37 rfl hb10 ?_
         refine c_true rfl (c_seq (c_region ?_))
         refine r_fieldAddr fa24_1 rfl rfl rfl ?_
         refine r_loadB1 ag3 rfl rfl hx2 rfl (i := 0) rfl rfl ?_
         refine r_bin rfl rfl rfl rfl rfl ?_
         refine r_move rfl rfl rfl ?_
         obtain ⟨v6, hb11, hm⟩ := bind_some hm
         refine r_mid 4 (fun a w' => wx4 = w' ∧ Has 62 a [(47, .bool v6)]) ?_ ?_
         ·rintro a wx8 ⟨rfl, hax6⟩
          refine rw_apply hax6 ?_
          refine r_assign rfl rfl rfl (r_nil (q_then (c_ret (q_block_ret (q_then_ret ?_)))))
          refine b_ret1 rfl rfl ?_
          obtain rfl := Option.some.inj hm
          exact ⟨_, _, _, rfl, hx2.pick [] (by decide) rfl, rfl, rfl⟩
         ·clear hm
          rcases cond_some hb11 with ⟨hb12, hb11⟩ | ⟨hb12, hb11⟩
          ·refine r_lit 43 rfl hb12 ?_
           refine r_fieldAddr fa24_2 rfl rfl rfl ?_
           refine r_loadB1 ag9 rfl rfl hx2 rfl (i := 0) rfl rfl ?_
           obtain ⟨v7, hv1, hb11⟩ := bind_some hb11
           refine r_callP0 ent61 rfl rfl rfl rfl (lexer_Name_ok _ _ _ hv1) ?_
           refine r_pick_true rfl rfl rfl rfl (r_nil ?_)
           refine q_next (fun a ha => ?_)
           cases hb11
           exact ⟨rfl, ha.cut (l := [47]) rfl⟩
          ·refine r_lit 43 rfl hb12 ?_
           refine r_off rfl (by decide) rfl (r_off rfl (by decide) rfl (r_off rfl (by decide) rfl (r_pick_false rfl rfl rfl rfl (r_nil ?_))))
           refine q_next (fun a ha => ?_)
           cases hb11
           exact ⟨rfl, ha.cut (l := [47]) rfl⟩
        ·refine c_lit 37 rfl hb10 ?_
         refine c_false rfl (c_skip (q_block (q_then (c_seq (c_region ?_)))))
         refine r_fieldAddr fa24_1 rfl rfl rfl ?_
         refine r_loadB1 ag3 rfl rfl hx2 rfl (i := 0) rfl rfl ?_
         refine r_bin rfl rfl rfl rfl rfl ?_
         refine r_move rfl rfl rfl ?_
         obtain ⟨v8, hb13, hm⟩ := bind_some hm
         refine r_mid 4 (fun a w' => wx4 = w' ∧ Has 62 a [(1, .pointer (some ⟨b1, 0, none⟩)), (55, .bool v8)]) ?_ ?_
         ·rintro a wx9 ⟨rfl, hax7⟩
          refine rw_apply hax7 ?_
          refine r_move rfl rfl rfl ?_
          obtain ⟨v9, hb14, hm⟩ := bind_some hm
          refine r_mid 5 (fun a w' => ∃ (Fx2 : Frz), Frz.le Fx1 Fx2 ∧ HS F w [] Fx2 [.box b1 24 [.int .i64 x1.Op, .int .i64 x1.N, vs x1.Name, .slice as1 ns1 cs1]] w' ∧ Has 62 a [(61, .bool v9)]) ?_ ?_
          ·rintro a wx10 ⟨Fx2, hF2, hx3, hax8⟩
           refine rw_apply hax8 ?_
           refine r_assign rfl rfl rfl (r_nil (q_then (c_ret ?_)))
           refine b_ret1 rfl rfl ?_
           obtain rfl := Option.some.inj hm
           exact ⟨_, _, _, rfl, hx3.pick [] (by decide) rfl, rfl, rfl⟩
          ·clear hm
           rcases cond_some hb14 with ⟨hb15, hb14⟩ | ⟨hb15, hb14⟩
           ·refine r_lit 56 rfl hb15 ?_
            refine r_fieldAddr fa24_3 rfl rfl rfl ?_
            refine r_loadB1 ag22 rfl rfl hx2 rfl (i := 0) rfl rfl ?_
            obtain ⟨v10, hv2, hb14⟩ := bind_some hb14
            refine r_callG0 ent93 rfl rfl rfl rfl hx2 (slices_ContainsFunc_api_Expr_api_Expr_ok _ _ _ _ hv2 hx2.sat (hs1.mono hF1) (show GFn Tryz.prog _ (.func (.func 94) #[] #[]) (fun F l v => ∃ (q0 : Expr) (a0_0 : Option Addr) (n0_0 : Nat) (c0_0 : Nat) (b : Bool), l = [.agg #[.int .i64 q0.Op, .int .i64 q0.N, vs q0.Name, .slice a0_0 n0_0 c0_0]] ∧ SlR rp_Expr F a0_0 n0_0 c0_0 q0.Args ∧ v = some (.bool b) ∧ (tariff_shaped_1 n) q0 = some b) from ⟨94, #[], rfl, ent94, fun F' hF' args r w hsat h => by
                               obtain ⟨q0, a0_0, n0_0, c0_0, b, rfl, hs0_0, hv, hb⟩ := h
                               obtain rfl := Option.some.inj hv
                               exact (ih.2 q0 _ hb hsat hs0_0).mono (by rintro _ _ ⟨v, F2, O', h1, h2, rfl, rfl⟩; exact ⟨_, F2, _, h1, h2, rfl, rfl⟩)⟩)) ?_
            rintro _ Fx3 _ wx11 hF3 hx4 ⟨rfl, rfl⟩
            refine r_not rfl rfl rfl (r_pick_true rfl rfl rfl rfl (r_nil ?_))
            refine q_next (fun a ha => ?_)
            cases hb14
            exact ⟨_, hF3, hx4.pick [0] (by decide) rfl, ha.cut (l := [61]) rfl⟩
           ·refine r_lit 56 rfl hb15 ?_
            refine r_off rfl (by decide) rfl (r_off rfl (by decide) rfl (r_off rfl (by decide) rfl (r_off rfl (by decide) rfl (r_pick_false rfl rfl rfl rfl (r_nil ?_)))))
            refine q_next (fun a ha => ?_)
            cases hb14
            exact ⟨_, Frz.refl _, hx2.pick [0] (by decide) rfl, ha.cut (l := [61]) rfl⟩
         ·clear hm
          rcases cond_some hb13 with ⟨hb16, hb13⟩ | ⟨hb16, hb13⟩
          ·refine r_lit 51 rfl hb16 ?_
           refine r_fieldAddr fa24_2 rfl rfl rfl ?_
           refine r_loadB1 ag9 rfl rfl hx2 rfl (i := 0) rfl rfl ?_
           refine r_str rfl rfl rfl rfl rfl ?_
           refine r_pick_true rfl rfl rfl rfl (r_nil ?_)
           refine q_next (fun a ha => ?_)
           cases hb13
           exact ⟨rfl, ha.cut (l := [1, 55]) rfl⟩
          ·refine r_lit 51 rfl hb16 ?_
           refine r_off rfl (by decide) rfl (r_off rfl (by decide) rfl (r_off rfl (by decide) rfl (r_pick_false rfl rfl rfl rfl (r_nil ?_))))
           refine q_next (fun a ha => ?_)
           cases hb13
           exact ⟨rfl, ha.cut (l := [1, 55]) rfl⟩
       ·clear hm
        rcases cond_some hb9 with ⟨hb17, hb9⟩ | ⟨hb17, hb9⟩
        ·refine c_lit 37 rfl hb17 ?_
         refine c_true rfl (c_skip ?_)
         refine q_next (fun a ha => ?_)
         cases hb9
         exact ⟨rfl, ha.cut (l := [1, 37]) rfl⟩
        ·refine c_lit 37 rfl hb17 ?_
         refine c_false rfl (c_region ?_)
         refine r_bin rfl rfl rfl rfl rfl ?_
         refine r_assign rfl rfl rfl (r_nil ?_)
         refine q_next (fun a ha => ?_)
         cases hb9
         exact ⟨rfl, ha.cut (l := [1, 37]) rfl⟩
    ·clear hm
     rcases cond_some hb2 with ⟨hb18, hb2⟩ | ⟨hb18, hb2⟩
     ·refine q_lit 11 rfl hb18 ?_
      refine q_off rfl rfl rfl (q_off rfl rfl rfl (q_off rfl rfl rfl (q_off rfl rfl rfl (q_off rfl rfl rfl (q_off rfl rfl rfl (q_off rfl rfl rfl ?_))))))
      refine q_stp rfl rfl rfl rfl (fun _ _ _ _ => r_pick_true rfl rfl rfl rfl (r_nil (qq rfl))) ?_
      refine q_nil (fun a ha => ?_)
      cases hb2
      exact ha.cut (l := [1, 19]) rfl
     ·refine q_lit 11 rfl hb18 ?_
      refine q_stp rfl rfl rfl rfl (fun _ _ _ _ => r_fieldAddr fa24_3 rfl rfl rfl (r_nil (qq rfl))) ?_
      refine q_stp rfl rfl rfl rfl (fun _ _ _ hq => r_loadB1 ag22 rfl rfl hq rfl (i := 0) rfl rfl (r_nil (qq rfl))) ?_
      refine q_stp rfl rfl rfl rfl (fun _ _ _ _ => r_lenS hs1.len u22 rfl rfl rfl (r_nil (qq rfl))) ?_
      refine q_stp rfl rfl rfl rfl (fun _ _ _ _ => r_fieldAddr fa24_0 rfl rfl rfl (r_nil (qq rfl))) ?_
      refine q_stp rfl rfl rfl rfl (fun _ _ _ hq => r_loadB1 ag3 rfl rfl hq rfl (i := 0) rfl rfl (r_nil (qq rfl))) ?_
      obtain ⟨v11, hv3, hb2⟩ := bind_some hb2
      refine q_callP0 ent92 rfl rfl rfl rfl (fun _ _ hleq hq => tariff_args_ok _ _ _ hv3) ?_
      refine q_stp rfl rfl rfl rfl (fun _ _ _ _ => r_bin rfl rfl rfl rfl rfl (r_nil (qq rfl))) ?_
      refine q_stp rfl rfl rfl rfl (fun _ _ _ _ => r_pick_false rfl rfl rfl rfl (r_nil (qq rfl))) ?_
      refine q_nil (fun a ha => ?_)
      cases hb2
      exact ha.cut (l := [1, 19]) rfl
   ·clear hm
    rcases cond_some hb1 with ⟨hb19, hb1⟩ | ⟨hb19, hb1⟩
    ·refine q_lit 6 rfl hb19 ?_
     refine q_off rfl rfl rfl (q_off rfl rfl rfl (q_off rfl rfl rfl ?_))
     refine q_stp rfl rfl rfl rfl (fun _ _ _ _ => r_pick_true rfl rfl rfl rfl (r_nil (qq rfl))) ?_
     refine q_nil (fun a ha => ?_)
     cases hb1
     exact ha.cut (l := [1, 10]) rfl
    ·refine q_lit 6 rfl hb19 ?_
     refine q_stp rfl rfl rfl rfl (fun _ _ _ _ => r_fieldAddr fa24_0 rfl rfl rfl (r_nil (qq rfl))) ?_
     refine q_stp rfl rfl rfl rfl (fun _ _ _ hq => r_loadB1 ag3 rfl rfl hq rfl (i := 0) rfl rfl (r_nil (qq rfl))) ?_
     refine q_stp rfl rfl rfl rfl (fun _ _ _ _ => r_bin rfl rfl rfl rfl rfl (r_nil (qq rfl))) ?_
     refine q_stp rfl rfl rfl rfl (fun _ _ _ _ => r_pick_false rfl rfl rfl rfl (r_nil (qq rfl))) ?_
     refine q_nil (fun a ha => ?_)
     cases hb1
     exact ha.cut (l := [1, 10]) rfl
  ·intro ax1 r hm w F hs as1 ns1 cs1 hs1
   rw [tariff_shaped_1_s] at hm
   have h := HS.init hs
   refine calls_of 6 Tryz.func94 rfl rfl rfl ?_
   refine c_seq (c_region ?_)
   refine r_box rfl rfl rfl rfl h ?_
   intro b1 wx1 hx1
   refine r_assign rfl rfl rfl (r_nil (q_then (c_seq (c_region ?_))))
   refine r_loadBW ag24 sz24 rfl rfl hx1 rfl (i := 0) rfl rfl ?_
   obtain ⟨v1, hv1, hm⟩ := bind_some hm
   refine r_callG0 ent70 rfl rfl rfl rfl hx1 (ih.1 _ _ hv1 hx1.sat hs1) ?_
   rintro _ Fx1 _ wx2 hF1 hx2 ⟨rfl, rfl⟩
   refine r_not rfl rfl rfl (r_assign rfl rfl rfl (r_nil (q_then (c_ret ?_))))
   refine b_ret1 rfl rfl ?_
   obtain rfl := Option.some.inj hm
   exact ⟨_, _, _, rfl, hx2.pick [] (by decide) rfl, rfl, rfl⟩
theorem tariff_shaped_ok (n : Nat) (x1 : Expr) (r : Bool) (hm : tariff_shaped n x1 = some r) {w : World} {F : Frz} (hs : Sat F w) {as1 : Option Addr} {ns1 : Nat} {cs1 : Nat} (hs1 : SlR rp_Expr F as1 ns1 cs1 x1.Args) :
  Calls Tryz.prog 70 #[.agg #[.int .i64 x1.Op, .int .i64 x1.N, vs x1.Name, .slice as1 ns1 cs1]] w fun e w' => ∃ v F' O', e = .returned v ∧ HS F w [] F' O' w' ∧ (v = .bool r ∧ O' = []) :=
 (tariff_shaped_all n).1 x1 r hm hs hs1
theorem ze3 : ZeroIs Tryz.prog 3 (.int .i64 0) := fun _ => by kernel_rfl
def tariff_form (n : Nat) (x1 : Expr) : Option Bool :=
 (tariff_sized n x1 10 100).bind fun v1 =>
 (bif v1.2 then
  (tariff_shaped n x1).bind fun v3 =>
  some v3
 else
  some false).bind fun v2 =>
 some v2
set_option maxHeartbeats 1000000 in
set_option maxRecDepth 1000000 in
theorem tariff_form_ok (n : Nat) (x1 : Expr) (r : Bool) (hm : tariff_form n x1 = some r) {w : World} {F : Frz} (hs : Sat F w) {as1 : Option Addr} {ns1 : Nat} {cs1 : Nat} (hs1 : SlR rp_Expr F as1 ns1 cs1 x1.Args) :
  Calls Tryz.prog 45 #[.agg #[.int .i64 x1.Op, .int .i64 x1.N, vs x1.Name, .slice as1 ns1 cs1]] w fun e w' => ∃ v F' O', e = .returned v ∧ HS F w [] F' O' w' ∧ (v = .bool r ∧ O' = []) := by
 unfold tariff_form at hm
 have h := HS.init hs
 refine calls_of 10 Tryz.func45 rfl rfl rfl ?_
 refine c_seq (c_region ?_)
 refine r_box rfl rfl rfl rfl h ?_
 intro b1 wx1 hx1
 refine r_assign rfl rfl rfl (r_nil (q_then (c_seq (c_region ?_))))
 refine r_alloc ze3 rfl rfl rfl hx1 ?_
 intro b2 wx2 hx2
 refine r_store sz3 rfl hx2 rfl rfl rfl rfl (i := 0) rfl rfl rfl rfl ?_
 intro wx3 hx3
 refine r_nil (q_then (c_seq (c_region ?_)))
 refine r_loadBW ag24 sz24 rfl rfl hx3 rfl (i := 1) rfl rfl ?_
 obtain ⟨v1, hv1, hm⟩ := bind_some hm
 refine r_callL ent25 rfl rfl rfl rfl hx3 (i := 0) rfl (tariff_sized_ok _ _ _ _ _ hv1 hx3.sat hs1 (hx3.get (i := 0) rfl) (hx3.lendable (i := 0) rfl)) ?_
 rintro _ Fx1 _ _ wx4 hF1 hx4 ⟨rfl, rfl, rfl⟩
 refine r_move rfl rfl rfl ?_
 obtain ⟨v2, hb1, hm⟩ := bind_some hm
 refine r_mid 3 (fun a w' => ∃ (Fx2 : Frz), Frz.le Fx1 Fx2 ∧ HS F w [] Fx2 [.box b2 3 [.int .i64 v1.1], .box b1 24 [.int .i64 x1.Op, .int .i64 x1.N, vs x1.Name, .slice as1 ns1 cs1]] w' ∧ Has 10 a [(9, .bool v2)]) ?_ ?_
 ·rintro a wx5 ⟨Fx2, hF2, hx5, hax1⟩
  refine rw_apply hax1 ?_
  refine r_assign rfl rfl rfl (r_nil (q_then (c_ret ?_)))
  refine b_ret1 rfl rfl ?_
  obtain rfl := Option.some.inj hm
  exact ⟨_, _, _, rfl, hx5.pick [] (by decide) rfl, rfl, rfl⟩
 ·clear hm
  rcases cond_some hb1 with ⟨hb2, hb1⟩ | ⟨hb2, hb1⟩
  ·refine r_lit 6 rfl hb2 ?_
   refine r_loadBW ag24 sz24 rfl rfl hx4 rfl (i := 1) rfl rfl ?_
   obtain ⟨v3, hv2, hb1⟩ := bind_some hb1
   refine r_callG0 ent70 rfl rfl rfl rfl hx4 (tariff_shaped_ok _ _ _ hv2 hx4.sat (hs1.mono hF1)) ?_
   rintro _ Fx3 _ wx6 hF3 hx6 ⟨rfl, rfl⟩
   refine r_pick_true rfl rfl rfl rfl (r_nil ?_)
   refine q_next (fun a ha => ?_)
   cases hb1
   exact ⟨_, hF3, hx6.pick [0, 1] (by decide) rfl, ha.cut (l := [9]) rfl⟩
  ·refine r_lit 6 rfl hb2 ?_
   refine r_off rfl (by decide) rfl (r_off rfl (by decide) rfl (r_pick_false rfl rfl rfl rfl (r_nil ?_)))
   refine q_next (fun a ha => ?_)
   cases hb1
   exact ⟨_, Frz.refl _, hx4.pick [0, 1] (by decide) rfl, ha.cut (l := [9]) rfl⟩
theorem ent45 : Ent Tryz.prog 45 := fun _ _ => by kernel_rfl
def tariff_writable (n : Nat) (t1 : Tariff) : Option Bool :=
 (lexer_Name n t1.Name).bind fun v1 =>
 (bif v1 then
  (tariff_form n t1.Fee).bind fun v5 =>
  some v5
 else
  some false).bind fun v2 =>
 (bif v2 then
  some (decide ((-1) ≤ t1.Cap))
 else
  some false).bind fun v3 =>
 (bif v3 then
  some (decide (t1.Cap ≤ 1099511627776))
 else
  some false).bind fun v4 =>
 some v4
set_option maxHeartbeats 1000000 in
set_option maxRecDepth 1000000 in
theorem tariff_writable_ok (n : Nat) (t1 : Tariff) (r : Bool) (hm : tariff_writable n t1 = some r) {w : World} {F : Frz} (hs : Sat F w) {as1 : Option Addr} {ns1 : Nat} {cs1 : Nat} (hs1 : SlR rp_Expr F as1 ns1 cs1 t1.Fee.Args) :
  Calls Tryz.prog 35 #[.agg #[vs t1.Name, .int .i64 t1.Fee.Op, .int .i64 t1.Fee.N, vs t1.Fee.Name, .slice as1 ns1 cs1, .int .i64 t1.Cap]] w fun e w' => ∃ v F' O', e = .returned v ∧ HS F w [] F' O' w' ∧ (v = .bool r ∧ O' = []) := by
 unfold tariff_writable at hm
 have h := HS.init hs
 refine calls_of 21 Tryz.func35 rfl rfl rfl ?_
 refine c_seq (c_region ?_)
 refine r_box rfl rfl rfl rfl h ?_
 intro b1 wx1 hx1
 refine r_assign rfl rfl rfl (r_nil (q_then (c_seq (c_region ?_))))
 refine r_fieldAddr fa26_0 rfl rfl rfl ?_
 refine r_loadB1 ag9 rfl rfl hx1 rfl (i := 0) rfl rfl ?_
 obtain ⟨v1, hv1, hm⟩ := bind_some hm
 refine r_callP0 ent61 rfl rfl rfl rfl (lexer_Name_ok _ _ _ hv1) ?_
 refine r_move rfl rfl rfl ?_
 obtain ⟨v2, hb1, hm⟩ := bind_some hm
 refine r_mid 4 (fun a w' => ∃ (Fx1 : Frz), Frz.le F Fx1 ∧ HS F w [] Fx1 [.box b1 26 [vs t1.Name, .int .i64 t1.Fee.Op, .int .i64 t1.Fee.N, vs t1.Fee.Name, .slice as1 ns1 cs1, .int .i64 t1.Cap]] w' ∧ Has 21 a [(1, .pointer (some ⟨b1, 0, none⟩)), (10, .bool v2)]) ?_ ?_
 ·rintro a wx2 ⟨Fx1, hF1, hx2, hax1⟩
  refine rw_apply hax1 ?_
  refine r_move rfl rfl rfl ?_
  obtain ⟨v3, hb2, hm⟩ := bind_some hm
  refine r_mid 4 (fun a w' => wx2 = w' ∧ Has 21 a [(1, .pointer (some ⟨b1, 0, none⟩)), (15, .bool v3)]) ?_ ?_
  ·rintro a wx3 ⟨rfl, hax2⟩
   refine rw_apply hax2 ?_
   refine r_move rfl rfl rfl ?_
   obtain ⟨v4, hb3, hm⟩ := bind_some hm
   refine r_mid 4 (fun a w' => wx2 = w' ∧ Has 21 a [(20, .bool v4)]) ?_ ?_
   ·rintro a wx4 ⟨rfl, hax3⟩
    refine rw_apply hax3 ?_
    refine r_assign rfl rfl rfl (r_nil (q_then (c_ret ?_)))
    refine b_ret1 rfl rfl ?_
    obtain rfl := Option.some.inj hm
    exact ⟨_, _, _, rfl, hx2.pick [] (by decide) rfl, rfl, rfl⟩
   ·clear hm
    rcases cond_some hb3 with ⟨hb4, hb3⟩ | ⟨hb4, hb3⟩
    ·refine r_lit 16 rfl hb4 ?_
     refine r_fieldAddr fa26_2 rfl rfl rfl ?_
     refine r_loadB1 ag3 rfl rfl hx2 rfl (i := 0) rfl rfl ?_
     refine r_bin rfl rfl rfl rfl rfl ?_
     refine r_pick_true rfl rfl rfl rfl (r_nil ?_)
     refine q_next (fun a ha => ?_)
     cases hb3
     exact ⟨rfl, ha.cut (l := [20]) rfl⟩
    ·refine r_lit 16 rfl hb4 ?_
     refine r_off rfl (by decide) rfl (r_off rfl (by decide) rfl (r_off rfl (by decide) rfl (r_pick_false rfl rfl rfl rfl (r_nil ?_))))
     refine q_next (fun a ha => ?_)
     cases hb3
     exact ⟨rfl, ha.cut (l := [20]) rfl⟩
  ·clear hm
   rcases cond_some hb2 with ⟨hb5, hb2⟩ | ⟨hb5, hb2⟩
   ·refine r_lit 11 rfl hb5 ?_
    refine r_fieldAddr fa26_2 rfl rfl rfl ?_
    refine r_loadB1 ag3 rfl rfl hx2 rfl (i := 0) rfl rfl ?_
    refine r_bin rfl rfl rfl rfl rfl ?_
    refine r_pick_true rfl rfl rfl rfl (r_nil ?_)
    refine q_next (fun a ha => ?_)
    cases hb2
    exact ⟨rfl, ha.cut (l := [1, 15]) rfl⟩
   ·refine r_lit 11 rfl hb5 ?_
    refine r_off rfl (by decide) rfl (r_off rfl (by decide) rfl (r_off rfl (by decide) rfl (r_pick_false rfl rfl rfl rfl (r_nil ?_))))
    refine q_next (fun a ha => ?_)
    cases hb2
    exact ⟨rfl, ha.cut (l := [1, 15]) rfl⟩
 ·clear hm
  rcases cond_some hb1 with ⟨hb6, hb1⟩ | ⟨hb6, hb1⟩
  ·refine r_lit 6 rfl hb6 ?_
   refine r_fieldAddr fa26_1 rfl rfl rfl ?_
   refine r_loadBA (cs' := [.int .i64 t1.Fee.Op, .int .i64 t1.Fee.N, vs t1.Fee.Name, .slice as1 ns1 cs1]) ag24 sz24 rfl rfl hx1 rfl (i := 0) rfl rfl rfl ?_
   obtain ⟨v5, hv2, hb1⟩ := bind_some hb1
   refine r_callG0 ent45 rfl rfl rfl rfl hx1 (tariff_form_ok _ _ _ hv2 hx1.sat hs1) ?_
   rintro _ Fx2 _ wx5 hF2 hx3 ⟨rfl, rfl⟩
   refine r_pick_true rfl rfl rfl rfl (r_nil ?_)
   refine q_next (fun a ha => ?_)
   cases hb1
   exact ⟨_, hF2, hx3.pick [0] (by decide) rfl, ha.cut (l := [1, 10]) rfl⟩
  ·refine r_lit 6 rfl hb6 ?_
   refine r_off rfl (by decide) rfl (r_off rfl (by decide) rfl (r_off rfl (by decide) rfl (r_pick_false rfl rfl rfl rfl (r_nil ?_))))
   refine q_next (fun a ha => ?_)
   cases hb1
   exact ⟨_, Frz.refl _, hx1.pick [0] (by decide) rfl, ha.cut (l := [1, 10]) rfl⟩
theorem ze26 : ZeroIs Tryz.prog 26 (.agg #[vs [], .int .i64 0, .int .i64 0, vs [], .slice none 0 0, .int .i64 0]) := fun _ => by kernel_rfl
theorem ent20 : Ent Tryz.prog 20 := fun _ _ => by kernel_rfl
theorem sz26 : SizeIs Tryz.prog 26 6 := fun _ => by kernel_rfl
theorem ag26 : IsAgg Tryz.prog 26 true := fun _ => by kernel_rfl
def tariff_Parse (n : Nat) (s1 : Bs) : Option (Tariff × Int × Int) :=
 (lexer_Scan n s1).bind fun v1 =>
 bif v1.2.2 != 0 then
  some ((⟨[], (⟨0, 0, [], []⟩ : Expr), 0⟩ : Tariff), v1.2.1, v1.2.2)
 else
  (tariff_reader_need n (⟨v1.1, 0, 0⟩ : reader) [[116, 97, 114, 105, 102, 102]]).bind fun v2 =>
  (tariff_reader_one n v2 0).bind fun v3 =>
  (tariff_reader_need n v3.1 [[123], [102, 101, 101], [61]]).bind fun v4 =>
  (tariff_reader_expr n v4).bind fun v5 =>
  (tariff_reader_is n v5.1 [59]).bind fun v6 =>
  (bif v6.2 then
   (tariff_sized n v5.2 10 100).bind fun v16 =>
   some (!v16.2, v16.1)
  else
   some (false, 100)).bind fun (v7, _) =>
  (bif v7 then
   (tariff_reader_fail n v6.1 6).bind fun v15 =>
   some (v15.l, v15.at_, v15.e)
  else
   some (v6.1.l, v6.1.at_, v6.1.e)).bind fun (f2, f3, f4) =>
  (tariff_reader_need n (⟨f2, f3, f4⟩ : reader) [[59]]).bind fun v8 =>
  (tariff_reader_take n v8 [99, 97, 112]).bind fun v9 =>
  (bif v9.2 then
   (tariff_reader_need n v9.1 [[61]]).bind fun v12 =>
   (tariff_reader_one n v12 1).bind fun v13 =>
   (tariff_reader_need n v13.1 [[59]]).bind fun v14 =>
   some (v13.2.N, v14.l, v14.at_, v14.e)
  else
   some ((-1), v9.1.l, v9.1.at_, v9.1.e)).bind fun (f5, f6, f7, f8) =>
  (tariff_reader_need n (⟨f6, f7, f8⟩ : reader) [[125]]).bind fun v10 =>
  (bif decide (v10.at_ < (v1.1.length : Int)) then
   (tariff_reader_fail n v10 12).bind fun v11 =>
   some (v11.l, v11.at_, v11.e)
  else
   some (v10.l, v10.at_, v10.e)).bind fun (_, f10, f11) =>
  bif f11 == 0 then
   some ((⟨v3.2.Text, v5.2, f5⟩ : Tariff), 0, 0)
  else
   bif decide (f10 < (v1.1.length : Int)) then
    (ix v1.1 f10).bind fun ex1 =>
    some ((⟨[], (⟨0, 0, [], []⟩ : Expr), 0⟩ : Tariff), ex1.Pos, f11)
   else
    some ((⟨[], (⟨0, 0, [], []⟩ : Expr), 0⟩ : Tariff), (s1.length : Int), f11)
set_option maxHeartbeats 1000000 in
set_option maxRecDepth 1000000 in
theorem tariff_Parse_ok (n : Nat) (s1 : Bs) (r : (Tariff × Int × Int)) (hm : tariff_Parse n s1 = some r) {w : World} {F : Frz} (hs : Sat F w) (hg0 : FX F 0 [.int .u8 40, .int .u8 41, .int .u8 44, .int .u8 59, .int .u8 58, .int .u8 61, .int .u8 60, .int .u8 43, .int .u8 45, .int .u8 42, .int .u8 47, .int .u8 123, .int .u8 125]) :
  Calls Tryz.prog 7 #[vs s1] w fun e w' => ∃ v F' O', e = .returned v ∧ HS F w [] F' O' w' ∧ (∃ (a0_4 : Option Addr) (n0_4 : Nat) (c0_4 : Nat), v = .tuple #[.agg #[vs r.1.Name, .int .i64 r.1.Fee.Op, .int .i64 r.1.Fee.N, vs r.1.Fee.Name, .slice a0_4 n0_4 c0_4, .int .i64 r.1.Cap], .int .i64 r.2.1, .int .i64 r.2.2] ∧ O' = [] ∧ SlR rp_Expr F' a0_4 n0_4 c0_4 r.1.Fee.Args) := by
 unfold tariff_Parse at hm
 have h := HS.init hs
 refine calls_of 110 Tryz.func7 rfl rfl rfl ?_
 refine c_seq (c_region ?_)
 refine r_alloc ze26 rfl rfl rfl h ?_
 intro b1 wx1 hx1
 refine r_assign rfl rfl rfl (r_assign rfl rfl rfl (r_nil (q_then (c_seq (c_region (r_move rfl rfl rfl ?_))))))
 obtain ⟨v1, hv1, hm⟩ := bind_some hm
 refine r_callG0 ent20 rfl rfl rfl rfl hx1 (lexer_Scan_ok _ _ _ hv1 hx1.sat hg0) ?_
 rintro _ Fx1 _ wx2 hF1 hx2 ⟨as2, ns2, cs2, rfl, rfl, hs2⟩
 refine r_move rfl rfl rfl (r_extract rfl rfl rfl rfl (r_extract rfl rfl rfl rfl (r_extract rfl rfl rfl rfl (r_assign rfl rfl rfl (r_assign rfl rfl rfl (r_assign rfl rfl rfl (r_nil (q_then (c_seq (c_seq (c_region (r_move rfl rfl rfl ?_))))))))))))
 refine r_bin rfl rfl rfl rfl rfl ?_
 refine r_nil (q_then ?_)
 rcases cond_some hm with ⟨hb1, hm⟩ | ⟨hb1, hm⟩
 ·refine c_lit 18 rfl hb1 ?_
  refine c_true rfl (c_seq (c_region ?_))
  refine r_build (v := .agg #[vs [], .int .i64 0, .int .i64 0, vs [], .slice none 0 0, .int .i64 0]) rfl rfl rfl (fun _ => by kernel_rfl) ?_
  refine r_move rfl rfl rfl (r_move rfl rfl rfl ?_)
  refine r_store sz26 rfl hx2 rfl rfl rfl rfl (i := 0) rfl rfl rfl rfl ?_
  intro wx3 hx3
  refine r_assign rfl rfl rfl (r_assign rfl rfl rfl (r_nil (q_then (c_ret (q_then_ret ?_)))))
  refine b_retA (vl := [.agg #[vs [], .int .i64 0, .int .i64 0, vs [], .slice none 0 0, .int .i64 0], .int .i64 v1.2.1, .int .i64 v1.2.2]) rfl ⟨v_cell ag26 sz26 rfl hx3 rfl (i := 0) rfl, v_tmp rfl, v_tmp rfl, trivial⟩ (by simp) ?_
  obtain rfl := Option.some.inj hm
  exact ⟨_, _, _, rfl, hx3.pick [] (by decide) rfl, none, 0, 0, rfl, rfl, SlR.nil _ _⟩
 ·refine c_lit 18 rfl hb1 ?_
  refine c_false rfl (c_skip (q_then (c_seq (c_region (r_move rfl rfl rfl ?_)))))
  refine r_build (v := .agg #[.slice as2 ns2 cs2, .int .i64 0, .int .i64 0]) rfl rfl rfl (fun _ => by kernel_rfl) ?_
  refine r_box rfl rfl rfl rfl hx2 ?_
  intro b2 wx4 hx4
  refine r_assign rfl rfl rfl (r_nil (q_then (c_seq (c_region (r_move rfl rfl rfl ?_)))))
  refine r_buildSlice (e := 9) (cs := [vs [116, 97, 114, 105, 102, 102]]) (q := 1) rfl rfl hx4 rfl (fun _ => by kernel_rfl) rfl rfl ?_
  intro b3 wx5 hx5
  obtain ⟨Fx2, hF2, hx6, hsx1⟩ := freezeRow hx5 (i := 0) rfl ((show RowN Rp.str Fx1 1 [vs [116, 97, 114, 105, 102, 102]] [[116, 97, 114, 105, 102, 102]] from ⟨rfl, ⟨_, _, rfl, rfl, (rfl : RowR Rp.str _ [] [])⟩⟩))
  obtain ⟨v2, hv2, hm⟩ := bind_some hm
  refine r_callL ent21 rfl rfl rfl rfl hx6 (i := 0) rfl (tariff_reader_need_ok _ _ _ _ hv2 hx6.sat (hs2.mono hF2) (hx6.get (i := 0) rfl) (hx6.lendable (i := 0) rfl) hsx1) ?_
  rintro _ Fx3 _ _ wx6 hF3 hx7 ⟨as3, ns3, cs3, rfl, rfl, rfl, hs3⟩
  refine r_nil (q_then (c_seq (c_region (r_move rfl rfl rfl ?_))))
  obtain ⟨v3, hv3, hm⟩ := bind_some hm
  refine r_callL ent22 rfl rfl rfl rfl hx7 (i := 0) rfl (tariff_reader_one_ok _ _ _ _ hv3 hx7.sat hs3 (hx7.get (i := 0) rfl) (hx7.lendable (i := 0) rfl)) ?_
  rintro _ Fx4 _ _ wx7 hF4 hx8 ⟨as4, ns4, cs4, rfl, rfl, rfl, hs4⟩
  refine r_field (v := .agg #[.int .i64 v3.2.Kind, vs v3.2.Text, .int .i64 v3.2.N, .int .i64 v3.2.Pos]) (u := vs v3.2.Text) (fun _ => by kernel_rfl) rfl rfl rfl ?_
  refine r_build (v := .agg #[vs v3.2.Text, .int .i64 0, .int .i64 0, vs [], .slice none 0 0, .int .i64 (-1)]) rfl rfl rfl (fun _ => by kernel_rfl) ?_
  refine r_alloc ze26 rfl rfl rfl hx8 ?_
  intro b4 wx8 hx9
  refine r_store sz26 rfl hx9 rfl rfl rfl rfl (i := 0) rfl rfl rfl rfl ?_
  intro wx9 hx10
  refine r_nil (q_then (c_seq (c_region (r_move rfl rfl rfl ?_))))
  refine r_buildSlice (e := 9) (cs := [vs [123], vs [102, 101, 101], vs [61]]) (q := 1) rfl rfl hx10 rfl (fun _ => by kernel_rfl) rfl rfl ?_
  intro b5 wx10 hx11
  obtain ⟨Fx5, hF5, hx12, hsx2⟩ := freezeRow hx11 (i := 0) rfl ((show RowN Rp.str Fx4 3 [vs [123], vs [102, 101, 101], vs [61]] [[123], [102, 101, 101], [61]] from ⟨rfl, ⟨_, _, rfl, rfl, ⟨_, _, rfl, rfl, ⟨_, _, rfl, rfl, (rfl : RowR Rp.str _ [] [])⟩⟩⟩⟩))
  obtain ⟨v4, hv4, hm⟩ := bind_some hm
  refine r_callL ent21 rfl rfl rfl rfl hx12 (i := 1) rfl (tariff_reader_need_ok _ _ _ _ hv4 hx12.sat (hs4.mono hF5) (hx12.get (i := 1) rfl) (hx12.lendable (i := 1) rfl) hsx2) ?_
  rintro _ Fx6 _ _ wx11 hF6 hx13 ⟨as5, ns5, cs5, rfl, rfl, rfl, hs5⟩
  refine r_nil (q_then (c_seq (c_region (r_move rfl rfl rfl ?_))))
  obtain ⟨v5, hv5, hm⟩ := bind_some hm
  refine r_callL ent23 rfl rfl rfl rfl hx13 (i := 1) rfl (tariff_reader_expr_ok _ _ _ hv5 hx13.sat hs5 (hx13.get (i := 1) rfl) (hx13.lendable (i := 1) rfl)) ?_
  rintro _ Fx7 _ _ wx12 hF7 hx14 ⟨as6, ns6, cs6, as7, ns7, cs7, rfl, rfl, rfl, hs6, hs7⟩
  refine r_fieldAddr fa26_1 rfl rfl rfl ?_
  refine r_store sz24 rfl hx14 rfl rfl rfl rfl (i := 0) rfl rfl rfl rfl ?_
  intro wx13 hx15
  refine r_nil (q_then (c_seq (c_seq (c_region ?_))))
  refine r_alloc ze3 rfl rfl rfl hx15 ?_
  intro b6 wx14 hx16
  refine r_store sz3 rfl hx16 rfl rfl rfl rfl (i := 0) rfl rfl rfl rfl ?_
  intro wx15 hx17
  refine r_nil (q_then (c_seq (c_region (r_move rfl rfl rfl ?_))))
  obtain ⟨v6, hv6, hm⟩ := bind_some hm
  refine r_callL ent24 rfl rfl rfl rfl hx17 (i := 2) rfl (tariff_reader_is_ok _ _ _ _ hv6 hx17.sat hs6 (hx17.get (i := 2) rfl) (hx17.lendable (i := 2) rfl)) ?_
  rintro _ Fx8 _ _ wx16 hF8 hx18 ⟨as8, ns8, cs8, rfl, rfl, rfl, hs8⟩
  refine r_move rfl rfl rfl ?_
  obtain ⟨⟨v7, f1⟩, hb2, hm⟩ := bind_some hm
  refine r_mid 5 (fun a w' => ∃ (Fx9 : Frz), Frz.le Fx8 Fx9 ∧ HS F w [] Fx9 [.box b6 3 [.int .i64 f1], .box b4 26 [vs v3.2.Text, .int .i64 v5.2.Op, .int .i64 v5.2.N, vs v5.2.Name, .slice as7 ns7 cs7, .int .i64 (-1)], .box b2 50 [.slice as8 ns8 cs8, .int .i64 v6.1.at_, .int .i64 v6.1.e], .box b1 26 [vs [], .int .i64 0, .int .i64 0, vs [], .slice none 0 0, .int .i64 0]] w' ∧ Has 110 a [(0, vs s1), (2, .pointer (some ⟨b1, 0, none⟩)), (5, .slice as2 ns2 cs2), (8, .pointer (some ⟨b2, 0, none⟩)), (9, .pointer (some ⟨b4, 0, none⟩)), (45, .bool v7)]) ?_ ?_
  ·rintro a wx17 ⟨Fx9, hF9, hx19, hax1⟩
   refine rw_apply hax1 ?_
   refine r_nil (q_then ?_)
   obtain ⟨⟨f2, f3, f4⟩, hb3, hm⟩ := bind_some hm
   refine c_midT (fun a w' => ∃ (Fx10 : Frz) (as9 : Option Addr) (ns9 : Nat) (cs9 : Nat), Frz.le Fx9 Fx10 ∧ HS F w [] Fx10 [.box b6 3 [.int .i64 f1], .box b4 26 [vs v3.2.Text, .int .i64 v5.2.Op, .int .i64 v5.2.N, vs v5.2.Name, .slice as7 ns7 cs7, .int .i64 (-1)], .box b2 50 [.slice as9 ns9 cs9, .int .i64 f3, .int .i64 f4], .box b1 26 [vs [], .int .i64 0, .int .i64 0, vs [], .slice none 0 0, .int .i64 0]] w' ∧ (SlR rp_Token Fx10 as9 ns9 cs9 f2) ∧ Has 110 a [(0, vs s1), (2, .pointer (some ⟨b1, 0, none⟩)), (5, .slice as2 ns2 cs2), (8, .pointer (some ⟨b2, 0, none⟩)), (9, .pointer (some ⟨b4, 0, none⟩))]) ?_ ?_
   ·rintro a wx18 ⟨Fx10, as9, ns9, cs9, hF10, hx20, hs9, hax2⟩
    refine cw_apply hax2 ?_
    refine c_seq (c_region (r_move rfl rfl rfl ?_))
    refine r_buildSlice (e := 9) (cs := [vs [59]]) (q := 1) rfl rfl hx20 rfl (fun _ => by kernel_rfl) rfl rfl ?_
    intro b7 wx19 hx21
    obtain ⟨Fx11, hF11, hx22, hsx3⟩ := freezeRow hx21 (i := 0) rfl ((show RowN Rp.str Fx10 1 [vs [59]] [[59]] from ⟨rfl, ⟨_, _, rfl, rfl, (rfl : RowR Rp.str _ [] [])⟩⟩))
    obtain ⟨v8, hv7, hm⟩ := bind_some hm
    refine r_callL ent21 rfl rfl rfl rfl hx22 (i := 2) rfl (tariff_reader_need_ok _ _ _ _ hv7 hx22.sat (hs9.mono hF11) (hx22.get (i := 2) rfl) (hx22.lendable (i := 2) rfl) hsx3) ?_
    rintro _ Fx12 _ _ wx20 hF12 hx23 ⟨as10, ns10, cs10, rfl, rfl, rfl, hs10⟩
    refine r_nil (q_then (c_seq (c_seq (c_region (r_move rfl rfl rfl ?_)))))
    obtain ⟨v9, hv8, hm⟩ := bind_some hm
    refine r_callL ent27 rfl rfl rfl rfl hx23 (i := 2) rfl (tariff_reader_take_ok _ _ _ _ hv8 hx23.sat hs10 (hx23.get (i := 2) rfl) (hx23.lendable (i := 2) rfl)) ?_
    rintro _ Fx13 _ _ wx21 hF13 hx24 ⟨as11, ns11, cs11, rfl, rfl, rfl, hs11⟩
    refine r_nil (q_then ?_)
    obtain ⟨⟨f5, f6, f7, f8⟩, hb4, hm⟩ := bind_some hm
    refine c_midT (fun a w' => ∃ (Fx14 : Frz) (as12 : Option Addr) (ns12 : Nat) (cs12 : Nat), Frz.le Fx13 Fx14 ∧ HS F w [] Fx14 [.box b6 3 [.int .i64 f1], .box b4 26 [vs v3.2.Text, .int .i64 v5.2.Op, .int .i64 v5.2.N, vs v5.2.Name, .slice as7 ns7 cs7, .int .i64 f5], .box b2 50 [.slice as12 ns12 cs12, .int .i64 f7, .int .i64 f8], .box b1 26 [vs [], .int .i64 0, .int .i64 0, vs [], .slice none 0 0, .int .i64 0]] w' ∧ (SlR rp_Token Fx14 as12 ns12 cs12 f6) ∧ Has 110 a [(0, vs s1), (2, .pointer (some ⟨b1, 0, none⟩)), (5, .slice as2 ns2 cs2), (8, .pointer (some ⟨b2, 0, none⟩)), (9, .pointer (some ⟨b4, 0, none⟩))]) ?_ ?_
    ·rintro a wx22 ⟨Fx14, as12, ns12, cs12, hF14, hx25, hs12, hax3⟩
     refine cw_apply hax3 ?_
     refine c_seq (c_region (r_move rfl rfl rfl ?_))
     refine r_buildSlice (e := 9) (cs := [vs [125]]) (q := 1) rfl rfl hx25 rfl (fun _ => by kernel_rfl) rfl rfl ?_
     intro b8 wx23 hx26
     obtain ⟨Fx15, hF15, hx27, hsx4⟩ := freezeRow hx26 (i := 0) rfl ((show RowN Rp.str Fx14 1 [vs [125]] [[125]] from ⟨rfl, ⟨_, _, rfl, rfl, (rfl : RowR Rp.str _ [] [])⟩⟩))
     obtain ⟨v10, hv9, hm⟩ := bind_some hm
     refine r_callL ent21 rfl rfl rfl rfl hx27 (i := 2) rfl (tariff_reader_need_ok _ _ _ _ hv9 hx27.sat (hs12.mono hF15) (hx27.get (i := 2) rfl) (hx27.lendable (i := 2) rfl) hsx4) ?_
     rintro _ Fx16 _ _ wx24 hF16 hx28 ⟨as13, ns13, cs13, rfl, rfl, rfl, hs13⟩
     refine r_nil (q_then (c_seq (c_seq (c_region (r_move rfl rfl rfl ?_)))))
     refine r_nilC rfl rfl rfl ?_
     refine r_fieldAddr fa50_1 rfl rfl rfl ?_
     refine r_loadB1 ag3 rfl rfl hx28 rfl (i := 2) rfl rfl ?_
     refine r_move rfl rfl rfl ?_
     refine r_lenS hs2.len u45 rfl rfl rfl ?_
     refine r_bin rfl rfl rfl rfl rfl ?_
     refine r_nil (q_then ?_)
     obtain ⟨⟨f9, f10, f11⟩, hb5, hm⟩ := bind_some hm
     refine c_midT (fun a w' => ∃ (Fx17 : Frz) (as14 : Option Addr) (ns14 : Nat) (cs14 : Nat), Frz.le Fx16 Fx17 ∧ HS F w [] Fx17 [.box b6 3 [.int .i64 f1], .box b4 26 [vs v3.2.Text, .int .i64 v5.2.Op, .int .i64 v5.2.N, vs v5.2.Name, .slice as7 ns7 cs7, .int .i64 f5], .box b2 50 [.slice as14 ns14 cs14, .int .i64 f10, .int .i64 f11], .box b1 26 [vs [], .int .i64 0, .int .i64 0, vs [], .slice none 0 0, .int .i64 0]] w' ∧ (SlR rp_Token Fx17 as14 ns14 cs14 f9) ∧ Has 110 a [(0, vs s1), (2, .pointer (some ⟨b1, 0, none⟩)), (5, .slice as2 ns2 cs2), (8, .pointer (some ⟨b2, 0, none⟩)), (9, .pointer (some ⟨b4, 0, none⟩))]) ?_ ?_
     ·rintro a wx25 ⟨Fx17, as14, ns14, cs14, hF17, hx29, hs14, hax4⟩
      refine cw_apply hax4 ?_
      refine c_seq (c_block (c_seq (c_region (r_move rfl rfl rfl ?_))))
      refine r_nilC rfl rfl rfl ?_
      refine r_fieldAddr fa50_2 rfl rfl rfl ?_
      refine r_loadB1 ag31 rfl rfl hx29 rfl (i := 2) rfl rfl ?_
      refine r_bin rfl rfl rfl rfl rfl ?_
      refine r_assign rfl rfl rfl (r_nil (q_then ?_))
      rcases cond_some hm with ⟨hb6, hm⟩ | ⟨hb6, hm⟩
      ·refine c_lit 75 rfl hb6 ?_
       refine c_true rfl (c_seq (c_region ?_))
       refine r_loadBW ag26 sz26 rfl rfl hx29 rfl (i := 1) rfl rfl ?_
       refine r_store sz26 rfl hx29 rfl rfl rfl rfl (i := 3) rfl rfl rfl rfl ?_
       intro wx26 hx30
       refine r_assign rfl rfl rfl (r_assign rfl rfl rfl (r_nil (q_then (c_ret (q_block_ret (q_then_ret ?_))))))
       refine b_retA (vl := [.agg #[vs v3.2.Text, .int .i64 v5.2.Op, .int .i64 v5.2.N, vs v5.2.Name, .slice as7 ns7 cs7, .int .i64 f5], .int .i64 0, .int .i64 0]) rfl ⟨v_cell ag26 sz26 rfl hx30 rfl (i := 3) rfl, v_tmp rfl, v_tmp rfl, trivial⟩ (by simp) ?_
       obtain rfl := Option.some.inj hm
       exact ⟨_, _, _, rfl, hx30.pick [] (by decide) rfl, as7, ns7, cs7, rfl, rfl, ((((((((((hs7.mono hF8).mono hF9).mono hF10).mono hF11).mono hF12).mono hF13).mono hF14).mono hF15).mono hF16).mono hF17)⟩
      ·refine c_lit 75 rfl hb6 ?_
       refine c_false rfl (c_seq (c_region (r_move rfl rfl rfl ?_)))
       refine r_nilC rfl rfl rfl ?_
       refine r_fieldAddr fa50_1 rfl rfl rfl ?_
       refine r_loadB1 ag3 rfl rfl hx29 rfl (i := 2) rfl rfl ?_
       refine r_move rfl rfl rfl ?_
       refine r_lenS hs2.len u45 rfl rfl rfl ?_
       refine r_bin rfl rfl rfl rfl rfl ?_
       refine r_assign rfl rfl rfl (r_nil (q_then ?_))
       rcases cond_some hm with ⟨hb7, hm⟩ | ⟨hb7, hm⟩
       ·refine c_lit 82 rfl hb7 ?_
        refine c_true rfl (c_seq ?_)
        refine c_regionH (SH Fx17 [.box b6 3 [.int .i64 f1], .box b4 26 [vs v3.2.Text, .int .i64 v5.2.Op, .int .i64 v5.2.N, vs v5.2.Name, .slice as7 ns7 cs7, .int .i64 f5], .box b2 50 [.slice as14 ns14 cs14, .int .i64 f10, .int .i64 f11], .box b1 26 [vs [], .int .i64 0, .int .i64 0, vs [], .slice none 0 0, .int .i64 0]]) 16 rfl (by kernel_rfl) hx29 ?_
        intro wx27 hx31
        refine d_tk 0 rfl (by kernel_rfl) rfl rfl rfl rfl (hx31.sh (Frz.refl _) [0, 1, 2, 3] (by decide) rfl) (fun _ _ _ _ _ => r_build (v := .agg #[vs [], .int .i64 0, .int .i64 0, vs [], .slice none 0 0, .int .i64 0]) rfl rfl rfl (fun _ => by kernel_rfl) (r_nil (qq rfl))) ?_
        refine d_tk 1 rfl (by kernel_rfl) rfl rfl rfl rfl (hx31.sh (Frz.refl _) [0, 1, 2, 3] (by decide) rfl) (fun _ _ _ _ _ => r_move rfl rfl rfl (r_nil (qq rfl))) ?_
        refine d_tk 2 rfl (by kernel_rfl) rfl rfl rfl rfl (hx31.sh (Frz.refl _) [0, 1, 2, 3] (by decide) rfl) (fun _ _ _ _ _ => r_move rfl rfl rfl (r_nil (qq rfl))) ?_
        refine d_nilC 3 rfl (by kernel_rfl) (by kernel_rfl) (by kernel_rfl) rfl rfl rfl (hx31.sh (Frz.refl _) [0, 1, 2, 3] (by decide) rfl) ?_
        refine d_tk 4 rfl (by kernel_rfl) rfl rfl rfl rfl (hx31.sh (Frz.refl _) [0, 1, 2, 3] (by decide) rfl) (fun _ _ _ _ _ => r_fieldAddr fa50_1 rfl rfl rfl (r_nil (qq rfl))) ?_
        refine d_tk 5 rfl (by kernel_rfl) rfl rfl rfl rfl (hx31.sh (Frz.refl _) [0, 1, 2, 3] (by decide) rfl) (fun _ _ _ _ hq => r_loadB1 ag3 rfl rfl hq rfl (i := 2) rfl rfl (r_nil (qq rfl))) ?_
        obtain ⟨ex1, he1, hm⟩ := bind_some hm
        obtain ⟨b9, o1, cs1, hf1, hr1, hrun1⟩ := findex_ex (P := Tryz.prog) (r := rp_Token) u45 sz53 ((((((((((((((((hs2.mono hF2).mono hF3).mono hF4).mono hF5).mono hF6).mono hF7).mono hF8).mono hF9).mono hF10).mono hF11).mono hF12).mono hF13).mono hF14).mono hF15).mono hF16).mono hF17) he1
        have hc1 : cs1 = [.int .i64 ex1.Kind, vs ex1.Text, .int .i64 ex1.N, .int .i64 ex1.Pos] := hr1
        subst hc1
        refine d_findex 6 rfl (by kernel_rfl) (by kernel_rfl) (by kernel_rfl) rfl rfl rfl rfl hrun1 (hx31.sh (Frz.refl _) [0, 1, 2, 3] (by decide) rfl) ?_
        refine d_tk 7 rfl (by kernel_rfl) rfl rfl rfl rfl (hx31.sh (Frz.refl _) [0, 1, 2, 3] (by decide) rfl) (fun _ _ _ _ _ => r_fieldAddr fa53_3 rfl rfl rfl (r_nil (qq rfl))) ?_
        refine d_tk 8 rfl (by kernel_rfl) rfl rfl rfl rfl (hx31.sh (Frz.refl _) [0, 1, 2, 3] (by decide) rfl) (fun _ _ _ hleq hq => r_loadF1 (j := 3) ag3 rfl rfl hq (hf1.mono hleq) rfl rfl (r_nil (qq rfl))) ?_
        refine d_tk 9 rfl (by kernel_rfl) rfl rfl rfl rfl (hx31.sh (Frz.refl _) [0, 1, 2, 3] (by decide) rfl) (fun _ _ _ _ _ => r_move rfl rfl rfl (r_nil (qq rfl))) ?_
        refine d_nilC 10 rfl (by kernel_rfl) (by kernel_rfl) (by kernel_rfl) rfl rfl rfl (hx31.sh (Frz.refl _) [0, 1, 2, 3] (by decide) rfl) ?_
        refine d_tk 11 rfl (by kernel_rfl) rfl rfl rfl rfl (hx31.sh (Frz.refl _) [0, 1, 2, 3] (by decide) rfl) (fun _ _ _ _ _ => r_fieldAddr fa50_2 rfl rfl rfl (r_nil (qq rfl))) ?_
        refine d_tk 12 rfl (by kernel_rfl) rfl rfl rfl rfl (hx31.sh (Frz.refl _) [0, 1, 2, 3] (by decide) rfl) (fun _ _ _ _ hq => r_loadB1 ag31 rfl rfl hq rfl (i := 2) rfl rfl (r_nil (qq rfl))) ?_
        refine d_step 13 rfl (by kernel_rfl) ?_
        refine r_store sz26 rfl hx31 rfl rfl rfl rfl (i := 3) rfl rfl rfl rfl ?_
        intro wx28 hx32
        refine d_next (hx32.sh (Frz.refl _) [0, 1, 2, 3] (by decide) rfl) ?_
        refine d_tk 14 rfl (by kernel_rfl) rfl rfl rfl rfl (hx32.sh (Frz.refl _) [0, 1, 2, 3] (by decide) rfl) (fun _ _ _ _ _ => r_assign rfl rfl rfl (r_nil (qq rfl))) ?_
        refine d_tk 15 rfl (by kernel_rfl) rfl rfl rfl rfl (hx32.sh (Frz.refl _) [0, 1, 2, 3] (by decide) rfl) (fun _ _ _ _ _ => r_assign rfl rfl rfl (r_nil (qq rfl))) ?_
        refine d_done (by kernel_rfl) ?_
        refine q_then (c_ret (q_block_ret (q_then_ret ?_)))
        refine b_retA (vl := [.agg #[vs [], .int .i64 0, .int .i64 0, vs [], .slice none 0 0, .int .i64 0], .int .i64 ex1.Pos, .int .i64 f11]) rfl ⟨v_cell ag26 sz26 rfl hx32 rfl (i := 3) rfl, v_tmp rfl, v_tmp rfl, trivial⟩ (by simp) ?_
        obtain rfl := Option.some.inj hm
        exact ⟨_, _, _, rfl, hx32.pick [] (by decide) rfl, none, 0, 0, rfl, rfl, SlR.nil _ _⟩
       ·refine c_lit 82 rfl hb7 ?_
        refine c_false rfl (c_skip (q_block (q_then (c_seq ?_))))
        refine c_regionH (SH Fx17 [.box b6 3 [.int .i64 f1], .box b4 26 [vs v3.2.Text, .int .i64 v5.2.Op, .int .i64 v5.2.N, vs v5.2.Name, .slice as7 ns7 cs7, .int .i64 f5], .box b2 50 [.slice as14 ns14 cs14, .int .i64 f10, .int .i64 f11], .box b1 26 [vs [], .int .i64 0, .int .i64 0, vs [], .slice none 0 0, .int .i64 0]]) 10 rfl (by kernel_rfl) hx29 ?_
        intro wx29 hx33
        refine d_tk 0 rfl (by kernel_rfl) rfl rfl rfl rfl (hx33.sh (Frz.refl _) [0, 1, 2, 3] (by decide) rfl) (fun _ _ _ _ _ => r_build (v := .agg #[vs [], .int .i64 0, .int .i64 0, vs [], .slice none 0 0, .int .i64 0]) rfl rfl rfl (fun _ => by kernel_rfl) (r_nil (qq rfl))) ?_
        refine d_tk 1 rfl (by kernel_rfl) rfl rfl rfl rfl (hx33.sh (Frz.refl _) [0, 1, 2, 3] (by decide) rfl) (fun _ _ _ _ _ => r_move rfl rfl rfl (r_nil (qq rfl))) ?_
        refine d_tk 2 rfl (by kernel_rfl) rfl rfl rfl rfl (hx33.sh (Frz.refl _) [0, 1, 2, 3] (by decide) rfl) (fun _ _ _ _ _ => r_slen u9 rfl rfl rfl (r_nil (qq rfl))) ?_
        refine d_tk 3 rfl (by kernel_rfl) rfl rfl rfl rfl (hx33.sh (Frz.refl _) [0, 1, 2, 3] (by decide) rfl) (fun _ _ _ _ _ => r_move rfl rfl rfl (r_nil (qq rfl))) ?_
        refine d_nilC 4 rfl (by kernel_rfl) (by kernel_rfl) (by kernel_rfl) rfl rfl rfl (hx33.sh (Frz.refl _) [0, 1, 2, 3] (by decide) rfl) ?_
        refine d_tk 5 rfl (by kernel_rfl) rfl rfl rfl rfl (hx33.sh (Frz.refl _) [0, 1, 2, 3] (by decide) rfl) (fun _ _ _ _ _ => r_fieldAddr fa50_2 rfl rfl rfl (r_nil (qq rfl))) ?_
        refine d_tk 6 rfl (by kernel_rfl) rfl rfl rfl rfl (hx33.sh (Frz.refl _) [0, 1, 2, 3] (by decide) rfl) (fun _ _ _ _ hq => r_loadB1 ag31 rfl rfl hq rfl (i := 2) rfl rfl (r_nil (qq rfl))) ?_
        refine d_step 7 rfl (by kernel_rfl) ?_
        refine r_store sz26 rfl hx33 rfl rfl rfl rfl (i := 3) rfl rfl rfl rfl ?_
        intro wx30 hx34
        refine d_next (hx34.sh (Frz.refl _) [0, 1, 2, 3] (by decide) rfl) ?_
        refine d_tk 8 rfl (by kernel_rfl) rfl rfl rfl rfl (hx34.sh (Frz.refl _) [0, 1, 2, 3] (by decide) rfl) (fun _ _ _ _ _ => r_assign rfl rfl rfl (r_nil (qq rfl))) ?_
        refine d_tk 9 rfl (by kernel_rfl) rfl rfl rfl rfl (hx34.sh (Frz.refl _) [0, 1, 2, 3] (by decide) rfl) (fun _ _ _ _ _ => r_assign rfl rfl rfl (r_nil (qq rfl))) ?_
        refine d_done (by kernel_rfl) ?_
        refine q_then (c_ret ?_)
        refine b_retA (vl := [.agg #[vs [], .int .i64 0, .int .i64 0, vs [], .slice none 0 0, .int .i64 0], .int .i64 (s1.length : Int), .int .i64 f11]) rfl ⟨v_cell ag26 sz26 rfl hx34 rfl (i := 3) rfl, v_tmp rfl, v_tmp rfl, trivial⟩ (by simp) ?_
        obtain rfl := Option.some.inj hm
        exact ⟨_, _, _, rfl, hx34.pick [] (by decide) rfl, none, 0, 0, rfl, rfl, SlR.nil _ _⟩
     ·clear hm
      rcases cond_some hb5 with ⟨hb8, hb5⟩ | ⟨hb8, hb5⟩
      ·refine c_lit 72 rfl hb8 ?_
       refine c_true rfl (c_region (r_move rfl rfl rfl ?_))
       obtain ⟨v11, hv10, hb5⟩ := bind_some hb5
       refine r_callL ent26 rfl rfl rfl rfl hx28 (i := 2) rfl (tariff_reader_fail_ok _ _ _ _ hv10 hx28.sat hs13 (hx28.get (i := 2) rfl) (hx28.lendable (i := 2) rfl)) ?_
       rintro _ Fx18 _ _ wx31 hF18 hx35 ⟨as15, ns15, cs15, rfl, rfl, rfl, hs15⟩
       refine r_nil ?_
       refine q_next (fun a ha => ?_)
       cases hb5
       exact ⟨_, as15, ns15, cs15, hF18, hx35.pick [0, 1, 2, 3] (by decide) rfl, hs15, ha.cut (l := [0, 2, 5, 8, 9]) rfl⟩
      ·refine c_lit 72 rfl hb8 ?_
       refine c_false rfl (c_skip ?_)
       refine q_next (fun a ha => ?_)
       cases hb5
       exact ⟨_, as13, ns13, cs13, Frz.refl _, hx28.pick [0, 1, 2, 3] (by decide) rfl, hs13, ha.cut (l := [0, 2, 5, 8, 9]) rfl⟩
    ·clear hm
     rcases cond_some hb4 with ⟨hb9, hb4⟩ | ⟨hb9, hb4⟩
     ·refine c_lit 52 rfl hb9 ?_
      refine c_true rfl (c_seq (c_region (r_move rfl rfl rfl ?_)))
      refine r_buildSlice (e := 9) (cs := [vs [61]]) (q := 1) rfl rfl hx24 rfl (fun _ => by kernel_rfl) rfl rfl ?_
      intro b10 wx32 hx36
      obtain ⟨Fx19, hF19, hx37, hsx5⟩ := freezeRow hx36 (i := 0) rfl ((show RowN Rp.str Fx13 1 [vs [61]] [[61]] from ⟨rfl, ⟨_, _, rfl, rfl, (rfl : RowR Rp.str _ [] [])⟩⟩))
      obtain ⟨v12, hv11, hb4⟩ := bind_some hb4
      refine r_callL ent21 rfl rfl rfl rfl hx37 (i := 2) rfl (tariff_reader_need_ok _ _ _ _ hv11 hx37.sat (hs11.mono hF19) (hx37.get (i := 2) rfl) (hx37.lendable (i := 2) rfl) hsx5) ?_
      rintro _ Fx20 _ _ wx33 hF20 hx38 ⟨as16, ns16, cs16, rfl, rfl, rfl, hs16⟩
      refine r_nil (q_then (c_seq (c_region (r_move rfl rfl rfl ?_))))
      obtain ⟨v13, hv12, hb4⟩ := bind_some hb4
      refine r_callL ent22 rfl rfl rfl rfl hx38 (i := 2) rfl (tariff_reader_one_ok _ _ _ _ hv12 hx38.sat hs16 (hx38.get (i := 2) rfl) (hx38.lendable (i := 2) rfl)) ?_
      rintro _ Fx21 _ _ wx34 hF21 hx39 ⟨as17, ns17, cs17, rfl, rfl, rfl, hs17⟩
      refine r_field (v := .agg #[.int .i64 v13.2.Kind, vs v13.2.Text, .int .i64 v13.2.N, .int .i64 v13.2.Pos]) (u := .int .i64 v13.2.N) (fun _ => by kernel_rfl) rfl rfl rfl ?_
      refine r_fieldAddr fa26_2 rfl rfl rfl ?_
      refine r_store sz3 rfl hx39 rfl rfl rfl rfl (i := 1) rfl rfl rfl rfl ?_
      intro wx35 hx40
      refine r_nil (q_then (c_region (r_move rfl rfl rfl ?_)))
      refine r_buildSlice (e := 9) (cs := [vs [59]]) (q := 1) rfl rfl hx40 rfl (fun _ => by kernel_rfl) rfl rfl ?_
      intro b11 wx36 hx41
      obtain ⟨Fx22, hF22, hx42, hsx6⟩ := freezeRow hx41 (i := 0) rfl ((show RowN Rp.str Fx21 1 [vs [59]] [[59]] from ⟨rfl, ⟨_, _, rfl, rfl, (rfl : RowR Rp.str _ [] [])⟩⟩))
      obtain ⟨v14, hv13, hb4⟩ := bind_some hb4
      refine r_callL ent21 rfl rfl rfl rfl hx42 (i := 2) rfl (tariff_reader_need_ok _ _ _ _ hv13 hx42.sat (hs17.mono hF22) (hx42.get (i := 2) rfl) (hx42.lendable (i := 2) rfl) hsx6) ?_
      rintro _ Fx23 _ _ wx37 hF23 hx43 ⟨as18, ns18, cs18, rfl, rfl, rfl, hs18⟩
      refine r_nil ?_
      refine q_next (fun a ha => ?_)
      cases hb4
      exact ⟨_, as18, ns18, cs18, ((((hF19.trans hF20).trans hF21).trans hF22).trans hF23), hx43.pick [0, 1, 2, 3] (by decide) rfl, hs18, ha.cut (l := [0, 2, 5, 8, 9]) rfl⟩
     ·refine c_lit 52 rfl hb9 ?_
      refine c_false rfl (c_skip ?_)
      refine q_next (fun a ha => ?_)
      cases hb4
      exact ⟨_, as11, ns11, cs11, Frz.refl _, hx24.pick [0, 1, 2, 3] (by decide) rfl, hs11, ha.cut (l := [0, 2, 5, 8, 9]) rfl⟩
   ·clear hm
    rcases cond_some hb3 with ⟨hb10, hb3⟩ | ⟨hb10, hb3⟩
    ·refine c_lit 45 rfl hb10 ?_
     refine c_true rfl (c_region (r_move rfl rfl rfl ?_))
     obtain ⟨v15, hv14, hb3⟩ := bind_some hb3
     refine r_callL ent26 rfl rfl rfl rfl hx19 (i := 2) rfl (tariff_reader_fail_ok _ _ _ _ hv14 hx19.sat (hs8.mono hF9) (hx19.get (i := 2) rfl) (hx19.lendable (i := 2) rfl)) ?_
     rintro _ Fx24 _ _ wx38 hF24 hx44 ⟨as19, ns19, cs19, rfl, rfl, rfl, hs19⟩
     refine r_nil ?_
     refine q_next (fun a ha => ?_)
     cases hb3
     exact ⟨_, as19, ns19, cs19, hF24, hx44.pick [0, 1, 2, 3] (by decide) rfl, hs19, ha.cut (l := [0, 2, 5, 8, 9]) rfl⟩
    ·refine c_lit 45 rfl hb10 ?_
     refine c_false rfl (c_skip ?_)
     refine q_next (fun a ha => ?_)
     cases hb3
     exact ⟨_, as8, ns8, cs8, Frz.refl _, hx19.pick [0, 1, 2, 3] (by decide) rfl, (hs8.mono hF9), ha.cut (l := [0, 2, 5, 8, 9]) rfl⟩
  ·clear hm
   rcases cond_some hb2 with ⟨hb11, hb2⟩ | ⟨hb11, hb2⟩
   ·refine r_lit 40 rfl hb11 ?_
    refine r_fieldAddr fa26_1 rfl rfl rfl ?_
    refine r_loadBA (cs' := [.int .i64 v5.2.Op, .int .i64 v5.2.N, vs v5.2.Name, .slice as7 ns7 cs7]) ag24 sz24 rfl rfl hx18 rfl (i := 1) rfl rfl rfl ?_
    obtain ⟨v16, hv15, hb2⟩ := bind_some hb2
    refine r_callL ent25 rfl rfl rfl rfl hx18 (i := 0) rfl (tariff_sized_ok _ _ _ _ _ hv15 hx18.sat (hs7.mono hF8) (hx18.get (i := 0) rfl) (hx18.lendable (i := 0) rfl)) ?_
    rintro _ Fx25 _ _ wx39 hF25 hx45 ⟨rfl, rfl, rfl⟩
    refine r_not rfl rfl rfl (r_pick_true rfl rfl rfl rfl (r_nil ?_))
    refine q_next (fun a ha => ?_)
    cases hb2
    exact ⟨_, hF25, hx45.pick [0, 1, 2, 3] (by decide) rfl, ha.cut (l := [0, 2, 5, 8, 9, 45]) rfl⟩
   ·refine r_lit 40 rfl hb11 ?_
    refine r_off rfl (by decide) rfl (r_off rfl (by decide) rfl (r_off rfl (by decide) rfl (r_off rfl (by decide) rfl (r_pick_false rfl rfl rfl rfl (r_nil ?_)))))
    refine q_next (fun a ha => ?_)
    cases hb2
    exact ⟨_, Frz.refl _, hx18.pick [0, 1, 2, 3] (by decide) rfl, ha.cut (l := [0, 2, 5, 8, 9, 45]) rfl⟩
theorem ent44 : Ent Tryz.prog 44 := fun _ _ => by kernel_rfl
def tariff_Type (n : Nat) (x1 : Expr) (names1 : (List Bs)) : Option (Int × Int) :=
 (tariff_named n names1).bind fun v1 =>
 bif !v1 then
  some (0, 1)
 else
  (tariff_form n x1).bind fun v2 =>
  bif !v2 then
   some (0, 2)
  else
   (tariff_typed n x1 names1).bind fun v3 =>
   some (v3.1, v3.2)
set_option maxHeartbeats 1000000 in
set_option maxRecDepth 1000000 in
theorem tariff_Type_ok (n : Nat) (x1 : Expr) (names1 : (List Bs)) (r : (Int × Int)) (hm : tariff_Type n x1 names1 = some r) {w : World} {F : Frz} (hs : Sat F w) {as1 : Option Addr} {ns1 : Nat} {cs1 : Nat} {as2 : Option Addr} {ns2 : Nat} {cs2 : Nat} (hs1 : SlR rp_Expr F as1 ns1 cs1 x1.Args) (hs2 : SlR Rp.str F as2 ns2 cs2 names1) :
  Calls Tryz.prog 11 #[.agg #[.int .i64 x1.Op, .int .i64 x1.N, vs x1.Name, .slice as1 ns1 cs1], .slice as2 ns2 cs2] w fun e w' => ∃ v F' O', e = .returned v ∧ HS F w [] F' O' w' ∧ (v = .tuple #[.int .i64 r.1, .int .i64 r.2] ∧ O' = []) := by
 unfold tariff_Type at hm
 have h := HS.init hs
 refine calls_of 19 Tryz.func11 rfl rfl rfl ?_
 refine c_seq (c_region ?_)
 refine r_box rfl rfl rfl rfl h ?_
 intro b1 wx1 hx1
 refine r_assign rfl rfl rfl (r_assign rfl rfl rfl (r_nil (q_then (c_seq (c_block (c_seq (c_region (r_move rfl rfl rfl ?_))))))))
 obtain ⟨v1, hv1, hm⟩ := bind_some hm
 refine r_callP0 ent44 rfl rfl rfl rfl (tariff_named_ok _ _ _ hv1 hx1.sat hs2) ?_
 refine r_not rfl rfl rfl (r_assign rfl rfl rfl (r_nil (q_then ?_)))
 rcases cond_some hm with ⟨hb1, hm⟩ | ⟨hb1, hm⟩
 ·refine c_lit 6 rfl hb1 ?_
  refine c_true rfl (c_seq (c_region (r_assign rfl rfl rfl (r_assign rfl rfl rfl (r_nil (q_then (c_ret (q_block_ret (q_then_ret ?_)))))))))
  refine b_retA (vl := [.int .i64 0, .int .i64 1]) rfl ⟨v_tmp rfl, v_tmp rfl, trivial⟩ (by simp) ?_
  obtain rfl := Option.some.inj hm
  exact ⟨_, _, _, rfl, hx1.pick [] (by decide) rfl, rfl, rfl⟩
 ·refine c_lit 6 rfl hb1 ?_
  refine c_false rfl (c_seq (c_region ?_))
  refine r_loadBW ag24 sz24 rfl rfl hx1 rfl (i := 0) rfl rfl ?_
  obtain ⟨v2, hv2, hm⟩ := bind_some hm
  refine r_callG0 ent45 rfl rfl rfl rfl hx1 (tariff_form_ok _ _ _ hv2 hx1.sat hs1) ?_
  rintro _ Fx1 _ wx2 hF1 hx2 ⟨rfl, rfl⟩
  refine r_not rfl rfl rfl (r_assign rfl rfl rfl (r_nil (q_then ?_)))
  rcases cond_some hm with ⟨hb2, hm⟩ | ⟨hb2, hm⟩
  ·refine c_lit 10 rfl hb2 ?_
   refine c_true rfl (c_seq (c_region (r_assign rfl rfl rfl (r_assign rfl rfl rfl (r_nil (q_then (c_ret (q_block_ret (q_then_ret ?_)))))))))
   refine b_retA (vl := [.int .i64 0, .int .i64 2]) rfl ⟨v_tmp rfl, v_tmp rfl, trivial⟩ (by simp) ?_
   obtain rfl := Option.some.inj hm
   exact ⟨_, _, _, rfl, hx2.pick [] (by decide) rfl, rfl, rfl⟩
  ·refine c_lit 10 rfl hb2 ?_
   refine c_false rfl (c_skip (q_block (q_then (c_seq (c_region ?_)))))
   refine r_loadBW ag24 sz24 rfl rfl hx2 rfl (i := 0) rfl rfl ?_
   refine r_move rfl rfl rfl ?_
   obtain ⟨v3, hv3, hm⟩ := bind_some hm
   refine r_callG0 ent46 rfl rfl rfl rfl hx2 (tariff_typed_ok _ _ _ _ hv3 hx2.sat (hs1.mono hF1) (hs2.mono hF1)) ?_
   rintro _ Fx2 _ wx3 hF2 hx3 ⟨rfl, rfl⟩
   refine r_extract rfl rfl rfl rfl (r_extract rfl rfl rfl rfl (r_assign rfl rfl rfl (r_assign rfl rfl rfl (r_nil (q_then (c_ret ?_))))))
   refine b_retA (vl := [.int .i64 v3.1, .int .i64 v3.2]) rfl ⟨v_tmp rfl, v_tmp rfl, trivial⟩ (by simp) ?_
   obtain rfl := Option.some.inj hm
   exact ⟨_, _, _, rfl, hx3.pick [] (by decide) rfl, rfl, rfl⟩
theorem ent35 : Ent Tryz.prog 35 := fun _ _ => by kernel_rfl
def tariff_Check (n : Nat) (t1 : Tariff) (names1 : (List Bs)) : Option Int :=
 (tariff_named n names1).bind fun v1 =>
 bif !v1 then
  some 1
 else
  (tariff_writable n t1).bind fun v2 =>
  bif !v2 then
   some 2
  else
   (tariff_typed n t1.Fee names1).bind fun v3 =>
   (bif v3.2 == 0 then
    some (v3.1 == 0)
   else
    some false).bind fun v4 =>
   bif v4 then
    some 13
   else
    some v3.2
set_option maxHeartbeats 1000000 in
set_option maxRecDepth 1000000 in
theorem tariff_Check_ok (n : Nat) (t1 : Tariff) (names1 : (List Bs)) (r : Int) (hm : tariff_Check n t1 names1 = some r) {w : World} {F : Frz} (hs : Sat F w) {as1 : Option Addr} {ns1 : Nat} {cs1 : Nat} {as2 : Option Addr} {ns2 : Nat} {cs2 : Nat} (hs1 : SlR rp_Expr F as1 ns1 cs1 t1.Fee.Args) (hs2 : SlR Rp.str F as2 ns2 cs2 names1) :
  Calls Tryz.prog 14 #[.agg #[vs t1.Name, .int .i64 t1.Fee.Op, .int .i64 t1.Fee.N, vs t1.Fee.Name, .slice as1 ns1 cs1, .int .i64 t1.Cap], .slice as2 ns2 cs2] w fun e w' => ∃ v F' O', e = .returned v ∧ HS F w [] F' O' w' ∧ (v = .int .i64 r ∧ O' = []) := by
 unfold tariff_Check at hm
 have h := HS.init hs
 refine calls_of 29 Tryz.func14 rfl rfl rfl ?_
 refine c_seq (c_region ?_)
 refine r_box rfl rfl rfl rfl h ?_
 intro b1 wx1 hx1
 refine r_assign rfl rfl rfl (r_nil (q_then (c_seq (c_block (c_seq (c_region (r_move rfl rfl rfl ?_)))))))
 obtain ⟨v1, hv1, hm⟩ := bind_some hm
 refine r_callP0 ent44 rfl rfl rfl rfl (tariff_named_ok _ _ _ hv1 hx1.sat hs2) ?_
 refine r_not rfl rfl rfl (r_assign rfl rfl rfl (r_nil (q_then ?_)))
 rcases cond_some hm with ⟨hb1, hm⟩ | ⟨hb1, hm⟩
 ·refine c_lit 7 rfl hb1 ?_
  refine c_true rfl (c_seq (c_region (r_assign rfl rfl rfl (r_nil (q_then (c_ret (q_block_ret (q_then_ret ?_))))))))
  refine b_ret1 rfl rfl ?_
  obtain rfl := Option.some.inj hm
  exact ⟨_, _, _, rfl, hx1.pick [] (by decide) rfl, rfl, rfl⟩
 ·refine c_lit 7 rfl hb1 ?_
  refine c_false rfl (c_seq (c_region ?_))
  refine r_loadBW ag26 sz26 rfl rfl hx1 rfl (i := 0) rfl rfl ?_
  obtain ⟨v2, hv2, hm⟩ := bind_some hm
  refine r_callG0 ent35 rfl rfl rfl rfl hx1 (tariff_writable_ok _ _ _ hv2 hx1.sat hs1) ?_
  rintro _ Fx1 _ wx2 hF1 hx2 ⟨rfl, rfl⟩
  refine r_not rfl rfl rfl (r_assign rfl rfl rfl (r_nil (q_then ?_)))
  rcases cond_some hm with ⟨hb2, hm⟩ | ⟨hb2, hm⟩
  ·refine c_lit 11 rfl hb2 ?_
   refine c_true rfl (c_seq (c_region (r_assign rfl rfl rfl (r_nil (q_then (c_ret (q_block_ret (q_then_ret ?_))))))))
   refine b_ret1 rfl rfl ?_
   obtain rfl := Option.some.inj hm
   exact ⟨_, _, _, rfl, hx2.pick [] (by decide) rfl, rfl, rfl⟩
  ·refine c_lit 11 rfl hb2 ?_
   refine c_false rfl (c_skip (q_block (q_then (c_seq (c_region ?_)))))
   refine r_fieldAddr fa26_1 rfl rfl rfl ?_
   refine r_loadBA (cs' := [.int .i64 t1.Fee.Op, .int .i64 t1.Fee.N, vs t1.Fee.Name, .slice as1 ns1 cs1]) ag24 sz24 rfl rfl hx2 rfl (i := 0) rfl rfl rfl ?_
   refine r_move rfl rfl rfl ?_
   obtain ⟨v3, hv3, hm⟩ := bind_some hm
   refine r_callG0 ent46 rfl rfl rfl rfl hx2 (tariff_typed_ok _ _ _ _ hv3 hx2.sat (hs1.mono hF1) (hs2.mono hF1)) ?_
   rintro _ Fx2 _ wx3 hF2 hx3 ⟨rfl, rfl⟩
   refine r_move rfl rfl rfl (r_extract rfl rfl rfl rfl (r_extract rfl rfl rfl rfl (r_assign rfl rfl rfl (r_assign rfl rfl rfl (r_nil (q_then (c_seq (c_seq (c_region (r_move rfl rfl rfl ?_))))))))))
   refine r_bin rfl rfl rfl rfl rfl ?_
   refine r_move rfl rfl rfl ?_
   obtain ⟨v4, hb3, hm⟩ := bind_some hm
   refine r_mid 3 (fun a w' => wx3 = w' ∧ Has 29 a [(6, .int .i64 v3.2), (27, .bool v4)]) ?_ ?_
   ·rintro a wx4 ⟨rfl, hax1⟩
    refine rw_apply hax1 ?_
    refine r_nil (q_then ?_)
    rcases cond_some hm with ⟨hb4, hm⟩ | ⟨hb4, hm⟩
    ·refine c_lit 27 rfl hb4 ?_
     refine c_true rfl (c_seq (c_region (r_assign rfl rfl rfl (r_nil (q_then (c_ret (q_then_ret ?_)))))))
     refine b_ret1 rfl rfl ?_
     obtain rfl := Option.some.inj hm
     exact ⟨_, _, _, rfl, hx3.pick [] (by decide) rfl, rfl, rfl⟩
    ·refine c_lit 27 rfl hb4 ?_
     refine c_false rfl (c_skip (q_then (c_seq (c_region (r_move rfl rfl rfl (r_assign rfl rfl rfl (r_nil (q_then (c_ret ?_)))))))))
     refine b_ret1 rfl rfl ?_
     obtain rfl := Option.some.inj hm
     exact ⟨_, _, _, rfl, hx3.pick [] (by decide) rfl, rfl, rfl⟩
   ·clear hm
    rcases cond_some hb3 with ⟨hb5, hb3⟩ | ⟨hb5, hb3⟩
    ·refine r_lit 24 rfl hb5 ?_
     refine r_move rfl rfl rfl ?_
     refine r_bin rfl rfl rfl rfl rfl ?_
     refine r_pick_true rfl rfl rfl rfl (r_nil ?_)
     refine q_next (fun a ha => ?_)
     cases hb3
     exact ⟨rfl, ha.cut (l := [6, 27]) rfl⟩
    ·refine r_lit 24 rfl hb5 ?_
     refine r_off rfl (by decide) rfl (r_off rfl (by decide) rfl (r_pick_false rfl rfl rfl rfl (r_nil ?_)))
     refine q_next (fun a ha => ?_)
     cases hb3
     exact ⟨rfl, ha.cut (l := [6, 27]) rfl⟩
end Go.Proofs.YtpihabofmnnbbaaGreatDoor.M

namespace Go.Proofs.YtpihabofmnnbbaaGreatDoor.M
open Go Go.RowKit Rt
theorem ent37 : Ent Tryz.prog 37 := fun _ _ => by kernel_rfl
theorem ent36 : Ent Tryz.prog 36 := fun _ _ => by kernel_rfl
theorem ent62 : Ent Tryz.prog 62 := fun _ _ => by kernel_rfl
mutual
def tariff_text : Nat → Expr → Option Bs
 | 0, _ => none
 | n + 1, x1 =>
  bif x1.Op == 0 then
   (strconv_Itoa n x1.N).bind fun v1 =>
   some v1
  else
   bif x1.Op == 2 then
    some [112, 101, 114, 115, 111, 110, 115]
   else
    bif x1.Op == 3 then
     some [102, 108, 97, 116, 115]
    else
     bif x1.Op == 1 then
      (scat [108, 105, 102, 116, 115, 32, 40, 32] x1.Name).bind fun t1 =>
      (scat t1 [32, 41]).bind fun t2 =>
      some t2
     else
      bif x1.Op == 4 then
       (scat [119, 101, 105, 103, 104, 116, 32, 40, 32] x1.Name).bind fun t3 =>
       (scat t3 [32, 41]).bind fun t4 =>
       some t4
      else
       bif x1.Op == 9 then
        (ix x1.Args 0).bind fun ex1 =>
        (tariff_text n ex1).bind fun v2 =>
        (scat [109, 105, 110, 32, 40, 32] v2).bind fun t5 =>
        (scat t5 [32, 44, 32]).bind fun t6 =>
        (ix x1.Args 1).bind fun ex2 =>
        (tariff_text n ex2).bind fun v3 =>
        (scat t6 v3).bind fun t7 =>
        (scat t7 [32, 41]).bind fun t8 =>
        some t8
       else
        bif x1.Op == 10 then
         (ix x1.Args 0).bind fun ex3 =>
         (tariff_text n ex3).bind fun v4 =>
         (scat [109, 97, 120, 32, 40, 32] v4).bind fun t9 =>
         (scat t9 [32, 44, 32]).bind fun t10 =>
         (ix x1.Args 1).bind fun ex4 =>
         (tariff_text n ex4).bind fun v5 =>
         (scat t10 v5).bind fun t11 =>
         (scat t11 [32, 41]).bind fun t12 =>
         some t12
        else
         bif x1.Op == 14 then
          (ix x1.Args 0).bind fun ex5 =>
          (tariff_atomic n ex5).bind fun v6 =>
          (scat [110, 111, 116, 32] v6).bind fun t13 =>
          some t13
         else
          bif x1.Op == 11 then
           (ix x1.Args 0).bind fun ex6 =>
           (tariff_atomic n ex6).bind fun v7 =>
           (scat [105, 102, 32] v7).bind fun t14 =>
           (scat t14 [32, 116, 104, 101, 110, 32]).bind fun t15 =>
           (ix x1.Args 1).bind fun ex7 =>
           (tariff_atomic n ex7).bind fun v8 =>
           (scat t15 v8).bind fun t16 =>
           (scat t16 [32, 101, 108, 115, 101, 32]).bind fun t17 =>
           (ix x1.Args 2).bind fun ex8 =>
           (tariff_atomic n ex8).bind fun v9 =>
           (scat t17 v9).bind fun t18 =>
           some t18
          else
           (tariff_operators n).bind fun v10 =>
           mloop n v10.length
            (match List.find? (fun (q : Bs × Int) => q.2 == x1.Op) v10 with
            | none =>
             some []
            | some q =>
             (ix x1.Args 0).bind fun ex10 =>
             (tariff_atomic n ex10).bind fun v12 =>
             (scat v12 [32]).bind fun t19 =>
             (scat t19 q.1).bind fun t20 =>
             (scat t20 [32]).bind fun t21 =>
             (ix x1.Args 1).bind fun ex11 =>
             (tariff_atomic n ex11).bind fun v13 =>
             (scat t21 v13).bind fun t22 =>
             some t22)
def tariff_atomic : Nat → Expr → Option Bs
 | 0, _ => none
 | n + 1, x1 =>
  (bif decide (0 < (x1.Args.length : Int)) then
   some (x1.Op != 9)
  else
   some false).bind fun v1 =>
  (bif v1 then
   some (x1.Op != 10)
  else
   some false).bind fun v2 =>
  bif v2 then
   (tariff_text n x1).bind fun v3 =>
   (scat [40, 32] v3).bind fun t1 =>
   (scat t1 [32, 41]).bind fun t2 =>
   some t2
  else
   (tariff_text n x1).bind fun v4 =>
   some v4
 end
theorem tariff_text_s (n : Nat) (x1 : Expr) : tariff_text (n + 1) x1 =
  bif x1.Op == 0 then
   (strconv_Itoa n x1.N).bind fun v1 =>
   some v1
  else
   bif x1.Op == 2 then
    some [112, 101, 114, 115, 111, 110, 115]
   else
    bif x1.Op == 3 then
     some [102, 108, 97, 116, 115]
    else
     bif x1.Op == 1 then
      (scat [108, 105, 102, 116, 115, 32, 40, 32] x1.Name).bind fun t1 =>
      (scat t1 [32, 41]).bind fun t2 =>
      some t2
     else
      bif x1.Op == 4 then
       (scat [119, 101, 105, 103, 104, 116, 32, 40, 32] x1.Name).bind fun t3 =>
       (scat t3 [32, 41]).bind fun t4 =>
       some t4
      else
       bif x1.Op == 9 then
        (ix x1.Args 0).bind fun ex1 =>
        (tariff_text n ex1).bind fun v2 =>
        (scat [109, 105, 110, 32, 40, 32] v2).bind fun t5 =>
        (scat t5 [32, 44, 32]).bind fun t6 =>
        (ix x1.Args 1).bind fun ex2 =>
        (tariff_text n ex2).bind fun v3 =>
        (scat t6 v3).bind fun t7 =>
        (scat t7 [32, 41]).bind fun t8 =>
        some t8
       else
        bif x1.Op == 10 then
         (ix x1.Args 0).bind fun ex3 =>
         (tariff_text n ex3).bind fun v4 =>
         (scat [109, 97, 120, 32, 40, 32] v4).bind fun t9 =>
         (scat t9 [32, 44, 32]).bind fun t10 =>
         (ix x1.Args 1).bind fun ex4 =>
         (tariff_text n ex4).bind fun v5 =>
         (scat t10 v5).bind fun t11 =>
         (scat t11 [32, 41]).bind fun t12 =>
         some t12
        else
         bif x1.Op == 14 then
          (ix x1.Args 0).bind fun ex5 =>
          (tariff_atomic n ex5).bind fun v6 =>
          (scat [110, 111, 116, 32] v6).bind fun t13 =>
          some t13
         else
          bif x1.Op == 11 then
           (ix x1.Args 0).bind fun ex6 =>
           (tariff_atomic n ex6).bind fun v7 =>
           (scat [105, 102, 32] v7).bind fun t14 =>
           (scat t14 [32, 116, 104, 101, 110, 32]).bind fun t15 =>
           (ix x1.Args 1).bind fun ex7 =>
           (tariff_atomic n ex7).bind fun v8 =>
           (scat t15 v8).bind fun t16 =>
           (scat t16 [32, 101, 108, 115, 101, 32]).bind fun t17 =>
           (ix x1.Args 2).bind fun ex8 =>
           (tariff_atomic n ex8).bind fun v9 =>
           (scat t17 v9).bind fun t18 =>
           some t18
          else
           (tariff_operators n).bind fun v10 =>
           mloop n v10.length
            (match List.find? (fun (q : Bs × Int) => q.2 == x1.Op) v10 with
            | none =>
             some []
            | some q =>
             (ix x1.Args 0).bind fun ex10 =>
             (tariff_atomic n ex10).bind fun v12 =>
             (scat v12 [32]).bind fun t19 =>
             (scat t19 q.1).bind fun t20 =>
             (scat t20 [32]).bind fun t21 =>
             (ix x1.Args 1).bind fun ex11 =>
             (tariff_atomic n ex11).bind fun v13 =>
             (scat t21 v13).bind fun t22 =>
             some t22) := rfl
theorem tariff_atomic_s (n : Nat) (x1 : Expr) : tariff_atomic (n + 1) x1 =
  (bif decide (0 < (x1.Args.length : Int)) then
   some (x1.Op != 9)
  else
   some false).bind fun v1 =>
  (bif v1 then
   some (x1.Op != 10)
  else
   some false).bind fun v2 =>
  bif v2 then
   (tariff_text n x1).bind fun v3 =>
   (scat [40, 32] v3).bind fun t1 =>
   (scat t1 [32, 41]).bind fun t2 =>
   some t2
  else
   (tariff_text n x1).bind fun v4 =>
   some v4 := rfl
set_option maxHeartbeats 1000000 in
set_option maxRecDepth 1000000 in
theorem tariff_text_all (n : Nat) : (∀ (x1 : Expr) (r : Bs) (_ : tariff_text n x1 = some r) {w : World} {F : Frz} (_ : Sat F w) {as1 : Option Addr} {ns1 : Nat} {cs1 : Nat} (_ : SlR rp_Expr F as1 ns1 cs1 x1.Args) (_ : FX F 1 (Lib.pow10Tab.map (Value.int .u64))), Calls Tryz.prog 36 #[.agg #[.int .i64 x1.Op, .int .i64 x1.N, vs x1.Name, .slice as1 ns1 cs1]] w fun e w' => ∃ v F' O', e = .returned v ∧ HS F w [] F' O' w' ∧ (v = vs r ∧ O' = [])) ∧
  (∀ (x1 : Expr) (r : Bs) (_ : tariff_atomic n x1 = some r) {w : World} {F : Frz} (_ : Sat F w) {as1 : Option Addr} {ns1 : Nat} {cs1 : Nat} (_ : SlR rp_Expr F as1 ns1 cs1 x1.Args) (_ : FX F 1 (Lib.pow10Tab.map (Value.int .u64))), Calls Tryz.prog 62 #[.agg #[.int .i64 x1.Op, .int .i64 x1.N, vs x1.Name, .slice as1 ns1 cs1]] w fun e w' => ∃ v F' O', e = .returned v ∧ HS F w [] F' O' w' ∧ (v = vs r ∧ O' = [])) := by
 induction n with
 | zero =>
  refine ⟨?_, ?_⟩
  ·intro x1 r hm
   exact absurd (show (none : Option Bs) = some r from hm) (by simp)
  ·intro x1 r hm
   exact absurd (show (none : Option Bs) = some r from hm) (by simp)
 | succ n ih =>
  refine ⟨?_, ?_⟩
  ·intro x1 r hm w F hs as1 ns1 cs1 hs1 hg1
   rw [tariff_text_s] at hm
   have h := HS.init hs
   refine calls_of 116 Tryz.func36 rfl rfl rfl ?_
   refine c_seq (c_region ?_)
   refine r_box rfl rfl rfl rfl h ?_
   intro b1 wx1 hx1
   refine r_assign rfl rfl rfl (r_nil (q_then (c_seq (c_seq (c_region ?_)))))
   refine r_fieldAddr fa24_0 rfl rfl rfl ?_
   refine r_loadB1 ag3 rfl rfl hx1 rfl (i := 0) rfl rfl ?_
   refine r_nil (q_then (c_block (c_seq (c_region ?_))))
   refine r_bin rfl rfl rfl rfl rfl ?_
   refine r_assign rfl rfl rfl (r_nil (q_then ?_))
   rcases cond_some hm with ⟨hb1, hm⟩ | ⟨hb1, hm⟩
   ·refine c_lit 7 rfl hb1 ?_
    refine c_true rfl (c_seq (c_region ?_))
    refine r_fieldAddr fa24_1 rfl rfl rfl ?_
    refine r_loadB1 ag3 rfl rfl hx1 rfl (i := 0) rfl rfl ?_
    obtain ⟨v1, hv1, hm⟩ := bind_some hm
    refine r_callG0 ent37 rfl rfl rfl rfl hx1 (strconv_Itoa_ok _ _ _ hv1 hx1.sat hg1) ?_
    rintro _ Fx1 _ wx2 hF1 hx2 ⟨rfl, rfl⟩
    refine r_assign rfl rfl rfl (r_nil (q_then (c_ret (q_block_ret (q_then_ret ?_)))))
    refine b_ret1 rfl rfl ?_
    obtain rfl := Option.some.inj hm
    exact ⟨_, _, _, rfl, hx2.pick [] (by decide) rfl, rfl, rfl⟩
   ·refine c_lit 7 rfl hb1 ?_
    refine c_false rfl (c_seq (c_region ?_))
    refine r_bin rfl rfl rfl rfl rfl ?_
    refine r_assign rfl rfl rfl (r_nil (q_then ?_))
    rcases cond_some hm with ⟨hb2, hm⟩ | ⟨hb2, hm⟩
    ·refine c_lit 12 rfl hb2 ?_
     refine c_true rfl (c_seq (c_region (r_assign rfl rfl rfl (r_nil (q_then (c_ret (q_block_ret (q_then_ret ?_))))))))
     refine b_ret1 rfl rfl ?_
     obtain rfl := Option.some.inj hm
     exact ⟨_, _, _, rfl, hx1.pick [] (by decide) rfl, rfl, rfl⟩
    ·refine c_lit 12 rfl hb2 ?_
     refine c_false rfl (c_seq (c_region ?_))
     refine r_bin rfl rfl rfl rfl rfl ?_
     refine r_assign rfl rfl rfl (r_nil (q_then ?_))
     rcases cond_some hm with ⟨hb3, hm⟩ | ⟨hb3, hm⟩
     ·refine c_lit 14 rfl hb3 ?_
      refine c_true rfl (c_seq (c_region (r_assign rfl rfl rfl (r_nil (q_then (c_ret (q_block_ret (q_then_ret ?_))))))))
      refine b_ret1 rfl rfl ?_
      obtain rfl := Option.some.inj hm
      exact ⟨_, _, _, rfl, hx1.pick [] (by decide) rfl, rfl, rfl⟩
     ·refine c_lit 14 rfl hb3 ?_
      refine c_false rfl (c_seq (c_region ?_))
      refine r_bin rfl rfl rfl rfl rfl ?_
      refine r_assign rfl rfl rfl (r_nil (q_then ?_))
      rcases cond_some hm with ⟨hb4, hm⟩ | ⟨hb4, hm⟩
      ·refine c_lit 16 rfl hb4 ?_
       refine c_true rfl (c_seq (c_region ?_))
       refine r_fieldAddr fa24_2 rfl rfl rfl ?_
       refine r_loadB1 ag9 rfl rfl hx1 rfl (i := 0) rfl rfl ?_
       obtain ⟨t1, hq1, hm⟩ := bind_some hm
       refine r_cat rfl rfl rfl rfl hq1 ?_
       obtain ⟨t2, hq2, hm⟩ := bind_some hm
       refine r_cat rfl rfl rfl rfl hq2 ?_
       refine r_assign rfl rfl rfl (r_nil (q_then (c_ret (q_block_ret (q_then_ret ?_)))))
       refine b_ret1 rfl rfl ?_
       obtain rfl := Option.some.inj hm
       exact ⟨_, _, _, rfl, hx1.pick [] (by decide) rfl, rfl, rfl⟩
      ·refine c_lit 16 rfl hb4 ?_
       refine c_false rfl (c_seq (c_region ?_))
       refine r_bin rfl rfl rfl rfl rfl ?_
       refine r_assign rfl rfl rfl (r_nil (q_then ?_))
       rcases cond_some hm with ⟨hb5, hm⟩ | ⟨hb5, hm⟩
       ·refine c_lit 22 rfl hb5 ?_
        refine c_true rfl (c_seq (c_region ?_))
        refine r_fieldAddr fa24_2 rfl rfl rfl ?_
        refine r_loadB1 ag9 rfl rfl hx1 rfl (i := 0) rfl rfl ?_
        obtain ⟨t3, hq3, hm⟩ := bind_some hm
        refine r_cat rfl rfl rfl rfl hq3 ?_
        obtain ⟨t4, hq4, hm⟩ := bind_some hm
        refine r_cat rfl rfl rfl rfl hq4 ?_
        refine r_assign rfl rfl rfl (r_nil (q_then (c_ret (q_block_ret (q_then_ret ?_)))))
        refine b_ret1 rfl rfl ?_
        obtain rfl := Option.some.inj hm
        exact ⟨_, _, _, rfl, hx1.pick [] (by decide) rfl, rfl, rfl⟩
       ·refine c_lit 22 rfl hb5 ?_
        refine c_false rfl (c_seq (c_region ?_))
        refine r_bin rfl rfl rfl rfl rfl ?_
        refine r_assign rfl rfl rfl (r_nil (q_then ?_))
        rcases cond_some hm with ⟨hb6, hm⟩ | ⟨hb6, hm⟩
        ·refine c_lit 28 rfl hb6 ?_
         refine c_true rfl (c_seq ?_)
         refine c_regionD (by kernel_rfl) (by kernel_rfl) hx1 ?_
         refine q_stp rfl rfl rfl rfl (fun _ _ _ _ => r_fieldAddr fa24_3 rfl rfl rfl (r_nil (qq rfl))) ?_
         refine q_stp rfl rfl rfl rfl (fun _ _ _ hq => r_loadB1 ag22 rfl rfl hq rfl (i := 0) rfl rfl (r_nil (qq rfl))) ?_
         obtain ⟨ex1, he1, hm⟩ := bind_some hm
         obtain ⟨b2, o1, cs1, hf1, hr1, hrun1⟩ := findex_ex (P := Tryz.prog) (r := rp_Expr) u22 sz24 hs1 he1
         obtain ⟨as2, ns2, cs2, hc1, hs2⟩ := expr_iff.1 hr1
         subst hc1
         refine q_findex rfl rfl rfl rfl hrun1 ?_
         refine q_stp rfl rfl rfl rfl (fun _ _ hleq hq => r_loadFW ag24 sz24 rfl rfl hq (hf1.mono hleq) rfl rfl (r_nil (qq rfl))) ?_
         obtain ⟨v2, hv2, hm⟩ := bind_some hm
         refine q_callG0 ent36 rfl rfl rfl rfl (fun _ _ hleq hq => ih.1 _ _ hv2 hq.sat (hs2.mono hleq) (hg1.mono hleq)) ?_
         obtain ⟨t5, hq5, hm⟩ := bind_some hm
         refine q_stp rfl rfl rfl rfl (fun _ _ _ _ => r_cat rfl rfl rfl rfl hq5 (r_nil (qq rfl))) ?_
         obtain ⟨t6, hq6, hm⟩ := bind_some hm
         refine q_stp rfl rfl rfl rfl (fun _ _ _ _ => r_cat rfl rfl rfl rfl hq6 (r_nil (qq rfl))) ?_
         refine q_stp rfl rfl rfl rfl (fun _ _ _ _ => r_fieldAddr fa24_3 rfl rfl rfl (r_nil (qq rfl))) ?_
         refine q_stp rfl rfl rfl rfl (fun _ _ _ hq => r_loadB1 ag22 rfl rfl hq rfl (i := 0) rfl rfl (r_nil (qq rfl))) ?_
         obtain ⟨ex2, he2, hm⟩ := bind_some hm
         obtain ⟨b3, o2, cs2, hf2, hr2, hrun2⟩ := findex_ex (P := Tryz.prog) (r := rp_Expr) u22 sz24 hs1 he2
         obtain ⟨as3, ns3, cs3, hc2, hs3⟩ := expr_iff.1 hr2
         subst hc2
         refine q_findex rfl rfl rfl rfl hrun2 ?_
         refine q_stp rfl rfl rfl rfl (fun _ _ hleq hq => r_loadFW ag24 sz24 rfl rfl hq (hf2.mono hleq) rfl rfl (r_nil (qq rfl))) ?_
         obtain ⟨v3, hv3, hm⟩ := bind_some hm
         refine q_callG0 ent36 rfl rfl rfl rfl (fun _ _ hleq hq => ih.1 _ _ hv3 hq.sat (hs3.mono hleq) (hg1.mono hleq)) ?_
         obtain ⟨t7, hq7, hm⟩ := bind_some hm
         refine q_stp rfl rfl rfl rfl (fun _ _ _ _ => r_cat rfl rfl rfl rfl hq7 (r_nil (qq rfl))) ?_
         obtain ⟨t8, hq8, hm⟩ := bind_some hm
         refine q_stp rfl rfl rfl rfl (fun _ _ _ _ => r_cat rfl rfl rfl rfl hq8 (r_nil (qq rfl))) ?_
         refine q_stp rfl rfl rfl rfl (fun _ _ _ _ => r_assign rfl rfl rfl (r_nil (qq rfl))) ?_
         refine q_end ?_
         rintro wx3 ⟨Fx2, hF2, hx3⟩
         refine q_then (c_ret (q_block_ret (q_then_ret ?_)))
         refine b_ret1 rfl rfl ?_
         obtain rfl := Option.some.inj hm
         exact ⟨_, _, _, rfl, hx3.pick [] (by decide) rfl, rfl, rfl⟩
        ·refine c_lit 28 rfl hb6 ?_
         refine c_false rfl (c_seq (c_region ?_))
         refine r_bin rfl rfl rfl rfl rfl ?_
         refine r_assign rfl rfl rfl (r_nil (q_then ?_))
         rcases cond_some hm with ⟨hb7, hm⟩ | ⟨hb7, hm⟩
         ·refine c_lit 44 rfl hb7 ?_
          refine c_true rfl (c_seq ?_)
          refine c_regionD (by kernel_rfl) (by kernel_rfl) hx1 ?_
          refine q_stp rfl rfl rfl rfl (fun _ _ _ _ => r_fieldAddr fa24_3 rfl rfl rfl (r_nil (qq rfl))) ?_
          refine q_stp rfl rfl rfl rfl (fun _ _ _ hq => r_loadB1 ag22 rfl rfl hq rfl (i := 0) rfl rfl (r_nil (qq rfl))) ?_
          obtain ⟨ex3, he3, hm⟩ := bind_some hm
          obtain ⟨b4, o3, cs3, hf3, hr3, hrun3⟩ := findex_ex (P := Tryz.prog) (r := rp_Expr) u22 sz24 hs1 he3
          obtain ⟨as4, ns4, cs4, hc3, hs4⟩ := expr_iff.1 hr3
          subst hc3
          refine q_findex rfl rfl rfl rfl hrun3 ?_
          refine q_stp rfl rfl rfl rfl (fun _ _ hleq hq => r_loadFW ag24 sz24 rfl rfl hq (hf3.mono hleq) rfl rfl (r_nil (qq rfl))) ?_
          obtain ⟨v4, hv4, hm⟩ := bind_some hm
          refine q_callG0 ent36 rfl rfl rfl rfl (fun _ _ hleq hq => ih.1 _ _ hv4 hq.sat (hs4.mono hleq) (hg1.mono hleq)) ?_
          obtain ⟨t9, hq9, hm⟩ := bind_some hm
          refine q_stp rfl rfl rfl rfl (fun _ _ _ _ => r_cat rfl rfl rfl rfl hq9 (r_nil (qq rfl))) ?_
          obtain ⟨t10, hq10, hm⟩ := bind_some hm
          refine q_stp rfl rfl rfl rfl (fun _ _ _ _ => r_cat rfl rfl rfl rfl hq10 (r_nil (qq rfl))) ?_
          refine q_stp rfl rfl rfl rfl (fun _ _ _ _ => r_fieldAddr fa24_3 rfl rfl rfl (r_nil (qq rfl))) ?_
          refine q_stp rfl rfl rfl rfl (fun _ _ _ hq => r_loadB1 ag22 rfl rfl hq rfl (i := 0) rfl rfl (r_nil (qq rfl))) ?_
          obtain ⟨ex4, he4, hm⟩ := bind_some hm
          obtain ⟨b5, o4, cs4, hf4, hr4, hrun4⟩ := findex_ex (P := Tryz.prog) (r := rp_Expr) u22 sz24 hs1 he4
          obtain ⟨as5, ns5, cs5, hc4, hs5⟩ := expr_iff.1 hr4
          subst hc4
          refine q_findex rfl rfl rfl rfl hrun4 ?_
          refine q_stp rfl rfl rfl rfl (fun _ _ hleq hq => r_loadFW ag24 sz24 rfl rfl hq (hf4.mono hleq) rfl rfl (r_nil (qq rfl))) ?_
          obtain ⟨v5, hv5, hm⟩ := bind_some hm
          refine q_callG0 ent36 rfl rfl rfl rfl (fun _ _ hleq hq => ih.1 _ _ hv5 hq.sat (hs5.mono hleq) (hg1.mono hleq)) ?_
          obtain ⟨t11, hq11, hm⟩ := bind_some hm
          refine q_stp rfl rfl rfl rfl (fun _ _ _ _ => r_cat rfl rfl rfl rfl hq11 (r_nil (qq rfl))) ?_
          obtain ⟨t12, hq12, hm⟩ := bind_some hm
          refine q_stp rfl rfl rfl rfl (fun _ _ _ _ => r_cat rfl rfl rfl rfl hq12 (r_nil (qq rfl))) ?_
          refine q_stp rfl rfl rfl rfl (fun _ _ _ _ => r_assign rfl rfl rfl (r_nil (qq rfl))) ?_
          refine q_end ?_
          rintro wx4 ⟨Fx3, hF3, hx4⟩
          refine q_then (c_ret (q_block_ret (q_then_ret ?_)))
          refine b_ret1 rfl rfl ?_
          obtain rfl := Option.some.inj hm
          exact ⟨_, _, _, rfl, hx4.pick [] (by decide) rfl, rfl, rfl⟩
         ·refine c_lit 44 rfl hb7 ?_
          refine c_false rfl (c_seq (c_region ?_))
          refine r_bin rfl rfl rfl rfl rfl ?_
          refine r_assign rfl rfl rfl (r_nil (q_then ?_))
          rcases cond_some hm with ⟨hb8, hm⟩ | ⟨hb8, hm⟩
          ·refine c_lit 60 rfl hb8 ?_
           refine c_true rfl (c_seq (c_region ?_))
           refine r_fieldAddr fa24_3 rfl rfl rfl ?_
           refine r_loadB1 ag22 rfl rfl hx1 rfl (i := 0) rfl rfl ?_
           obtain ⟨ex5, he5, hm⟩ := bind_some hm
           refine r_findex (r := rp_Expr) u22 sz24 rfl rfl rfl rfl hs1 he5 ?_
           intro b6 o5 cs5 hf5 hr5
           obtain ⟨as6, ns6, cs6, hc5, hs6⟩ := expr_iff.1 hr5
           subst hc5
           refine r_loadFW ag24 sz24 rfl rfl hx1 hf5 rfl rfl ?_
           obtain ⟨v6, hv6, hm⟩ := bind_some hm
           refine r_callG0 ent62 rfl rfl rfl rfl hx1 (ih.2 _ _ hv6 hx1.sat hs6 hg1) ?_
           rintro _ Fx4 _ wx5 hF4 hx5 ⟨rfl, rfl⟩
           obtain ⟨t13, hq13, hm⟩ := bind_some hm
           refine r_cat rfl rfl rfl rfl hq13 ?_
           refine r_assign rfl rfl rfl (r_nil (q_then (c_ret (q_block_ret (q_then_ret ?_)))))
           refine b_ret1 rfl rfl ?_
           obtain rfl := Option.some.inj hm
           exact ⟨_, _, _, rfl, hx5.pick [] (by decide) rfl, rfl, rfl⟩
          ·refine c_lit 60 rfl hb8 ?_
           refine c_false rfl (c_seq (c_region ?_))
           refine r_bin rfl rfl rfl rfl rfl ?_
           refine r_assign rfl rfl rfl (r_nil (q_then ?_))
           rcases cond_some hm with ⟨hb9, hm⟩ | ⟨hb9, hm⟩
           ·refine c_lit 68 rfl hb9 ?_
            refine c_true rfl (c_seq ?_)
            refine c_regionD (by kernel_rfl) (by kernel_rfl) hx1 ?_
            refine q_stp rfl rfl rfl rfl (fun _ _ _ _ => r_fieldAddr fa24_3 rfl rfl rfl (r_nil (qq rfl))) ?_
            refine q_stp rfl rfl rfl rfl (fun _ _ _ hq => r_loadB1 ag22 rfl rfl hq rfl (i := 0) rfl rfl (r_nil (qq rfl))) ?_
            obtain ⟨ex6, he6, hm⟩ := bind_some hm
            obtain ⟨b7, o6, cs6, hf6, hr6, hrun5⟩ := findex_ex (P := Tryz.prog) (r := rp_Expr) u22 sz24 hs1 he6
            obtain ⟨as7, ns7, cs7, hc6, hs7⟩ := expr_iff.1 hr6
            subst hc6
            refine q_findex rfl rfl rfl rfl hrun5 ?_
            refine q_stp rfl rfl rfl rfl (fun _ _ hleq hq => r_loadFW ag24 sz24 rfl rfl hq (hf6.mono hleq) rfl rfl (r_nil (qq rfl))) ?_
            obtain ⟨v7, hv7, hm⟩ := bind_some hm
            refine q_callG0 ent62 rfl rfl rfl rfl (fun _ _ hleq hq => ih.2 _ _ hv7 hq.sat (hs7.mono hleq) (hg1.mono hleq)) ?_
            obtain ⟨t14, hq14, hm⟩ := bind_some hm
            refine q_stp rfl rfl rfl rfl (fun _ _ _ _ => r_cat rfl rfl rfl rfl hq14 (r_nil (qq rfl))) ?_
            obtain ⟨t15, hq15, hm⟩ := bind_some hm
            refine q_stp rfl rfl rfl rfl (fun _ _ _ _ => r_cat rfl rfl rfl rfl hq15 (r_nil (qq rfl))) ?_
            refine q_stp rfl rfl rfl rfl (fun _ _ _ _ => r_fieldAddr fa24_3 rfl rfl rfl (r_nil (qq rfl))) ?_
            refine q_stp rfl rfl rfl rfl (fun _ _ _ hq => r_loadB1 ag22 rfl rfl hq rfl (i := 0) rfl rfl (r_nil (qq rfl))) ?_
            obtain ⟨ex7, he7, hm⟩ := bind_some hm
            obtain ⟨b8, o7, cs7, hf7, hr7, hrun6⟩ := findex_ex (P := Tryz.prog) (r := rp_Expr) u22 sz24 hs1 he7
            obtain ⟨as8, ns8, cs8, hc7, hs8⟩ := expr_iff.1 hr7
            subst hc7
            refine q_findex rfl rfl rfl rfl hrun6 ?_
            refine q_stp rfl rfl rfl rfl (fun _ _ hleq hq => r_loadFW ag24 sz24 rfl rfl hq (hf7.mono hleq) rfl rfl (r_nil (qq rfl))) ?_
            obtain ⟨v8, hv8, hm⟩ := bind_some hm
            refine q_callG0 ent62 rfl rfl rfl rfl (fun _ _ hleq hq => ih.2 _ _ hv8 hq.sat (hs8.mono hleq) (hg1.mono hleq)) ?_
            obtain ⟨t16, hq16, hm⟩ := bind_some hm
            refine q_stp rfl rfl rfl rfl (fun _ _ _ _ => r_cat rfl rfl rfl rfl hq16 (r_nil (qq rfl))) ?_
            obtain ⟨t17, hq17, hm⟩ := bind_some hm
            refine q_stp rfl rfl rfl rfl (fun _ _ _ _ => r_cat rfl rfl rfl rfl hq17 (r_nil (qq rfl))) ?_
            refine q_stp rfl rfl rfl rfl (fun _ _ _ _ => r_fieldAddr fa24_3 rfl rfl rfl (r_nil (qq rfl))) ?_
            refine q_stp rfl rfl rfl rfl (fun _ _ _ hq => r_loadB1 ag22 rfl rfl hq rfl (i := 0) rfl rfl (r_nil (qq rfl))) ?_
            obtain ⟨ex8, he8, hm⟩ := bind_some hm
            obtain ⟨b9, o8, cs8, hf8, hr8, hrun7⟩ := findex_ex (P := Tryz.prog) (r := rp_Expr) u22 sz24 hs1 he8
            obtain ⟨as9, ns9, cs9, hc8, hs9⟩ := expr_iff.1 hr8
            subst hc8
            refine q_findex rfl rfl rfl rfl hrun7 ?_
            refine q_stp rfl rfl rfl rfl (fun _ _ hleq hq => r_loadFW ag24 sz24 rfl rfl hq (hf8.mono hleq) rfl rfl (r_nil (qq rfl))) ?_
            obtain ⟨v9, hv9, hm⟩ := bind_some hm
            refine q_callG0 ent62 rfl rfl rfl rfl (fun _ _ hleq hq => ih.2 _ _ hv9 hq.sat (hs9.mono hleq) (hg1.mono hleq)) ?_
            obtain ⟨t18, hq18, hm⟩ := bind_some hm
            refine q_stp rfl rfl rfl rfl (fun _ _ _ _ => r_cat rfl rfl rfl rfl hq18 (r_nil (qq rfl))) ?_
            refine q_stp rfl rfl rfl rfl (fun _ _ _ _ => r_assign rfl rfl rfl (r_nil (qq rfl))) ?_
            refine q_end ?_
            rintro wx6 ⟨Fx5, hF5, hx6⟩
            refine q_then (c_ret (q_block_ret (q_then_ret ?_)))
            refine b_ret1 rfl rfl ?_
            obtain rfl := Option.some.inj hm
            exact ⟨_, _, _, rfl, hx6.pick [] (by decide) rfl, rfl, rfl⟩
           ·refine c_lit 68 rfl hb9 ?_
            refine c_false rfl (c_skip (q_block (q_then (c_seq (c_seq (c_region ?_))))))
            obtain ⟨v10, hv10, hm⟩ := bind_some hm
            refine r_callG0 ent56 rfl rfl rfl rfl hx1 (tariff_operators_ok _ _ hv10 hx1.sat) ?_
            rintro _ Fx6 _ wx7 hF6 hx7 ⟨bs10, ess10, cls10, rfl, rfl, hs10⟩
            refine r_range um77 rfl rfl rfl hx7 (i := 0) rfl ?_
            intro b10 wx8 hx8
            refine r_nil (q_then (c_block ?_))
            intro a ax1
            obtain ⟨_, hV0⟩ := mloop_some hm
            have hU : ∀ q, q ∈ v10 → ∀ q', q' ∈ v10 → q.2 = q'.2 → q = q' := by
             obtain rfl := Option.some.inj ((rfl : tariff_operators n = some _).symm.trans hv10)
             decide
            refine loopR (fun m (s : Nat) => mloop m s (match List.find? (fun (q : Bs × Int) => q.2 == x1.Op) v10 with | none => some [] | some q => (ix x1.Args 0).bind fun ex10 => (tariff_atomic n ex10).bind fun v12 => (scat v12 [32]).bind fun t19 => (scat t19 q.1).bind fun t20 => (scat t20 [32]).bind fun t21 => (ix x1.Args 1).bind fun ex11 => (tariff_atomic n ex11).bind fun v13 => (scat t21 v13).bind fun t22 => some t22)) r (fun (s : Nat) a w' => ∃ (seen1 : Array Nat) (c1 : Nat), HS F w [] Fx6 [.it b10 (.mapIter (some bs10) cls10 seen1 c1), .mp bs10 ess10 cls10, .box b1 24 [.int .i64 x1.Op, .int .i64 x1.N, vs x1.Name, .slice as1 ns1 cs1]] w' ∧ cls10 ≤ c1 ∧ (leftOf ess10.toArray seen1).size ≤ s ∧ Failed vs (Value.int .i64) (fun (q : Bs × Int) => q.2 == x1.Op) ess10 seen1 ∧ Has 116 a [(1, .pointer (some ⟨b1, 0, none⟩)), (91, .pointer (some ⟨b10, 0, none⟩))]) (fun _ => mloop_zero) ?_ hm ⟨#[], cls10, hx8, Nat.le_refl _, left_init hs10, failed_init, ax1.cut (l := [1, 91]) rfl⟩
            clear hm hV0
            intro mx1 Kx1 ihx1
            rintro s11 a wx9 hmx1 ⟨seen1, c1, hx9, hc9, hsz1, hfl1, hax1⟩
            obtain ⟨hlt2, hV⟩ := mloop_some hmx1
            refine cw_apply hax1 ?_
            refine c_seq (c_region ?_)
            refine r_next rfl rfl hx9 rfl (j := 0) (i := 1) rfl rfl rfl hc9 (fun hL1 => ?_) (fun ex9 he9 wx10 hx10 => ?_)
            ·have hN := find_none (p := (fun (q : Bs × Int) => q.2 == x1.Op)) vs_int_inj hs10 hL1 hfl1
             rw [hN] at hV
             replace hV : (some []) = some r := hV
             refine r_extract rfl rfl rfl rfl (r_nil (q_then (c_seq (c_false rfl (c_exit (q_then_exit (q_then_exit (q_block_hit (q_then (c_seq (c_region (r_assign rfl rfl rfl (r_nil (q_then (c_ret ?_)))))))))))))))
             refine b_ret1 rfl rfl ?_
             obtain rfl := Option.some.inj hV
             exact ⟨_, _, _, rfl, hx9.pick [] (by decide) rfl, rfl, rfl⟩
            ·obtain ⟨k1, v11, hq19, hk1, hv11⟩ := mpr_mem hs10 ex9 (mem_leftOf he9)
             rw [hk1, hv11]
             have hlt := left_push he9
             refine r_extract rfl rfl rfl rfl (r_nil (q_then (c_seq (c_true rfl (c_skip (q_then (c_block (c_seq (c_region ?_)))))))))
             refine r_entry rfl rfl hx10 rfl (j := 0) (i := 1) rfl rfl he9 ?_
             rw [hk1, hv11]
             refine r_extract rfl rfl rfl rfl (r_extract rfl rfl rfl rfl (r_assign rfl rfl rfl (r_assign rfl rfl rfl (r_nil (q_then (c_seq (c_region (r_move rfl rfl rfl ?_))))))))
             refine r_fieldAddr fa24_0 rfl rfl rfl ?_
             refine r_loadB1 ag3 rfl rfl hx10 rfl (i := 2) rfl rfl ?_
             refine r_bin rfl rfl rfl rfl rfl ?_
             refine r_nil (q_then ?_)
             cases hp1 : (v11 == x1.Op) with
             | true =>
              have hF := find_one (p := (fun (q : Bs × Int) => q.2 == x1.Op)) hq19 hp1 (fun x hx hpx => hU x hx _ hq19 (by simp only [beq_iff_eq] at hpx hp1; rw [hpx, hp1]))
              rw [hF] at hV
              replace hV : ((ix x1.Args 0).bind fun ex10 => (tariff_atomic n ex10).bind fun v12 => (scat v12 [32]).bind fun t19 => (scat t19 k1).bind fun t20 => (scat t20 [32]).bind fun t21 => (ix x1.Args 1).bind fun ex11 => (tariff_atomic n ex11).bind fun v13 => (scat t21 v13).bind fun t22 => some t22) = some r := hV
              refine c_lit 100 rfl rfl ?_
              refine c_true rfl (c_seq ?_)
              refine c_regionD (by kernel_rfl) (by kernel_rfl) hx10 ?_
              refine q_stp rfl rfl rfl rfl (fun _ _ _ _ => r_fieldAddr fa24_3 rfl rfl rfl (r_nil (qq rfl))) ?_
              refine q_stp rfl rfl rfl rfl (fun _ _ _ hq => r_loadB1 ag22 rfl rfl hq rfl (i := 2) rfl rfl (r_nil (qq rfl))) ?_
              obtain ⟨ex10, he10, hV⟩ := bind_some hV
              obtain ⟨b11, o9, cs9, hf9, hr9, hrun8⟩ := findex_ex (P := Tryz.prog) (r := rp_Expr) u22 sz24 (hs1.mono hF6) he10
              obtain ⟨as12, ns12, cs12, hc10, hs12⟩ := expr_iff.1 hr9
              subst hc10
              refine q_findex rfl rfl rfl rfl hrun8 ?_
              refine q_stp rfl rfl rfl rfl (fun _ _ hleq hq => r_loadFW ag24 sz24 rfl rfl hq (hf9.mono hleq) rfl rfl (r_nil (qq rfl))) ?_
              obtain ⟨v12, hv12, hV⟩ := bind_some hV
              refine q_callG0 ent62 rfl rfl rfl rfl (fun _ _ hleq hq => ih.2 _ _ hv12 hq.sat (hs12.mono hleq) ((hg1.mono hF6).mono hleq)) ?_
              obtain ⟨t19, hq20, hV⟩ := bind_some hV
              refine q_stp rfl rfl rfl rfl (fun _ _ _ _ => r_cat rfl rfl rfl rfl hq20 (r_nil (qq rfl))) ?_
              refine q_stp rfl rfl rfl rfl (fun _ _ _ _ => r_move rfl rfl rfl (r_nil (qq rfl))) ?_
              obtain ⟨t20, hq21, hV⟩ := bind_some hV
              refine q_stp rfl rfl rfl rfl (fun _ _ _ _ => r_cat rfl rfl rfl rfl hq21 (r_nil (qq rfl))) ?_
              obtain ⟨t21, hq22, hV⟩ := bind_some hV
              refine q_stp rfl rfl rfl rfl (fun _ _ _ _ => r_cat rfl rfl rfl rfl hq22 (r_nil (qq rfl))) ?_
              refine q_stp rfl rfl rfl rfl (fun _ _ _ _ => r_fieldAddr fa24_3 rfl rfl rfl (r_nil (qq rfl))) ?_
              refine q_stp rfl rfl rfl rfl (fun _ _ _ hq => r_loadB1 ag22 rfl rfl hq rfl (i := 2) rfl rfl (r_nil (qq rfl))) ?_
              obtain ⟨ex11, he11, hV⟩ := bind_some hV
              obtain ⟨b12, o10, cs10, hf10, hr10, hrun9⟩ := findex_ex (P := Tryz.prog) (r := rp_Expr) u22 sz24 (hs1.mono hF6) he11
              obtain ⟨as13, ns13, cs13, hc11, hs13⟩ := expr_iff.1 hr10
              subst hc11
              refine q_findex rfl rfl rfl rfl hrun9 ?_
              refine q_stp rfl rfl rfl rfl (fun _ _ hleq hq => r_loadFW ag24 sz24 rfl rfl hq (hf10.mono hleq) rfl rfl (r_nil (qq rfl))) ?_
              obtain ⟨v13, hv13, hV⟩ := bind_some hV
              refine q_callG0 ent62 rfl rfl rfl rfl (fun _ _ hleq hq => ih.2 _ _ hv13 hq.sat (hs13.mono hleq) ((hg1.mono hF6).mono hleq)) ?_
              obtain ⟨t22, hq23, hV⟩ := bind_some hV
              refine q_stp rfl rfl rfl rfl (fun _ _ _ _ => r_cat rfl rfl rfl rfl hq23 (r_nil (qq rfl))) ?_
              refine q_stp rfl rfl rfl rfl (fun _ _ _ _ => r_assign rfl rfl rfl (r_nil (qq rfl))) ?_
              refine q_end ?_
              rintro wx11 ⟨Fx7, hF7, hx11⟩
              refine q_then (c_ret (q_block_ret (q_then_ret (q_block_ret (q_then_ret ?_)))))
              refine b_ret1 rfl rfl ?_
              obtain rfl := Option.some.inj hV
              exact ⟨_, _, _, rfl, hx11.pick [] (by decide) rfl, rfl, rfl⟩
             | false =>
              refine c_lit 100 rfl rfl ?_
              refine c_false rfl (c_skip (q_block ?_))
              refine q_next (fun a ha => ihx1 (s11 - 1) a _ ?_ ?_)
              ·exact mloop_of (by omega) hV
              ·exact ⟨(seen1.push ex9.born), cls10, hx10.pick [0, 1, 2] (by decide) rfl, Nat.le_refl _, by omega, failed_push (hx10.get (i := 1) rfl).2.1 hfl1 (mem_leftOf he9) hk1 hv11 hp1, ha.cut (l := [1, 91]) rfl⟩
  ·intro x1 r hm w F hs as1 ns1 cs1 hs1 hg1
   rw [tariff_atomic_s] at hm
   have h := HS.init hs
   refine calls_of 23 Tryz.func62 rfl rfl rfl ?_
   refine c_seq (c_region ?_)
   refine r_box rfl rfl rfl rfl h ?_
   intro b1 wx1 hx1
   refine r_assign rfl rfl rfl (r_nil (q_then (c_seq (c_seq (c_region ?_)))))
   refine r_fieldAddr fa24_3 rfl rfl rfl ?_
   refine r_loadB1 ag22 rfl rfl hx1 rfl (i := 0) rfl rfl ?_
   refine r_lenS hs1.len u22 rfl rfl rfl ?_
   refine r_bin rfl rfl rfl rfl rfl ?_
   refine r_move rfl rfl rfl ?_
   obtain ⟨v1, hb1, hm⟩ := bind_some hm
   refine r_mid 4 (fun a w' => wx1 = w' ∧ Has 23 a [(1, .pointer (some ⟨b1, 0, none⟩)), (11, .bool v1)]) ?_ ?_
   ·rintro a wx2 ⟨rfl, hax1⟩
    refine rw_apply hax1 ?_
    refine r_move rfl rfl rfl ?_
    obtain ⟨v2, hb2, hm⟩ := bind_some hm
    refine r_mid 4 (fun a w' => wx1 = w' ∧ Has 23 a [(1, .pointer (some ⟨b1, 0, none⟩)), (16, .bool v2)]) ?_ ?_
    ·rintro a wx3 ⟨rfl, hax2⟩
     refine rw_apply hax2 ?_
     refine r_nil (q_then ?_)
     rcases cond_some hm with ⟨hb3, hm⟩ | ⟨hb3, hm⟩
     ·refine c_lit 16 rfl hb3 ?_
      refine c_true rfl (c_seq (c_region ?_))
      refine r_loadBW ag24 sz24 rfl rfl hx1 rfl (i := 0) rfl rfl ?_
      obtain ⟨v3, hv1, hm⟩ := bind_some hm
      refine r_callG0 ent36 rfl rfl rfl rfl hx1 (ih.1 _ _ hv1 hx1.sat hs1 hg1) ?_
      rintro _ Fx1 _ wx4 hF1 hx2 ⟨rfl, rfl⟩
      obtain ⟨t1, hq1, hm⟩ := bind_some hm
      refine r_cat rfl rfl rfl rfl hq1 ?_
      obtain ⟨t2, hq2, hm⟩ := bind_some hm
      refine r_cat rfl rfl rfl rfl hq2 ?_
      refine r_assign rfl rfl rfl (r_nil (q_then (c_ret (q_then_ret ?_))))
      refine b_ret1 rfl rfl ?_
      obtain rfl := Option.some.inj hm
      exact ⟨_, _, _, rfl, hx2.pick [] (by decide) rfl, rfl, rfl⟩
     ·refine c_lit 16 rfl hb3 ?_
      refine c_false rfl (c_skip (q_then (c_seq (c_region ?_))))
      refine r_loadBW ag24 sz24 rfl rfl hx1 rfl (i := 0) rfl rfl ?_
      obtain ⟨v4, hv2, hm⟩ := bind_some hm
      refine r_callG0 ent36 rfl rfl rfl rfl hx1 (ih.1 _ _ hv2 hx1.sat hs1 hg1) ?_
      rintro _ Fx2 _ wx5 hF2 hx3 ⟨rfl, rfl⟩
      refine r_assign rfl rfl rfl (r_nil (q_then (c_ret ?_)))
      refine b_ret1 rfl rfl ?_
      obtain rfl := Option.some.inj hm
      exact ⟨_, _, _, rfl, hx3.pick [] (by decide) rfl, rfl, rfl⟩
    ·clear hm
     rcases cond_some hb2 with ⟨hb4, hb2⟩ | ⟨hb4, hb2⟩
     ·refine r_lit 12 rfl hb4 ?_
      refine r_fieldAddr fa24_0 rfl rfl rfl ?_
      refine r_loadB1 ag3 rfl rfl hx1 rfl (i := 0) rfl rfl ?_
      refine r_bin rfl rfl rfl rfl rfl ?_
      refine r_pick_true rfl rfl rfl rfl (r_nil ?_)
      refine q_next (fun a ha => ?_)
      cases hb2
      exact ⟨rfl, ha.cut (l := [1, 16]) rfl⟩
     ·refine r_lit 12 rfl hb4 ?_
      refine r_off rfl (by decide) rfl (r_off rfl (by decide) rfl (r_off rfl (by decide) rfl (r_pick_false rfl rfl rfl rfl (r_nil ?_))))
      refine q_next (fun a ha => ?_)
      cases hb2
      exact ⟨rfl, ha.cut (l := [1, 16]) rfl⟩
   ·clear hm
    rcases cond_some hb1 with ⟨hb5, hb1⟩ | ⟨hb5, hb1⟩
    ·refine r_lit 7 rfl hb5 ?_
     refine r_fieldAddr fa24_0 rfl rfl rfl ?_
     refine r_loadB1 ag3 rfl rfl hx1 rfl (i := 0) rfl rfl ?_
     refine r_bin rfl rfl rfl rfl rfl ?_
     refine r_pick_true rfl rfl rfl rfl (r_nil ?_)
     refine q_next (fun a ha => ?_)
     cases hb1
     exact ⟨rfl, ha.cut (l := [1, 11]) rfl⟩
    ·refine r_lit 7 rfl hb5 ?_
     refine r_off rfl (by decide) rfl (r_off rfl (by decide) rfl (r_off rfl (by decide) rfl (r_pick_false rfl rfl rfl rfl (r_nil ?_))))
     refine q_next (fun a ha => ?_)
     cases hb1
     exact ⟨rfl, ha.cut (l := [1, 11]) rfl⟩
theorem tariff_text_ok (n : Nat) (x1 : Expr) (r : Bs) (hm : tariff_text n x1 = some r) {w : World} {F : Frz} (hs : Sat F w) {as1 : Option Addr} {ns1 : Nat} {cs1 : Nat} (hs1 : SlR rp_Expr F as1 ns1 cs1 x1.Args) (hg1 : FX F 1 (Lib.pow10Tab.map (Value.int .u64))) :
  Calls Tryz.prog 36 #[.agg #[.int .i64 x1.Op, .int .i64 x1.N, vs x1.Name, .slice as1 ns1 cs1]] w fun e w' => ∃ v F' O', e = .returned v ∧ HS F w [] F' O' w' ∧ (v = vs r ∧ O' = []) :=
 (tariff_text_all n).1 x1 r hm hs hs1 hg1
def tariff_Print (n : Nat) (t1 : Tariff) : Option (Bs × Bool) :=
 (tariff_writable n t1).bind fun v1 =>
 bif !v1 then
  some ([], false)
 else
  (scat [116, 97, 114, 105, 102, 102, 32] t1.Name).bind fun t2 =>
  (scat t2 [32, 123, 32, 102, 101, 101, 32, 61, 32]).bind fun t3 =>
  (tariff_text n t1.Fee).bind fun v2 =>
  (scat t3 v2).bind fun t4 =>
  (scat t4 [32, 59]).bind fun t5 =>
  (bif t1.Cap != (-1) then
   (strconv_Itoa n t1.Cap).bind fun v3 =>
   (scat [32, 99, 97, 112, 32, 61, 32] v3).bind fun t7 =>
   (scat t7 [32, 59]).bind fun t8 =>
   (scat t5 t8).bind fun t9 =>
   some t9
  else
   some t5).bind fun s2 =>
  (scat s2 [32, 125]).bind fun t6 =>
  some (t6, true)
set_option maxHeartbeats 1000000 in
set_option maxRecDepth 1000000 in
theorem tariff_Print_ok (n : Nat) (t1 : Tariff) (r : (Bs × Bool)) (hm : tariff_Print n t1 = some r) {w : World} {F : Frz} (hs : Sat F w) {as1 : Option Addr} {ns1 : Nat} {cs1 : Nat} (hs1 : SlR rp_Expr F as1 ns1 cs1 t1.Fee.Args) (hg1 : FX F 1 (Lib.pow10Tab.map (Value.int .u64))) :
  Calls Tryz.prog 9 #[.agg #[vs t1.Name, .int .i64 t1.Fee.Op, .int .i64 t1.Fee.N, vs t1.Fee.Name, .slice as1 ns1 cs1, .int .i64 t1.Cap]] w fun e w' => ∃ v F' O', e = .returned v ∧ HS F w [] F' O' w' ∧ (v = .tuple #[vs r.1, .bool r.2] ∧ O' = []) := by
 unfold tariff_Print at hm
 have h := HS.init hs
 refine calls_of 29 Tryz.func9 rfl rfl rfl ?_
 refine c_seq (c_region ?_)
 refine r_box rfl rfl rfl rfl h ?_
 intro b1 wx1 hx1
 refine r_assign rfl rfl rfl (r_assign rfl rfl rfl (r_nil (q_then (c_seq (c_seq (c_region ?_))))))
 refine r_loadBW ag26 sz26 rfl rfl hx1 rfl (i := 0) rfl rfl ?_
 obtain ⟨v1, hv1, hm⟩ := bind_some hm
 refine r_callG0 ent35 rfl rfl rfl rfl hx1 (tariff_writable_ok _ _ _ hv1 hx1.sat hs1) ?_
 rintro _ Fx1 _ wx2 hF1 hx2 ⟨rfl, rfl⟩
 refine r_not rfl rfl rfl (r_nil (q_then ?_))
 rcases cond_some hm with ⟨hb1, hm⟩ | ⟨hb1, hm⟩
 ·refine c_lit 7 rfl hb1 ?_
  refine c_true rfl (c_seq (c_region (r_assign rfl rfl rfl (r_assign rfl rfl rfl (r_nil (q_then (c_ret (q_then_ret ?_))))))))
  refine b_retA (vl := [vs [], .bool false]) rfl ⟨v_tmp rfl, v_tmp rfl, trivial⟩ (by simp) ?_
  obtain rfl := Option.some.inj hm
  exact ⟨_, _, _, rfl, hx2.pick [] (by decide) rfl, rfl, rfl⟩
 ·refine c_lit 7 rfl hb1 ?_
  refine c_false rfl (c_skip (q_then (c_seq ?_)))
  refine c_regionD (by kernel_rfl) (by kernel_rfl) hx2 ?_
  refine q_stp rfl rfl rfl rfl (fun _ _ _ _ => r_fieldAddr fa26_0 rfl rfl rfl (r_nil (qq rfl))) ?_
  refine q_stp rfl rfl rfl rfl (fun _ _ _ hq => r_loadB1 ag9 rfl rfl hq rfl (i := 0) rfl rfl (r_nil (qq rfl))) ?_
  obtain ⟨t2, hq1, hm⟩ := bind_some hm
  refine q_stp rfl rfl rfl rfl (fun _ _ _ _ => r_cat rfl rfl rfl rfl hq1 (r_nil (qq rfl))) ?_
  obtain ⟨t3, hq2, hm⟩ := bind_some hm
  refine q_stp rfl rfl rfl rfl (fun _ _ _ _ => r_cat rfl rfl rfl rfl hq2 (r_nil (qq rfl))) ?_
  refine q_stp rfl rfl rfl rfl (fun _ _ _ _ => r_fieldAddr fa26_1 rfl rfl rfl (r_nil (qq rfl))) ?_
  refine q_stp rfl rfl rfl rfl (fun _ _ _ hq => r_loadBA (cs' := [.int .i64 t1.Fee.Op, .int .i64 t1.Fee.N, vs t1.Fee.Name, .slice as1 ns1 cs1]) ag24 sz24 rfl rfl hq rfl (i := 0) rfl rfl rfl (r_nil (qq rfl))) ?_
  obtain ⟨v2, hv2, hm⟩ := bind_some hm
  refine q_callG0 ent36 rfl rfl rfl rfl (fun _ _ hleq hq => tariff_text_ok _ _ _ hv2 hq.sat ((hs1.mono hF1).mono hleq) ((hg1.mono hF1).mono hleq)) ?_
  obtain ⟨t4, hq3, hm⟩ := bind_some hm
  refine q_stp rfl rfl rfl rfl (fun _ _ _ _ => r_cat rfl rfl rfl rfl hq3 (r_nil (qq rfl))) ?_
  obtain ⟨t5, hq4, hm⟩ := bind_some hm
  refine q_stp rfl rfl rfl rfl (fun _ _ _ _ => r_cat rfl rfl rfl rfl hq4 (r_nil (qq rfl))) ?_
  refine q_stp rfl rfl rfl rfl (fun _ _ _ _ => r_assign rfl rfl rfl (r_nil (qq rfl))) ?_
  refine q_end ?_
  rintro wx3 ⟨Fx2, hF2, hx3⟩
  refine q_then (c_seq (c_seq (c_region ?_)))
  refine r_fieldAddr fa26_2 rfl rfl rfl ?_
  refine r_loadB1 ag3 rfl rfl hx3 rfl (i := 0) rfl rfl ?_
  refine r_bin rfl rfl rfl rfl rfl ?_
  refine r_nil (q_then ?_)
  obtain ⟨s2, hb2, hm⟩ := bind_some hm
  refine c_midT (fun a w' => ∃ (Fx3 : Frz), Frz.le Fx2 Fx3 ∧ HS F w [] Fx3 [.box b1 26 [vs t1.Name, .int .i64 t1.Fee.Op, .int .i64 t1.Fee.N, vs t1.Fee.Name, .slice as1 ns1 cs1, .int .i64 t1.Cap]] w' ∧ Has 29 a [(4, vs s2)]) ?_ ?_
  ·rintro a wx4 ⟨Fx3, hF3, hx4, hax1⟩
   refine cw_apply hax1 ?_
   refine c_seq (c_region (r_move rfl rfl rfl ?_))
   obtain ⟨t6, hq5, hm⟩ := bind_some hm
   refine r_cat rfl rfl rfl rfl hq5 ?_
   refine r_assign rfl rfl rfl (r_assign rfl rfl rfl (r_nil (q_then (c_ret ?_))))
   refine b_retA (vl := [vs t6, .bool true]) rfl ⟨v_tmp rfl, v_tmp rfl, trivial⟩ (by simp) ?_
   obtain rfl := Option.some.inj hm
   exact ⟨_, _, _, rfl, hx4.pick [] (by decide) rfl, rfl, rfl⟩
  ·clear hm
   rcases cond_some hb2 with ⟨hb3, hb2⟩ | ⟨hb3, hb2⟩
   ·refine c_lit 19 rfl hb3 ?_
    refine c_true rfl (c_region (r_move rfl rfl rfl ?_))
    refine r_fieldAddr fa26_2 rfl rfl rfl ?_
    refine r_loadB1 ag3 rfl rfl hx3 rfl (i := 0) rfl rfl ?_
    obtain ⟨v3, hv3, hb2⟩ := bind_some hb2
    refine r_callG0 ent37 rfl rfl rfl rfl hx3 (strconv_Itoa_ok _ _ _ hv3 hx3.sat ((hg1.mono hF1).mono hF2)) ?_
    rintro _ Fx4 _ wx5 hF4 hx5 ⟨rfl, rfl⟩
    obtain ⟨t7, hq6, hb2⟩ := bind_some hb2
    refine r_cat rfl rfl rfl rfl hq6 ?_
    obtain ⟨t8, hq7, hb2⟩ := bind_some hb2
    refine r_cat rfl rfl rfl rfl hq7 ?_
    obtain ⟨t9, hq8, hb2⟩ := bind_some hb2
    refine r_cat rfl rfl rfl rfl hq8 ?_
    refine r_assign rfl rfl rfl (r_nil ?_)
    refine q_next (fun a ha => ?_)
    cases hb2
    exact ⟨_, hF4, hx5.pick [0] (by decide) rfl, ha.cut (l := [4]) rfl⟩
   ·refine c_lit 19 rfl hb3 ?_
    refine c_false rfl (c_skip ?_)
    refine q_next (fun a ha => ?_)
    cases hb2
    exact ⟨_, Frz.refl _, hx3.pick [0] (by decide) rfl, ha.cut (l := [4]) rfl⟩
def law35_leaf (_n : Nat) (op1 : Int) (nx1 : Int) (name1 : Bs) : Option Expr :=
 some (⟨op1, nx1, name1, []⟩ : Expr)
set_option maxHeartbeats 1000000 in
set_option maxRecDepth 1000000 in
theorem law35_leaf_ok (n : Nat) (op1 : Int) (nx1 : Int) (name1 : Bs) (r : Expr) (hm : law35_leaf n op1 nx1 name1 = some r) {w : World} {F : Frz} (hs : Sat F w)  :
  Calls Tryz.prog 17 #[.int .i64 op1, .int .i64 nx1, vs name1] w fun e w' => ∃ v F' O', e = .returned v ∧ HS F w [] F' O' w' ∧ (∃ (a0_3 : Option Addr) (n0_3 : Nat) (c0_3 : Nat), v = .agg #[.int .i64 r.Op, .int .i64 r.N, vs r.Name, .slice a0_3 n0_3 c0_3] ∧ O' = [] ∧ SlR rp_Expr F' a0_3 n0_3 c0_3 r.Args) := by
 unfold law35_leaf at hm
 have h := HS.init hs
 refine calls_of 11 Tryz.func17 rfl rfl rfl ?_
 refine c_seq (c_region ?_)
 refine r_alloc ze24 rfl rfl rfl h ?_
 intro b1 wx1 hx1
 refine r_nil (q_then (c_seq (c_region (r_move rfl rfl rfl (r_move rfl rfl rfl (r_move rfl rfl rfl ?_))))))
 refine r_build (v := .agg #[.int .i64 op1, .int .i64 nx1, vs name1, .slice none 0 0]) rfl rfl rfl (fun _ => by kernel_rfl) ?_
 refine r_store sz24 rfl hx1 rfl rfl rfl rfl (i := 0) rfl rfl rfl rfl ?_
 intro wx2 hx2
 refine r_nil (q_then (c_ret ?_))
 refine b_retC rfl ag24 sz24 rfl hx2 rfl (i := 0) rfl ?_
 obtain rfl := Option.some.inj hm
 exact ⟨_, _, _, rfl, hx2.pick [] (by decide) rfl, none, 0, 0, rfl, rfl, SlR.nil _ _⟩
def law35_two (_n : Nat) (op1 : Int) (ax1 : Expr) (b1 : Expr) : Option Expr :=
 some (⟨op1, 0, [], [ax1, b1]⟩ : Expr)
set_option maxHeartbeats 1000000 in
set_option maxRecDepth 1000000 in
theorem law35_two_ok (n : Nat) (op1 : Int) (ax1 : Expr) (b1 : Expr) (r : Expr) (hm : law35_two n op1 ax1 b1 = some r) {w : World} {F : Frz} (hs : Sat F w) {as1 : Option Addr} {ns1 : Nat} {cs1 : Nat} {as2 : Option Addr} {ns2 : Nat} {cs2 : Nat} (hs1 : SlR rp_Expr F as1 ns1 cs1 ax1.Args) (hs2 : SlR rp_Expr F as2 ns2 cs2 b1.Args) :
  Calls Tryz.prog 16 #[.int .i64 op1, .agg #[.int .i64 ax1.Op, .int .i64 ax1.N, vs ax1.Name, .slice as1 ns1 cs1], .agg #[.int .i64 b1.Op, .int .i64 b1.N, vs b1.Name, .slice as2 ns2 cs2]] w fun e w' => ∃ v F' O', e = .returned v ∧ HS F w [] F' O' w' ∧ (∃ (a0_3 : Option Addr) (n0_3 : Nat) (c0_3 : Nat), v = .agg #[.int .i64 r.Op, .int .i64 r.N, vs r.Name, .slice a0_3 n0_3 c0_3] ∧ O' = [] ∧ SlR rp_Expr F' a0_3 n0_3 c0_3 r.Args) := by
 unfold law35_two at hm
 have h := HS.init hs
 refine calls_of 12 Tryz.func16 rfl rfl rfl ?_
 refine c_seq (c_region ?_)
 refine r_box rfl rfl rfl rfl h ?_
 intro b2 wx1 hx1
 refine r_box rfl rfl rfl rfl hx1 ?_
 intro b3 wx2 hx2
 refine r_alloc ze24 rfl rfl rfl hx2 ?_
 intro b4 wx3 hx3
 refine r_nil (q_then (c_seq (c_region (r_move rfl rfl rfl ?_))))
 refine r_loadBW ag24 sz24 rfl rfl hx3 rfl (i := 2) rfl rfl ?_
 refine r_loadBW ag24 sz24 rfl rfl hx3 rfl (i := 1) rfl rfl ?_
 refine r_buildSlice (e := 24) (cs := [.int .i64 ax1.Op, .int .i64 ax1.N, vs ax1.Name, .slice as1 ns1 cs1, .int .i64 b1.Op, .int .i64 b1.N, vs b1.Name, .slice as2 ns2 cs2]) (q := 4) rfl rfl hx3 rfl (fun _ => by kernel_rfl) rfl rfl ?_
 intro b5 wx4 hx4
 obtain ⟨Fx1, hF1, hx5, hsx1⟩ := freezeRow hx4 (i := 0) rfl ((show RowN rp_Expr F 2 [.int .i64 ax1.Op, .int .i64 ax1.N, vs ax1.Name, .slice as1 ns1 cs1, .int .i64 b1.Op, .int .i64 b1.N, vs b1.Name, .slice as2 ns2 cs2] [ax1, b1] from ⟨rfl, ⟨_, _, rfl, (expr_iff.2 ⟨as1, ns1, cs1, rfl, hs1⟩), ⟨_, _, rfl, (expr_iff.2 ⟨as2, ns2, cs2, rfl, hs2⟩), (rfl : RowR rp_Expr _ [] [])⟩⟩⟩))
 refine r_build (v := .agg #[.int .i64 op1, .int .i64 0, vs [], .slice (some ⟨b5, 0, none⟩) 2 2]) rfl rfl rfl (fun _ => by kernel_rfl) ?_
 refine r_store sz24 rfl hx5 rfl rfl rfl rfl (i := 0) rfl rfl rfl rfl ?_
 intro wx5 hx6
 refine r_nil (q_then (c_ret ?_))
 refine b_retC rfl ag24 sz24 rfl hx6 rfl (i := 0) rfl ?_
 obtain rfl := Option.some.inj hm
 exact ⟨_, _, _, rfl, hx6.pick [] (by decide) rfl, (some ⟨b5, 0, none⟩), 2, 2, rfl, rfl, hsx1⟩
def law35_few_L1 (n : Nat) (l1 : (List Bs)) (kont1 : Option Bool) : Nat → Int → Option Bool
 | 0, _ => none
 | mx1 + 1, i1 =>
  (bif decide (i1 < (l1.length : Int)) then
   some (decide (i1 < 10))
  else
   some false).bind fun v1 =>
  bif v1 then
   (ix l1 i1).bind fun ex1 =>
   bif decide (60 < (ex1.length : Int)) then
    some false
   else
    law35_few_L1 n l1 kont1 mx1 (iadd .i64 i1 1)
  else
   kont1
theorem law35_few_L1_s (n : Nat) (l1 : (List Bs)) (kont1 : Option Bool) (mx1 : Nat) (i1 : Int) : law35_few_L1 n l1 kont1 (mx1 + 1) i1 =
  (bif decide (i1 < (l1.length : Int)) then
   some (decide (i1 < 10))
  else
   some false).bind fun v1 =>
  bif v1 then
   (ix l1 i1).bind fun ex1 =>
   bif decide (60 < (ex1.length : Int)) then
    some false
   else
    law35_few_L1 n l1 kont1 mx1 (iadd .i64 i1 1)
  else
   kont1 := rfl
def law35_few (n : Nat) (l1 : (List Bs)) : Option Bool :=
 law35_few_L1 n l1 (
  some (decide ((l1.length : Int) ≤ 10))) n 0
set_option maxHeartbeats 1000000 in
set_option maxRecDepth 1000000 in
theorem law35_few_ok (n : Nat) (l1 : (List Bs)) (r : Bool) (hm : law35_few n l1 = some r) {w : World} {F : Frz} (hs : Sat F w) {as1 : Option Addr} {ns1 : Nat} {cs1 : Nat} (hs1 : SlR Rp.str F as1 ns1 cs1 l1) :
  Calls Tryz.prog 6 #[.slice as1 ns1 cs1] w fun e w' => e = .returned (.bool r) ∧ w' = w := by
 unfold law35_few at hm
 have h := HS.init hs
 refine calls_of 23 Tryz.func6 rfl rfl rfl ?_
 refine c_seq (c_region (r_assign rfl rfl rfl (r_nil (q_then (c_seq (c_seq (c_region (r_assign rfl rfl rfl (r_nil (q_then (c_block ?_)))))))))))
 intro a hax4
 obtain ⟨kont1, hkont1⟩ : ∃ kont1 : Option Bool, kont1 = (
       some (decide ((l1.length : Int) ≤ 10))) := ⟨_, rfl⟩
 replace hm : (fun m (s : Int) => law35_few_L1 n l1 kont1 m s) n 0 = some r := by rw [hkont1]; exact hm
 refine loopX (id := 0) (fun m (s : Int) => law35_few_L1 n l1 kont1 m s) (fun (y : Unit) => kont1) r (fun (s : Int) a w' => w = w' ∧ Has 23 a [(0, .slice as1 ns1 cs1), (3, .int .i64 s)]) (fun (y : Unit) a w' => w = w' ∧ Has 23 a [(0, .slice as1 ns1 cs1)]) (fun _ => rfl) ?_ ?_ hm ⟨rfl, hax4.cut (l := [0, 3]) rfl⟩
 ·clear hm; rintro _u a wx1 hm ⟨rfl, hax1⟩
  rw [hkont1] at hm
  refine qw_apply (e := .exit 0) hax1 ?_
  refine q_block_hit (q_then (c_seq (c_region (r_move rfl rfl rfl ?_))))
  refine r_lenS hs1.len u27 rfl rfl rfl ?_
  refine r_bin rfl rfl rfl rfl rfl ?_
  refine r_assign rfl rfl rfl (r_nil (q_then (c_ret ?_)))
  refine b_ret1 rfl rfl ?_
  obtain rfl := Option.some.inj hm
  exact ⟨rfl, rfl⟩
 ·clear hm hkont1; intro hk1 mx1 K ihx1
  rintro i1 a wx2 hm ⟨rfl, hax2⟩
  simp only [law35_few_L1_s] at hm
  refine cw_apply hax2 ?_
  refine c_seq (c_seq (c_region (r_move rfl rfl rfl (r_move rfl rfl rfl ?_))))
  refine r_lenS hs1.len u27 rfl rfl rfl ?_
  refine r_bin rfl rfl rfl rfl rfl ?_
  refine r_move rfl rfl rfl ?_
  obtain ⟨v1, hb1, hm⟩ := bind_some hm
  refine r_mid 3 (fun a w' => w = w' ∧ Has 23 a [(0, .slice as1 ns1 cs1), (3, .int .i64 i1), (11, .bool v1)]) ?_ ?_
  ·rintro a wx3 ⟨rfl, hax3⟩
   refine rw_apply hax3 ?_
   refine r_nil (q_then ?_)
   rcases cond_some hm with ⟨hb2, hm⟩ | ⟨hb2, hm⟩
   ·refine c_lit 11 rfl hb2 ?_
    refine c_true rfl (c_skip (q_then (c_seq (c_block (c_seq (c_region (r_move rfl rfl rfl (r_move rfl rfl rfl ?_))))))))
    obtain ⟨ex1, he1, hm⟩ := bind_some hm
    refine r_findex (r := Rp.str) u27 sz9 rfl rfl rfl rfl hs1 he1 ?_
    intro b1 o1 cs1 hf1 hr1
    have hc1 : cs1 = [vs ex1] := hr1
    subst hc1
    refine r_loadF1 (j := 0) ag9 rfl rfl h hf1 rfl rfl ?_
    refine r_slen u9 rfl rfl rfl ?_
    refine r_bin rfl rfl rfl rfl rfl ?_
    refine r_nil (q_then ?_)
    rcases cond_some hm with ⟨hb3, hm⟩ | ⟨hb3, hm⟩
    ·refine c_lit 19 rfl hb3 ?_
     refine c_true rfl (c_seq (c_region (r_assign rfl rfl rfl (r_nil (q_then (c_ret (q_block_ret (q_then_ret (q_then_ret (q_block_ret (q_then_ret ?_)))))))))))
     refine b_ret1 rfl rfl ?_
     obtain rfl := Option.some.inj hm
     exact ⟨rfl, rfl⟩
    ·refine c_lit 19 rfl hb3 ?_
     refine c_false rfl (c_skip (q_block (q_then (c_region (r_move rfl rfl rfl ?_)))))
     refine r_bin rfl rfl rfl rfl rfl ?_
     refine r_assign rfl rfl rfl (r_nil ?_)
     refine q_next (fun a ha => ihx1 (iadd .i64 i1 1) a _ hm ?_)
     exact ⟨rfl, ha.cut (l := [0, 3]) rfl⟩
   ·refine c_lit 11 rfl hb2 ?_
    refine c_false rfl (c_exit (q_then_exit (q_then_exit ?_)))
    refine fun a ha => hk1 () a _ hm ?_
    exact ⟨rfl, ha.cut (l := [0]) rfl⟩
  ·clear hm
   rcases cond_some hb1 with ⟨hb4, hb1⟩ | ⟨hb4, hb1⟩
   ·refine r_lit 8 rfl hb4 ?_
    refine r_move rfl rfl rfl ?_
    refine r_bin rfl rfl rfl rfl rfl ?_
    refine r_pick_true rfl rfl rfl rfl (r_nil ?_)
    refine q_next (fun a ha => ?_)
    cases hb1
    exact ⟨rfl, ha.cut (l := [0, 3, 11]) rfl⟩
   ·refine r_lit 8 rfl hb4 ?_
    refine r_off rfl (by decide) rfl (r_off rfl (by decide) rfl (r_pick_false rfl rfl rfl rfl (r_nil ?_)))
    refine q_next (fun a ha => ?_)
    cases hb1
    exact ⟨rfl, ha.cut (l := [0, 3, 11]) rfl⟩
theorem ent19 : Ent Tryz.prog 19 := fun _ _ => by kernel_rfl
def law35_short_L1 (n : Nat) (rec_law35_short : Expr → Option Bool) (x1 : Expr) (kont1 : Option Bool) : Nat → Int → Option Bool
 | 0, _ => none
 | mx1 + 1, i1 =>
  bif decide (i1 < (x1.Args.length : Int)) then
   (ix x1.Args i1).bind fun ex1 =>
   (rec_law35_short ex1).bind fun v1 =>
   bif !v1 then
    some false
   else
    law35_short_L1 n rec_law35_short x1 kont1 mx1 (iadd .i64 i1 1)
  else
   kont1
theorem law35_short_L1_s (n : Nat) (rec_law35_short : Expr → Option Bool) (x1 : Expr) (kont1 : Option Bool) (mx1 : Nat) (i1 : Int) : law35_short_L1 n rec_law35_short x1 kont1 (mx1 + 1) i1 =
  bif decide (i1 < (x1.Args.length : Int)) then
   (ix x1.Args i1).bind fun ex1 =>
   (rec_law35_short ex1).bind fun v1 =>
   bif !v1 then
    some false
   else
    law35_short_L1 n rec_law35_short x1 kont1 mx1 (iadd .i64 i1 1)
  else
   kont1 := rfl
def law35_short : Nat → Expr → Option Bool
 | 0, _ => none
 | n + 1, x1 =>
  law35_short_L1 n (law35_short n) x1 (
   some (decide ((x1.Name.length : Int) ≤ 60))) n 0
theorem law35_short_s (n : Nat) (x1 : Expr) : law35_short (n + 1) x1 =
  law35_short_L1 n (law35_short n) x1 (
   some (decide ((x1.Name.length : Int) ≤ 60))) n 0 := rfl
set_option maxHeartbeats 1000000 in
set_option maxRecDepth 1000000 in
theorem law35_short_all (n : Nat) : (∀ (x1 : Expr) (r : Bool) (_ : law35_short n x1 = some r) {w : World} {F : Frz} (_ : Sat F w) {as1 : Option Addr} {ns1 : Nat} {cs1 : Nat} (_ : SlR rp_Expr F as1 ns1 cs1 x1.Args), Calls Tryz.prog 19 #[.agg #[.int .i64 x1.Op, .int .i64 x1.N, vs x1.Name, .slice as1 ns1 cs1]] w fun e w' => ∃ v F' O', e = .returned v ∧ HS F w [] F' O' w' ∧ (v = .bool r ∧ O' = [])) := by
 induction n with
 | zero =>
  ·intro x1 r hm
   exact absurd (show (none : Option Bool) = some r from hm) (by simp)
 | succ n ih =>
  ·intro x1 r hm w F hs as1 ns1 cs1 hs1
   rw [law35_short_s] at hm
   have h := HS.init hs
   refine calls_of 22 Tryz.func19 rfl rfl rfl ?_
   refine c_seq (c_region ?_)
   refine r_box rfl rfl rfl rfl h ?_
   intro b1 wx1 hx1
   refine r_assign rfl rfl rfl (r_nil (q_then (c_seq (c_seq (c_region (r_assign rfl rfl rfl (r_nil (q_then (c_block ?_)))))))))
   intro a hax3
   obtain ⟨kont1, hkont1⟩ : ∃ kont1 : Option Bool, kont1 = (
       some (decide ((x1.Name.length : Int) ≤ 60))) := ⟨_, rfl⟩
   replace hm : (fun m (s : Int) => law35_short_L1 n (law35_short n) x1 kont1 m s) n 0 = some r := by rw [hkont1]; exact hm
   refine loopX (id := 0) (fun m (s : Int) => law35_short_L1 n (law35_short n) x1 kont1 m s) (fun (y : Unit) => kont1) r (fun (s : Int) a w' => ∃ (Fx1 : Frz), Frz.le F Fx1 ∧ HS F w [] Fx1 [.box b1 24 [.int .i64 x1.Op, .int .i64 x1.N, vs x1.Name, .slice as1 ns1 cs1]] w' ∧ Has 22 a [(1, .pointer (some ⟨b1, 0, none⟩)), (3, .int .i64 s)]) (fun (y : Unit) a w' => ∃ (Fx2 : Frz), Frz.le F Fx2 ∧ HS F w [] Fx2 [.box b1 24 [.int .i64 x1.Op, .int .i64 x1.N, vs x1.Name, .slice as1 ns1 cs1]] w' ∧ Has 22 a [(1, .pointer (some ⟨b1, 0, none⟩))]) (fun _ => rfl) ?_ ?_ hm ⟨_, Frz.refl _, hx1.pick [0] (by decide) rfl, hax3.cut (l := [1, 3]) rfl⟩
   ·clear hm; rintro _u a wx2 hm ⟨Fx2, hF2, hx3, hax1⟩
    rw [hkont1] at hm
    refine qw_apply (e := .exit 0) hax1 ?_
    refine q_block_hit (q_then (c_seq (c_region ?_)))
    refine r_fieldAddr fa24_2 rfl rfl rfl ?_
    refine r_loadB1 ag9 rfl rfl hx3 rfl (i := 0) rfl rfl ?_
    refine r_slen u9 rfl rfl rfl ?_
    refine r_bin rfl rfl rfl rfl rfl ?_
    refine r_assign rfl rfl rfl (r_nil (q_then (c_ret ?_)))
    refine b_ret1 rfl rfl ?_
    obtain rfl := Option.some.inj hm
    exact ⟨_, _, _, rfl, hx3.pick [] (by decide) rfl, rfl, rfl⟩
   ·clear hm hkont1; intro hk1 mx1 K ihx1
    rintro i1 a wx3 hm ⟨Fx1, hF1, hx2, hax2⟩
    simp only [law35_short_L1_s] at hm
    refine cw_apply hax2 ?_
    refine c_seq (c_seq (c_region (r_move rfl rfl rfl ?_)))
    refine r_fieldAddr fa24_3 rfl rfl rfl ?_
    refine r_loadB1 ag22 rfl rfl hx2 rfl (i := 0) rfl rfl ?_
    refine r_lenS hs1.len u22 rfl rfl rfl ?_
    refine r_bin rfl rfl rfl rfl rfl ?_
    refine r_nil (q_then ?_)
    rcases cond_some hm with ⟨hb1, hm⟩ | ⟨hb1, hm⟩
    ·refine c_lit 8 rfl hb1 ?_
     refine c_true rfl (c_skip (q_then (c_seq (c_block (c_seq (c_region ?_))))))
     refine r_fieldAddr fa24_3 rfl rfl rfl ?_
     refine r_loadB1 ag22 rfl rfl hx2 rfl (i := 0) rfl rfl ?_
     refine r_move rfl rfl rfl ?_
     obtain ⟨ex1, he1, hm⟩ := bind_some hm
     refine r_findex (r := rp_Expr) u22 sz24 rfl rfl rfl rfl (hs1.mono hF1) he1 ?_
     intro b2 o1 cs1 hf1 hr1
     obtain ⟨as2, ns2, cs2, hc1, hs2⟩ := expr_iff.1 hr1
     subst hc1
     refine r_loadFW ag24 sz24 rfl rfl hx2 hf1 rfl rfl ?_
     obtain ⟨v1, hv1, hm⟩ := bind_some hm
     refine r_callG0 ent19 rfl rfl rfl rfl hx2 (ih _ _ hv1 hx2.sat hs2) ?_
     rintro _ Fx3 _ wx4 hF3 hx4 ⟨rfl, rfl⟩
     refine r_not rfl rfl rfl (r_nil (q_then ?_))
     rcases cond_some hm with ⟨hb2, hm⟩ | ⟨hb2, hm⟩
     ·refine c_lit 17 rfl hb2 ?_
      refine c_true rfl (c_seq (c_region (r_assign rfl rfl rfl (r_nil (q_then (c_ret (q_block_ret (q_then_ret (q_then_ret (q_block_ret (q_then_ret ?_)))))))))))
      refine b_ret1 rfl rfl ?_
      obtain rfl := Option.some.inj hm
      exact ⟨_, _, _, rfl, hx4.pick [] (by decide) rfl, rfl, rfl⟩
     ·refine c_lit 17 rfl hb2 ?_
      refine c_false rfl (c_skip (q_block (q_then (c_region (r_move rfl rfl rfl ?_)))))
      refine r_bin rfl rfl rfl rfl rfl ?_
      refine r_assign rfl rfl rfl (r_nil ?_)
      refine q_next (fun a ha => ihx1 (iadd .i64 i1 1) a _ hm ?_)
      exact ⟨_, (hF1.trans hF3), hx4.pick [0] (by decide) rfl, ha.cut (l := [1, 3]) rfl⟩
    ·refine c_lit 8 rfl hb1 ?_
     refine c_false rfl (c_exit (q_then_exit (q_then_exit ?_)))
     refine fun a ha => hk1 () a _ hm ?_
     exact ⟨_, hF1, hx2.pick [0] (by decide) rfl, ha.cut (l := [1]) rfl⟩
theorem law35_short_ok (n : Nat) (x1 : Expr) (r : Bool) (hm : law35_short n x1 = some r) {w : World} {F : Frz} (hs : Sat F w) {as1 : Option Addr} {ns1 : Nat} {cs1 : Nat} (hs1 : SlR rp_Expr F as1 ns1 cs1 x1.Args) :
  Calls Tryz.prog 19 #[.agg #[.int .i64 x1.Op, .int .i64 x1.N, vs x1.Name, .slice as1 ns1 cs1]] w fun e w' => ∃ v F' O', e = .returned v ∧ HS F w [] F' O' w' ∧ (v = .bool r ∧ O' = []) :=
 (law35_short_all n) x1 r hm hs hs1
theorem ent18 : Ent Tryz.prog 18 := fun _ _ => by kernel_rfl
def law35_limited (n : Nat) (t1 : Tariff) : Option Bool :=
 (ref35_Few n t1.Fee 130 14).bind fun v1 =>
 (bif v1 then
  (law35_short n t1.Fee).bind fun v4 =>
  some v4
 else
  some false).bind fun v2 =>
 (bif v2 then
  some (decide ((t1.Name.length : Int) ≤ 60))
 else
  some false).bind fun v3 =>
 some v3
set_option maxHeartbeats 1000000 in
set_option maxRecDepth 1000000 in
theorem law35_limited_ok (n : Nat) (t1 : Tariff) (r : Bool) (hm : law35_limited n t1 = some r) {w : World} {F : Frz} (hs : Sat F w) {as1 : Option Addr} {ns1 : Nat} {cs1 : Nat} (hs1 : SlR rp_Expr F as1 ns1 cs1 t1.Fee.Args) :
  Calls Tryz.prog 5 #[.agg #[vs t1.Name, .int .i64 t1.Fee.Op, .int .i64 t1.Fee.N, vs t1.Fee.Name, .slice as1 ns1 cs1, .int .i64 t1.Cap]] w fun e w' => ∃ v F' O', e = .returned v ∧ HS F w [] F' O' w' ∧ (v = .bool r ∧ O' = []) := by
 unfold law35_limited at hm
 have h := HS.init hs
 refine calls_of 17 Tryz.func5 rfl rfl rfl ?_
 refine c_seq (c_region ?_)
 refine r_box rfl rfl rfl rfl h ?_
 intro b1 wx1 hx1
 refine r_assign rfl rfl rfl (r_nil (q_then (c_seq (c_region ?_))))
 refine r_fieldAddr fa26_1 rfl rfl rfl ?_
 refine r_loadBA (cs' := [.int .i64 t1.Fee.Op, .int .i64 t1.Fee.N, vs t1.Fee.Name, .slice as1 ns1 cs1]) ag24 sz24 rfl rfl hx1 rfl (i := 0) rfl rfl rfl ?_
 obtain ⟨v1, hv1, hm⟩ := bind_some hm
 refine r_callG0 ent18 rfl rfl rfl rfl hx1 (ref35_Few_ok _ _ _ _ _ hv1 hx1.sat hs1) ?_
 rintro _ Fx1 _ wx2 hF1 hx2 ⟨rfl, rfl⟩
 refine r_move rfl rfl rfl ?_
 obtain ⟨v2, hb1, hm⟩ := bind_some hm
 refine r_mid 4 (fun a w' => ∃ (Fx2 : Frz), Frz.le Fx1 Fx2 ∧ HS F w [] Fx2 [.box b1 26 [vs t1.Name, .int .i64 t1.Fee.Op, .int .i64 t1.Fee.N, vs t1.Fee.Name, .slice as1 ns1 cs1, .int .i64 t1.Cap]] w' ∧ Has 17 a [(1, .pointer (some ⟨b1, 0, none⟩)), (10, .bool v2)]) ?_ ?_
 ·rintro a wx3 ⟨Fx2, hF2, hx3, hax1⟩
  refine rw_apply hax1 ?_
  refine r_move rfl rfl rfl ?_
  obtain ⟨v3, hb2, hm⟩ := bind_some hm
  refine r_mid 5 (fun a w' => wx3 = w' ∧ Has 17 a [(16, .bool v3)]) ?_ ?_
  ·rintro a wx4 ⟨rfl, hax2⟩
   refine rw_apply hax2 ?_
   refine r_assign rfl rfl rfl (r_nil (q_then (c_ret ?_)))
   refine b_ret1 rfl rfl ?_
   obtain rfl := Option.some.inj hm
   exact ⟨_, _, _, rfl, hx3.pick [] (by decide) rfl, rfl, rfl⟩
  ·clear hm
   rcases cond_some hb2 with ⟨hb3, hb2⟩ | ⟨hb3, hb2⟩
   ·refine r_lit 11 rfl hb3 ?_
    refine r_fieldAddr fa26_0 rfl rfl rfl ?_
    refine r_loadB1 ag9 rfl rfl hx3 rfl (i := 0) rfl rfl ?_
    refine r_slen u9 rfl rfl rfl ?_
    refine r_bin rfl rfl rfl rfl rfl ?_
    refine r_pick_true rfl rfl rfl rfl (r_nil ?_)
    refine q_next (fun a ha => ?_)
    cases hb2
    exact ⟨rfl, ha.cut (l := [16]) rfl⟩
   ·refine r_lit 11 rfl hb3 ?_
    refine r_off rfl (by decide) rfl (r_off rfl (by decide) rfl (r_off rfl (by decide) rfl (r_off rfl (by decide) rfl (r_pick_false rfl rfl rfl rfl (r_nil ?_)))))
    refine q_next (fun a ha => ?_)
    cases hb2
    exact ⟨rfl, ha.cut (l := [16]) rfl⟩
 ·clear hm
  rcases cond_some hb1 with ⟨hb4, hb1⟩ | ⟨hb4, hb1⟩
  ·refine r_lit 6 rfl hb4 ?_
   refine r_fieldAddr fa26_1 rfl rfl rfl ?_
   refine r_loadBA (cs' := [.int .i64 t1.Fee.Op, .int .i64 t1.Fee.N, vs t1.Fee.Name, .slice as1 ns1 cs1]) ag24 sz24 rfl rfl hx2 rfl (i := 0) rfl rfl rfl ?_
   obtain ⟨v4, hv2, hb1⟩ := bind_some hb1
   refine r_callG0 ent19 rfl rfl rfl rfl hx2 (law35_short_ok _ _ _ hv2 hx2.sat (hs1.mono hF1)) ?_
   rintro _ Fx3 _ wx5 hF3 hx4 ⟨rfl, rfl⟩
   refine r_pick_true rfl rfl rfl rfl (r_nil ?_)
   refine q_next (fun a ha => ?_)
   cases hb1
   exact ⟨_, hF3, hx4.pick [0] (by decide) rfl, ha.cut (l := [1, 10]) rfl⟩
  ·refine r_lit 6 rfl hb4 ?_
   refine r_off rfl (by decide) rfl (r_off rfl (by decide) rfl (r_off rfl (by decide) rfl (r_pick_false rfl rfl rfl rfl (r_nil ?_))))
   refine q_next (fun a ha => ?_)
   cases hb1
   exact ⟨_, Frz.refl _, hx2.pick [0] (by decide) rfl, ha.cut (l := [1, 10]) rfl⟩
end Go.Proofs.YtpihabofmnnbbaaGreatDoor.M

namespace Go.Proofs.YtpihabofmnnbbaaGreatDoor.Wrap
open Go Go.ChangeShapes Go.WideShapes Go.ChangeAt Go.RowKit Rt
theorem opens9 (W : World) : Opens Tryz.prog W 9 Rp.str (fun s => s.length ≤ maxLen) := opens_str Tryz.underlying9
theorem cells9 : Tryz.prog.cellsOf 9 = 1 := by kernel_rfl
theorem opens3 (W : World) : Opens Tryz.prog W 3 (Rp.int .i64) (fun z => IntKind.i64.min ≤ z ∧ z ≤ IntKind.i64.max) := opens_int Tryz.underlying3
theorem cells3 : Tryz.prog.cellsOf 3 = 1 := by kernel_rfl
theorem cells22 : Tryz.prog.cellsOf 22 = 1 := by kernel_rfl
theorem cells24 : Tryz.prog.cellsOf 24 = 4 := by kernel_rfl
inductive WfX : M.Expr → Prop
  | mk {o n : Int} {s : Rt.Bs} {l : List M.Expr} : (IntKind.i64.min ≤ o ∧ o ≤ IntKind.i64.max) → (IntKind.i64.min ≤ n ∧ n ≤ IntKind.i64.max) → s.length ≤ maxLen → l.length ≤ maxLen → (∀ y, y ∈ l → WfX y) → WfX ⟨o, n, s, l⟩
def ok24 (x : M.Expr) : Prop := WfX x
set_option maxRecDepth 100000 in
theorem opensX24 (W : World) {H : Type} (enc : TypeId × Value → H) : ∀ (fuel : Nat) (cs : List Value) (x : DataW H × List MemPlace), DataW.trod enc Tryz.prog W 0 (fun _ => true) true fuel 24 cs = some x → ∃ y, M.rp_Expr.R (all W) cs y ∧ WfX y := by
  intro fuel
  induction fuel using Nat.strongRecOn with
  | ind fuel ih =>
    intro cs x h
    obtain ⟨xs, n, hfu, _, hl, hn, hf⟩ := DataW.trod_struct Tryz.underlying24 h
    obtain ⟨y0, r0, o0⟩ := field_of hn hf (i := 0) rfl (opens3 W)
    obtain ⟨y1, r1, o1⟩ := field_of hn hf (i := 1) rfl (opens3 W)
    obtain ⟨y2, r2, o2⟩ := field_of hn hf (i := 2) rfl (opens9 W)
    have h3 : DataW.trod enc Tryz.prog W 0 (fun _ => true) true n 22 ((cs.drop 3).take (Tryz.prog.cellsOf 22)) = xs[3]? := hf 3 _ rfl
    have h3l : 3 < xs.length := by rw [hn]; decide
    rw [List.getElem?_eq_getElem h3l] at h3
    obtain ⟨l, ⟨a, m, c, e3', s3⟩, o3, o4⟩ := slice_at Tryz.underlying22 (r := M.rp_Expr) (ok := WfX) (by rw [cells24]; rfl) (by decide) h3 (fun j cs' x' hj hx => ih j (by omega) cs' x' hx)
    have e0 : (cs.drop 0).take (Tryz.prog.cellsOf 3) = [.int .i64 y0] := r0
    have e1 : (cs.drop 1).take (Tryz.prog.cellsOf 3) = [.int .i64 y1] := r1
    have e2 : (cs.drop 2).take (Tryz.prog.cellsOf 9) = [vs y2] := r2
    have e3 : (cs.drop 3).take (Tryz.prog.cellsOf 22) = [.slice a m c] := e3'
    rw [cells3] at e0 e1
    rw [cells9] at e2
    rw [cells22] at e3
    rw [cells24] at hl
    refine ⟨⟨y0, y1, y2, l⟩, M.expr_iff.2 ⟨a, m, c, ?_, s3⟩, WfX.mk o0 o1 o2 o3 o4⟩
    show cs = _
    have hd : cs.drop 4 = [] := List.drop_of_length_le (by omega)
    have h0 : cs = cs.drop 0 := (List.drop_zero).symm
    rw [h0]
    rw [show cs.drop 0 = (cs.drop 0).take 1 ++ cs.drop 1 from cut_step cs 0 1, e0]
    rw [show cs.drop 1 = (cs.drop 1).take 1 ++ cs.drop 2 from cut_step cs 1 1, e1]
    rw [show cs.drop 2 = (cs.drop 2).take 1 ++ cs.drop 3 from cut_step cs 2 1, e2]
    rw [show cs.drop 3 = (cs.drop 3).take 1 ++ cs.drop 4 from cut_step cs 3 1, e3]
    rw [hd]
    rfl
theorem opens24 (W : World) : Opens Tryz.prog W 24 M.rp_Expr ok24 := fun enc fuel cs x h => opensX24 W enc fuel cs x h
theorem cells26 : Tryz.prog.cellsOf 26 = 6 := by kernel_rfl
def ok26 (x : M.Tariff) : Prop := x.Name.length ≤ maxLen ∧ ok24 x.Fee ∧ (IntKind.i64.min ≤ x.Cap ∧ x.Cap ≤ IntKind.i64.max)
set_option maxRecDepth 100000 in
theorem opens26 (W : World) : Opens Tryz.prog W 26 M.rp_Tariff ok26 := by
  intro H enc fuel cs x h
  obtain ⟨xs, n, _, _, hl, hn, hf⟩ := DataW.trod_struct Tryz.underlying26 h
  obtain ⟨y0, r0, o0⟩ := field_of hn hf (i := 0) rfl (opens9 W)
  have e0' := r0
  have e0 : (cs.drop 0).take (Tryz.prog.cellsOf 9) = [vs y0] := e0'
  rw [cells9] at e0
  obtain ⟨y1, r1, o1⟩ := field_of hn hf (i := 1) rfl (opens24 W)
  obtain ⟨a1_3, n1_3, c1_3, e1', s1_3⟩ := (M.expr_iff.1 r1)
  have e1 : (cs.drop 1).take (Tryz.prog.cellsOf 24) = [.int .i64 y1.Op, .int .i64 y1.N, vs y1.Name, .slice a1_3 n1_3 c1_3] := e1'
  rw [cells24] at e1
  obtain ⟨y2, r2, o2⟩ := field_of hn hf (i := 2) rfl (opens3 W)
  have e2' := r2
  have e2 : (cs.drop 5).take (Tryz.prog.cellsOf 3) = [.int .i64 y2] := e2'
  rw [cells3] at e2
  rw [cells26] at hl
  refine ⟨⟨y0, y1, y2⟩, ⟨a1_3, n1_3, c1_3, ?_, s1_3⟩, o0, o1, o2⟩
  show cs = _
  have hd : cs.drop 6 = [] := List.drop_of_length_le (by omega)
  have h0 : cs = cs.drop 0 := (List.drop_zero).symm
  rw [h0]
  rw [show cs.drop 0 = (cs.drop 0).take 1 ++ cs.drop 1 from cut_step cs 0 1, e0]
  rw [show cs.drop 1 = (cs.drop 1).take 4 ++ cs.drop 5 from cut_step cs 1 4, e1]
  rw [show cs.drop 5 = (cs.drop 5).take 1 ++ cs.drop 6 from cut_step cs 5 1, e2]
  rw [hd]
  rfl
def ok27 (l : List Bs) : Prop := l.length ≤ maxLen ∧ ∀ x ∈ l, x.length ≤ maxLen
theorem opens27 (W : World) : Opens Tryz.prog W 27 (Rp.sl Rp.str) ok27 := opens_slice Tryz.underlying27 (r := Rp.str) (by rw [cells9]; rfl) (by decide) (opens9 W)
def tabs : List (String × DataW Unit) := [("math/bits.deBruijn32tab", Rows.laid_math_bits_deBruijn32tab), ("math/bits.deBruijn64tab", Rows.laid_math_bits_deBruijn64tab), ("internal/strconv.uint64pow10", Rows.laid_internal_strconv_uint64pow10), ("kerbside/lexer.signs", Rows.laid_kerbside_lexer_signs)]
theorem cells93 : Tryz.prog.cellsOf 93 = 13 := by kernel_rfl
theorem cells5 : Tryz.prog.cellsOf 5 = 1 := by kernel_rfl
theorem gTab0 : Tryz.prog.globalNamed "kerbside/lexer.signs" = some 0 := by kernel_rfl
theorem gTabType0 : (Tryz.prog.globals[0]?).map (·.type) = some 93 := by kernel_rfl
theorem table0 {W : World} (h : laidMetH Tryz.prog tabs W) : FX (all W) 0 [.int .u8 40, .int .u8 41, .int .u8 44, .int .u8 59, .int .u8 58, .int .u8 61, .int .u8 60, .int .u8 43, .int .u8 45, .int .u8 42, .int .u8 47, .int .u8 123, .int .u8 125] := by
  have h1 : laidMet Tryz.prog tabs W := h
  have h2 : laidMet Tryz.prog (("kerbside/lexer.signs", Lib.tabData .u8 [40, 41, 44, 59, 58, 61, 60, 43, 45, 42, 47, 123, 125]) :: _) W := h1.tail.tail.tail
  exact fx_of_var gTab0 (Lib.tabIs_of_head gTab0 gTabType0 Tryz.underlying93 Tryz.underlying5 cells5 cells93 h2)
theorem cells113 : Tryz.prog.cellsOf 113 = 20 := by kernel_rfl
theorem cells105 : Tryz.prog.cellsOf 105 = 1 := by kernel_rfl
theorem gTab1 : Tryz.prog.globalNamed "internal/strconv.uint64pow10" = some 1 := by kernel_rfl
theorem gTabType1 : (Tryz.prog.globals[1]?).map (·.type) = some 113 := by kernel_rfl
theorem table1 {W : World} (h : laidMetH Tryz.prog tabs W) : FX (all W) 1 (Lib.pow10Tab.map (Value.int .u64)) := by
  have h1 : laidMet Tryz.prog tabs W := h
  have h2 : laidMet Tryz.prog (("internal/strconv.uint64pow10", Lib.tabData .u64 [1, 10, 100, 1000, 10000, 100000, 1000000, 10000000, 100000000, 1000000000, 10000000000, 100000000000, 1000000000000, 10000000000000, 100000000000000, 1000000000000000, 10000000000000000, 100000000000000000, 1000000000000000000, 10000000000000000000]) :: _) W := h1.tail.tail
  exact fx_of_var gTab1 (Lib.tabIs_of_head gTab1 gTabType1 Tryz.underlying113 Tryz.underlying105 cells105 cells113 h2)
def laidCells : DataW Unit → List Value
  | .lit (.int k z) => [.int k z]
  | .agg xs => xs.flatMap fun | .lit (.int k z) => [.int k z] | .agg [.lit (.int k z), .lit (.int k' z')] => [.int k z, .int k' z'] | _ => []
  | _ => []
def putIn (h : Array Obj) (g : Nat) (d : DataW Unit) : Array Obj := h.modify g fun
  | .cells _ t frozen => .cells (laidCells d).toArray t frozen
  | o => o
noncomputable def laidWorld (os : Os) : World :=
  { World.holding Tryz.prog os ⟨#[], #[], []⟩ with heap := (putIn (putIn (putIn (putIn (World.holding Tryz.prog os ⟨#[], #[], []⟩).heap 2 Rows.laid_math_bits_deBruijn32tab) 3 Rows.laid_math_bits_deBruijn64tab) 1 Rows.laid_internal_strconv_uint64pow10) 0 Rows.laid_kerbside_lexer_signs) }
theorem laid_met (os : Os) (args : Array Value) : laidMet Tryz.prog tabs ((laidWorld os).forCall (fun _ _ => 0) ⟨#[], args, []⟩).memory :=
  laidMet_of_run' 8 (by kernel_rfl) (by kernel_rfl)
end Go.Proofs.YtpihabofmnnbbaaGreatDoor.Wrap

namespace Go.Proofs.YtpihabofmnnbbaaGreatDoor.M
open Go Go.RowKit Rt
def ref06_Escaped (_n : Nat) (_s : Rt.Bs) : Option Rt.Bs := none
theorem ref06_Escaped_ok (n : Nat) (s : Rt.Bs) (r : Rt.Bs) (hm : ref06_Escaped n s = some r) {w : World} {F : Frz} (_hs : Sat F w) :
    Calls Tryz.prog 68 #[vs s] w fun e w' => ∃ v F' O', e = .returned v ∧ HS F w [] F' O' w' ∧ (v = vs r ∧ O' = []) := by
  unfold ref06_Escaped at hm
  cases hm
end Go.Proofs.YtpihabofmnnbbaaGreatDoor.M

namespace Go.Proofs.YtpihabofmnnbbaaGreatDoor.M
open Go Go.RowKit Rt
theorem ent7 : Ent Tryz.prog 7 := fun _ _ => by kernel_rfl
theorem ent17 : Ent Tryz.prog 17 := fun _ _ => by kernel_rfl
theorem ent16 : Ent Tryz.prog 16 := fun _ _ => by kernel_rfl
theorem ent9 : Ent Tryz.prog 9 := fun _ _ => by kernel_rfl
theorem ent11 : Ent Tryz.prog 11 := fun _ _ => by kernel_rfl
theorem ent14 : Ent Tryz.prog 14 := fun _ _ => by kernel_rfl
theorem ent13 : Ent Tryz.prog 13 := fun _ _ => by kernel_rfl
def law35_small (n : Nat)  : Option Bool :=
 (tariff_Parse n [116, 97, 114, 105, 102, 102, 32, 116, 111, 119, 110, 32, 123, 32, 102, 101, 101, 32, 61, 32, 51, 48, 48, 32, 43, 32, 40, 50, 32, 42, 32, 108, 105, 102, 116, 115, 40, 112, 97, 112, 101, 114, 41, 41, 32, 59, 32, 99, 97, 112, 32, 61, 32, 57, 48, 48, 48, 32, 59, 32, 125]).bind fun v1 =>
 (law35_leaf n 0 300 []).bind fun v2 =>
 (law35_leaf n 0 2 []).bind fun v3 =>
 (law35_leaf n 1 0 [112, 97, 112, 101, 114]).bind fun v4 =>
 (law35_two n 7 v3 v4).bind fun v5 =>
 (law35_two n 5 v2 v5).bind fun v6 =>
 (tariff_Print n (⟨[116, 111, 119, 110], v6, 9000⟩ : Tariff)).bind fun v7 =>
 (tariff_Parse n [116, 97, 114, 105, 102, 102, 32, 97, 32, 123, 32, 102, 101, 101, 32, 61, 32, 49, 32, 43, 32, 50, 32, 43, 32, 51, 32, 59, 32, 125]).bind fun v8 =>
 (law35_leaf n 4 0 [112, 97, 112, 101, 114]).bind fun v9 =>
 (law35_leaf n 4 0 [103, 108, 97, 115, 115]).bind fun v10 =>
 (law35_leaf n 0 0 []).bind fun v11 =>
 (law35_two n 8 v9 v11).bind fun v12 =>
 (tariff_Type n v12 [[112, 97, 112, 101, 114], [103, 108, 97, 115, 115]]).bind fun v13 =>
 (law35_two n 7 v9 v10).bind fun v14 =>
 (tariff_Type n v14 [[112, 97, 112, 101, 114], [103, 108, 97, 115, 115]]).bind fun v15 =>
 (law35_leaf n 0 5 []).bind fun v16 =>
 (law35_two n 12 v9 v16).bind fun v17 =>
 (tariff_Type n v17 [[112, 97, 112, 101, 114], [103, 108, 97, 115, 115]]).bind fun v18 =>
 (law35_leaf n 2 0 []).bind fun v19 =>
 (law35_two n 9 v19 v10).bind fun v20 =>
 (tariff_Type n v20 [[112, 97, 112, 101, 114], [103, 108, 97, 115, 115]]).bind fun v21 =>
 (bif v1.2.2 == 0 then
  some (v1.2.1 == 0)
 else
  some false).bind fun v22 =>
 (bif v22 then
  (ref35_SameTariff n v1.1 (⟨[116, 111, 119, 110], v6, 9000⟩ : Tariff)).bind fun v35 =>
  some v35
 else
  some false).bind fun v23 =>
 (bif v23 then
  some v7.2
 else
  some false).bind fun v24 =>
 (bif v24 then
  some (v7.1 == [116, 97, 114, 105, 102, 102, 32, 116, 111, 119, 110, 32, 123, 32, 102, 101, 101, 32, 61, 32, 51, 48, 48, 32, 43, 32, 40, 32, 50, 32, 42, 32, 108, 105, 102, 116, 115, 32, 40, 32, 112, 97, 112, 101, 114, 32, 41, 32, 41, 32, 59, 32, 99, 97, 112, 32, 61, 32, 57, 48, 48, 48, 32, 59, 32, 125])
 else
  some false).bind fun v25 =>
 (bif v25 then
  some (v8.2.2 == 12)
 else
  some false).bind fun v26 =>
 (bif v26 then
  some (v8.2.1 == 23)
 else
  some false).bind fun v27 =>
 (bif v27 then
  some (v13.2 == 14)
 else
  some false).bind fun v28 =>
 (bif v28 then
  some (v15.2 == 13)
 else
  some false).bind fun v29 =>
 (bif v29 then
  some (v18.2 == 13)
 else
  some false).bind fun v30 =>
 (bif v30 then
  some (v21.2 == 0)
 else
  some false).bind fun v31 =>
 (bif v31 then
  some (v21.1 == 2)
 else
  some false).bind fun v32 =>
 (bif v32 then
  (tariff_Check n (⟨[116, 111, 119, 110], v6, 9000⟩ : Tariff) [[112, 97, 112, 101, 114], [103, 108, 97, 115, 115]]).bind fun v34 =>
  some (v34 == 0)
 else
  some false).bind fun v33 =>
 some v33
set_option maxHeartbeats 1000000 in
set_option maxRecDepth 1000000 in
theorem law35_small_ok (n : Nat)  (r : Bool) (hm : law35_small n  = some r) {w : World} {F : Frz} (hs : Sat F w) (hg0 : FX F 0 [.int .u8 40, .int .u8 41, .int .u8 44, .int .u8 59, .int .u8 58, .int .u8 61, .int .u8 60, .int .u8 43, .int .u8 45, .int .u8 42, .int .u8 47, .int .u8 123, .int .u8 125]) (hg1 : FX F 1 (Lib.pow10Tab.map (Value.int .u64))) :
  Calls Tryz.prog 4 #[] w fun e w' => ∃ v F' O', e = .returned v ∧ HS F w [] F' O' w' ∧ (v = .bool r ∧ O' = []) := by
 unfold law35_small at hm
 have h := HS.init hs
 refine calls_of 131 Tryz.func4 rfl rfl rfl ?_
 refine c_seq (c_region (r_assign rfl rfl rfl (r_nil (q_then (c_seq (c_region ?_))))))
 refine r_buildSlice (e := 9) (cs := [vs [112, 97, 112, 101, 114], vs [103, 108, 97, 115, 115]]) (q := 1) rfl rfl h rfl (fun _ => by kernel_rfl) rfl rfl ?_
 intro b1 wx1 hx1
 refine r_assign rfl rfl rfl (r_nil (q_then (c_seq (c_region ?_))))
 obtain ⟨v1, hv1, hm⟩ := bind_some hm
 refine r_callG0 ent7 rfl rfl rfl rfl hx1 (tariff_Parse_ok _ _ _ hv1 hx1.sat hg0) ?_
 rintro _ Fx1 _ wx2 hF1 hx2 ⟨as1, ns1, cs1, rfl, rfl, hs1⟩
 refine r_move rfl rfl rfl (r_extract rfl rfl rfl rfl (r_extract rfl rfl rfl rfl (r_extract rfl rfl rfl rfl ?_)))
 refine r_alloc ze26 rfl rfl rfl hx2 ?_
 intro b2 wx3 hx3
 refine r_store sz26 rfl hx3 rfl rfl rfl rfl (i := 0) rfl rfl rfl rfl ?_
 intro wx4 hx4
 refine r_assign rfl rfl rfl (r_assign rfl rfl rfl (r_nil (q_then (c_seq (c_region ?_)))))
 obtain ⟨v2, hv2, hm⟩ := bind_some hm
 refine r_callG0 ent17 rfl rfl rfl rfl hx4 (law35_leaf_ok _ _ _ _ _ hv2 hx4.sat) ?_
 rintro _ Fx2 _ wx5 hF2 hx5 ⟨as2, ns2, cs2, rfl, rfl, hs2⟩
 obtain ⟨v3, hv3, hm⟩ := bind_some hm
 refine r_callG0 ent17 rfl rfl rfl rfl hx5 (law35_leaf_ok _ _ _ _ _ hv3 hx5.sat) ?_
 rintro _ Fx3 _ wx6 hF3 hx6 ⟨as3, ns3, cs3, rfl, rfl, hs3⟩
 obtain ⟨v4, hv4, hm⟩ := bind_some hm
 refine r_callG0 ent17 rfl rfl rfl rfl hx6 (law35_leaf_ok _ _ _ _ _ hv4 hx6.sat) ?_
 rintro _ Fx4 _ wx7 hF4 hx7 ⟨as4, ns4, cs4, rfl, rfl, hs4⟩
 obtain ⟨v5, hv5, hm⟩ := bind_some hm
 refine r_callG0 ent16 rfl rfl rfl rfl hx7 (law35_two_ok _ _ _ _ _ hv5 hx7.sat (hs3.mono hF4) hs4) ?_
 rintro _ Fx5 _ wx8 hF5 hx8 ⟨as5, ns5, cs5, rfl, rfl, hs5⟩
 obtain ⟨v6, hv6, hm⟩ := bind_some hm
 refine r_callG0 ent16 rfl rfl rfl rfl hx8 (law35_two_ok _ _ _ _ _ hv6 hx8.sat (((hs2.mono hF3).mono hF4).mono hF5) hs5) ?_
 rintro _ Fx6 _ wx9 hF6 hx9 ⟨as6, ns6, cs6, rfl, rfl, hs6⟩
 refine r_build (v := .agg #[vs [116, 111, 119, 110], .int .i64 v6.Op, .int .i64 v6.N, vs v6.Name, .slice as6 ns6 cs6, .int .i64 9000]) rfl rfl rfl (fun _ => by kernel_rfl) ?_
 refine r_alloc ze26 rfl rfl rfl hx9 ?_
 intro b3 wx10 hx10
 refine r_store sz26 rfl hx10 rfl rfl rfl rfl (i := 0) rfl rfl rfl rfl ?_
 intro wx11 hx11
 refine r_nil (q_then (c_seq (c_region ?_)))
 refine r_loadBW ag26 sz26 rfl rfl hx11 rfl (i := 0) rfl rfl ?_
 have hG1 := ((((hF1.trans hF2).trans hF3).trans hF4).trans hF5).trans hF6
 obtain ⟨v7, hv7, hm⟩ := bind_some hm
 refine r_callG0 ent9 rfl rfl rfl rfl hx11 (tariff_Print_ok _ _ _ hv7 hx11.sat hs6 (hg1.mono hG1)) ?_
 rintro _ Fx7 _ wx12 hF7 hx12 ⟨rfl, rfl⟩
 refine r_move rfl rfl rfl (r_extract rfl rfl rfl rfl (r_extract rfl rfl rfl rfl (r_assign rfl rfl rfl (r_assign rfl rfl rfl (r_nil (q_then (c_seq (c_region ?_))))))))
 obtain ⟨v8, hv8, hm⟩ := bind_some hm
 refine r_callG0 ent7 rfl rfl rfl rfl hx12 (tariff_Parse_ok _ _ _ hv8 hx12.sat ((hg0.mono hG1).mono hF7)) ?_
 rintro _ Fx8 _ wx13 hF8 hx13 ⟨as7, ns7, cs7, rfl, rfl, hs7⟩
 refine r_move rfl rfl rfl (r_extract rfl rfl rfl rfl (r_extract rfl rfl rfl rfl (r_extract rfl rfl rfl rfl ?_)))
 refine r_alloc ze26 rfl rfl rfl hx13 ?_
 intro b4 wx14 hx14
 refine r_store sz26 rfl hx14 rfl rfl rfl rfl (i := 0) rfl rfl rfl rfl ?_
 intro wx15 hx15
 refine r_assign rfl rfl rfl (r_assign rfl rfl rfl (r_nil (q_then (c_seq (c_region ?_)))))
 obtain ⟨v9, hv9, hm⟩ := bind_some hm
 refine r_callG0 ent17 rfl rfl rfl rfl hx15 (law35_leaf_ok _ _ _ _ _ hv9 hx15.sat) ?_
 rintro _ Fx9 _ wx16 hF9 hx16 ⟨as8, ns8, cs8, rfl, rfl, hs8⟩
 refine r_alloc ze24 rfl rfl rfl hx16 ?_
 intro b5 wx17 hx17
 refine r_store sz24 rfl hx17 rfl rfl rfl rfl (i := 0) rfl rfl rfl rfl ?_
 intro wx18 hx18
 refine r_nil (q_then (c_seq (c_region ?_)))
 obtain ⟨v10, hv10, hm⟩ := bind_some hm
 refine r_callG0 ent17 rfl rfl rfl rfl hx18 (law35_leaf_ok _ _ _ _ _ hv10 hx18.sat) ?_
 rintro _ Fx10 _ wx19 hF10 hx19 ⟨as9, ns9, cs9, rfl, rfl, hs9⟩
 refine r_alloc ze24 rfl rfl rfl hx19 ?_
 intro b6 wx20 hx20
 refine r_store sz24 rfl hx20 rfl rfl rfl rfl (i := 0) rfl rfl rfl rfl ?_
 intro wx21 hx21
 refine r_nil (q_then (c_seq ?_))
 refine c_regionH (SH Fx10 [.box b6 24 [.int .i64 v10.Op, .int .i64 v10.N, vs v10.Name, .slice as9 ns9 cs9], .box b5 24 [.int .i64 v9.Op, .int .i64 v9.N, vs v9.Name, .slice as8 ns8 cs8], .box b4 26 [vs v8.1.Name, .int .i64 v8.1.Fee.Op, .int .i64 v8.1.Fee.N, vs v8.1.Fee.Name, .slice as7 ns7 cs7, .int .i64 v8.1.Cap], .box b3 26 [vs [116, 111, 119, 110], .int .i64 v6.Op, .int .i64 v6.N, vs v6.Name, .slice as6 ns6 cs6, .int .i64 9000], .box b2 26 [vs v1.1.Name, .int .i64 v1.1.Fee.Op, .int .i64 v1.1.Fee.N, vs v1.1.Fee.Name, .slice as1 ns1 cs1, .int .i64 v1.1.Cap]]) 10 rfl (by kernel_rfl) hx21 ?_
 intro wx22 hx22
 refine d_tk 0 rfl (by kernel_rfl) rfl rfl rfl rfl (hx22.sh (Frz.refl _) [0, 1, 2, 3, 4] (by decide) rfl) (fun _ _ _ _ hq => r_loadBW ag24 sz24 rfl rfl hq rfl (i := 1) rfl rfl (r_nil (qq rfl))) ?_
 refine d_tk 3 rfl (by kernel_rfl) rfl rfl rfl rfl (hx22.sh (Frz.refl _) [0, 1, 2, 3, 4] (by decide) rfl) (fun _ _ _ _ _ => r_move rfl rfl rfl (r_nil (qq rfl))) ?_
 refine d_step 1 rfl (by kernel_rfl) ?_
 obtain ⟨v11, hv11, hm⟩ := bind_some hm
 refine r_callG0 ent17 rfl rfl rfl rfl hx22 (law35_leaf_ok _ _ _ _ _ hv11 hx22.sat) ?_
 rintro _ Fx11 _ wx23 hF11 hx23 ⟨as10, ns10, cs10, rfl, rfl, hs10⟩
 refine d_next (hx23.sh hF11 [0, 1, 2, 3, 4] (by decide) rfl) ?_
 refine d_step 2 rfl (by kernel_rfl) ?_
 obtain ⟨v12, hv12, hm⟩ := bind_some hm
 refine r_callG0 ent16 rfl rfl rfl rfl hx23 (law35_two_ok _ _ _ _ _ hv12 hx23.sat ((hs8.mono hF10).mono hF11) hs10) ?_
 rintro _ Fx12 _ wx24 hF12 hx24 ⟨as11, ns11, cs11, rfl, rfl, hs11⟩
 refine d_next (hx24.sh (hF11.trans hF12) [0, 1, 2, 3, 4] (by decide) rfl) ?_
 refine d_step 4 rfl (by kernel_rfl) ?_
 obtain ⟨Fx13, hF13, hx25, hsx1⟩ := freezeRow hx24 (i := 5) rfl ((((((((show RowN Rp.str F 2 [vs [112, 97, 112, 101, 114], vs [103, 108, 97, 115, 115]] [[112, 97, 112, 101, 114], [103, 108, 97, 115, 115]] from ⟨rfl, ⟨_, _, rfl, rfl, ⟨_, _, rfl, rfl, (rfl : RowR Rp.str _ [] [])⟩⟩⟩).mono hG1).mono hF7).mono hF8).mono hF9).mono hF10).mono hF11).mono hF12)
 obtain ⟨v13, hv13, hm⟩ := bind_some hm
 refine r_callG0 ent11 rfl rfl rfl rfl hx25 (tariff_Type_ok _ _ _ _ hv13 hx25.sat (hs11.mono hF13) hsx1) ?_
 rintro _ Fx14 _ wx25 hF14 hx26 ⟨rfl, rfl⟩
 refine d_next (hx26.sh (((hF11.trans hF12).trans hF13).trans hF14) [0, 1, 2, 3, 4] (by decide) rfl) ?_
 refine d_tk 5 rfl (by kernel_rfl) rfl rfl rfl rfl (hx26.sh (((hF11.trans hF12).trans hF13).trans hF14) [0, 1, 2, 3, 4] (by decide) rfl) (fun _ _ _ _ _ => r_move rfl rfl rfl (r_nil (qq rfl))) ?_
 refine d_tk 6 rfl (by kernel_rfl) rfl rfl rfl rfl (hx26.sh (((hF11.trans hF12).trans hF13).trans hF14) [0, 1, 2, 3, 4] (by decide) rfl) (fun _ _ _ _ _ => r_extract rfl rfl rfl rfl (r_nil (qq rfl))) ?_
 refine d_tk 7 rfl (by kernel_rfl) rfl rfl rfl rfl (hx26.sh (((hF11.trans hF12).trans hF13).trans hF14) [0, 1, 2, 3, 4] (by decide) rfl) (fun _ _ _ _ _ => r_extract rfl rfl rfl rfl (r_nil (qq rfl))) ?_
 refine d_tk 8 rfl (by kernel_rfl) rfl rfl rfl rfl (hx26.sh (((hF11.trans hF12).trans hF13).trans hF14) [0, 1, 2, 3, 4] (by decide) rfl) (fun _ _ _ _ _ => r_assign rfl rfl rfl (r_nil (qq rfl))) ?_
 refine d_tk 9 rfl (by kernel_rfl) rfl rfl rfl rfl (hx26.sh (((hF11.trans hF12).trans hF13).trans hF14) [0, 1, 2, 3, 4] (by decide) rfl) (fun _ _ _ _ _ => r_assign rfl rfl rfl (r_nil (qq rfl))) ?_
 refine d_done (by kernel_rfl) ?_
 refine q_then (c_seq (c_region ?_))
 refine r_loadBW ag24 sz24 rfl rfl hx26 rfl (i := 1) rfl rfl ?_
 refine r_loadBW ag24 sz24 rfl rfl hx26 rfl (i := 0) rfl rfl ?_
 have hG2 := (((hF10.trans hF11).trans hF12).trans hF13).trans hF14
 have hG3 := ((hF11.trans hF12).trans hF13).trans hF14
 obtain ⟨v14, hv14, hm⟩ := bind_some hm
 refine r_callG0 ent16 rfl rfl rfl rfl hx26 (law35_two_ok _ _ _ _ _ hv14 hx26.sat (hs8.mono hG2) (hs9.mono hG3)) ?_
 rintro _ Fx15 _ wx26 hF15 hx27 ⟨as12, ns12, cs12, rfl, rfl, hs12⟩
 refine r_move rfl rfl rfl ?_
 obtain ⟨v15, hv15, hm⟩ := bind_some hm
 refine r_callG0 ent11 rfl rfl rfl rfl hx27 (tariff_Type_ok _ _ _ _ hv15 hx27.sat hs12 ((hsx1.mono hF14).mono hF15)) ?_
 rintro _ Fx16 _ wx27 hF16 hx28 ⟨rfl, rfl⟩
 refine r_move rfl rfl rfl (r_extract rfl rfl rfl rfl (r_extract rfl rfl rfl rfl (r_assign rfl rfl rfl (r_assign rfl rfl rfl (r_nil (q_then (c_seq ?_)))))))
 refine c_regionH (SH Fx16 [.box b6 24 [.int .i64 v10.Op, .int .i64 v10.N, vs v10.Name, .slice as9 ns9 cs9], .box b5 24 [.int .i64 v9.Op, .int .i64 v9.N, vs v9.Name, .slice as8 ns8 cs8], .box b4 26 [vs v8.1.Name, .int .i64 v8.1.Fee.Op, .int .i64 v8.1.Fee.N, vs v8.1.Fee.Name, .slice as7 ns7 cs7, .int .i64 v8.1.Cap], .box b3 26 [vs [116, 111, 119, 110], .int .i64 v6.Op, .int .i64 v6.N, vs v6.Name, .slice as6 ns6 cs6, .int .i64 9000], .box b2 26 [vs v1.1.Name, .int .i64 v1.1.Fee.Op, .int .i64 v1.1.Fee.N, vs v1.1.Fee.Name, .slice as1 ns1 cs1, .int .i64 v1.1.Cap]]) 10 rfl (by kernel_rfl) hx28 ?_
 intro wx28 hx29
 refine d_tk 0 rfl (by kernel_rfl) rfl rfl rfl rfl (hx29.sh (Frz.refl _) [0, 1, 2, 3, 4] (by decide) rfl) (fun _ _ _ _ hq => r_loadBW ag24 sz24 rfl rfl hq rfl (i := 1) rfl rfl (r_nil (qq rfl))) ?_
 refine d_tk 3 rfl (by kernel_rfl) rfl rfl rfl rfl (hx29.sh (Frz.refl _) [0, 1, 2, 3, 4] (by decide) rfl) (fun _ _ _ _ _ => r_move rfl rfl rfl (r_nil (qq rfl))) ?_
 refine d_step 1 rfl (by kernel_rfl) ?_
 obtain ⟨v16, hv16, hm⟩ := bind_some hm
 refine r_callG0 ent17 rfl rfl rfl rfl hx29 (law35_leaf_ok _ _ _ _ _ hv16 hx29.sat) ?_
 rintro _ Fx17 _ wx29 hF17 hx30 ⟨as13, ns13, cs13, rfl, rfl, hs13⟩
 refine d_next (hx30.sh hF17 [0, 1, 2, 3, 4] (by decide) rfl) ?_
 refine d_step 2 rfl (by kernel_rfl) ?_
 obtain ⟨v17, hv17, hm⟩ := bind_some hm
 refine r_callG0 ent16 rfl rfl rfl rfl hx30 (law35_two_ok _ _ _ _ _ hv17 hx30.sat ((((hs8.mono hG2).mono hF15).mono hF16).mono hF17) hs13) ?_
 rintro _ Fx18 _ wx30 hF18 hx31 ⟨as14, ns14, cs14, rfl, rfl, hs14⟩
 refine d_next (hx31.sh (hF17.trans hF18) [0, 1, 2, 3, 4] (by decide) rfl) ?_
 refine d_step 4 rfl (by kernel_rfl) ?_
 have hG4 := (((hF14.trans hF15).trans hF16).trans hF17).trans hF18
 obtain ⟨v18, hv18, hm⟩ := bind_some hm
 refine r_callG0 ent11 rfl rfl rfl rfl hx31 (tariff_Type_ok _ _ _ _ hv18 hx31.sat hs14 (hsx1.mono hG4)) ?_
 rintro _ Fx19 _ wx31 hF19 hx32 ⟨rfl, rfl⟩
 refine d_next (hx32.sh ((hF17.trans hF18).trans hF19) [0, 1, 2, 3, 4] (by decide) rfl) ?_
 refine d_tk 5 rfl (by kernel_rfl) rfl rfl rfl rfl (hx32.sh ((hF17.trans hF18).trans hF19) [0, 1, 2, 3, 4] (by decide) rfl) (fun _ _ _ _ _ => r_move rfl rfl rfl (r_nil (qq rfl))) ?_
 refine d_tk 6 rfl (by kernel_rfl) rfl rfl rfl rfl (hx32.sh ((hF17.trans hF18).trans hF19) [0, 1, 2, 3, 4] (by decide) rfl) (fun _ _ _ _ _ => r_extract rfl rfl rfl rfl (r_nil (qq rfl))) ?_
 refine d_tk 7 rfl (by kernel_rfl) rfl rfl rfl rfl (hx32.sh ((hF17.trans hF18).trans hF19) [0, 1, 2, 3, 4] (by decide) rfl) (fun _ _ _ _ _ => r_extract rfl rfl rfl rfl (r_nil (qq rfl))) ?_
 refine d_tk 8 rfl (by kernel_rfl) rfl rfl rfl rfl (hx32.sh ((hF17.trans hF18).trans hF19) [0, 1, 2, 3, 4] (by decide) rfl) (fun _ _ _ _ _ => r_assign rfl rfl rfl (r_nil (qq rfl))) ?_
 refine d_tk 9 rfl (by kernel_rfl) rfl rfl rfl rfl (hx32.sh ((hF17.trans hF18).trans hF19) [0, 1, 2, 3, 4] (by decide) rfl) (fun _ _ _ _ _ => r_assign rfl rfl rfl (r_nil (qq rfl))) ?_
 refine d_done (by kernel_rfl) ?_
 refine q_then (c_seq ?_)
 refine c_regionH (SH Fx19 [.box b6 24 [.int .i64 v10.Op, .int .i64 v10.N, vs v10.Name, .slice as9 ns9 cs9], .box b5 24 [.int .i64 v9.Op, .int .i64 v9.N, vs v9.Name, .slice as8 ns8 cs8], .box b4 26 [vs v8.1.Name, .int .i64 v8.1.Fee.Op, .int .i64 v8.1.Fee.N, vs v8.1.Fee.Name, .slice as7 ns7 cs7, .int .i64 v8.1.Cap], .box b3 26 [vs [116, 111, 119, 110], .int .i64 v6.Op, .int .i64 v6.N, vs v6.Name, .slice as6 ns6 cs6, .int .i64 9000], .box b2 26 [vs v1.1.Name, .int .i64 v1.1.Fee.Op, .int .i64 v1.1.Fee.N, vs v1.1.Fee.Name, .slice as1 ns1 cs1, .int .i64 v1.1.Cap]]) 10 rfl (by kernel_rfl) hx32 ?_
 intro wx32 hx33
 refine d_tk 1 rfl (by kernel_rfl) rfl rfl rfl rfl (hx33.sh (Frz.refl _) [0, 1, 2, 3, 4] (by decide) rfl) (fun _ _ _ _ hq => r_loadBW ag24 sz24 rfl rfl hq rfl (i := 0) rfl rfl (r_nil (qq rfl))) ?_
 refine d_tk 3 rfl (by kernel_rfl) rfl rfl rfl rfl (hx33.sh (Frz.refl _) [0, 1, 2, 3, 4] (by decide) rfl) (fun _ _ _ _ _ => r_move rfl rfl rfl (r_nil (qq rfl))) ?_
 refine d_step 0 rfl (by kernel_rfl) ?_
 obtain ⟨v19, hv19, hm⟩ := bind_some hm
 refine r_callG0 ent17 rfl rfl rfl rfl hx33 (law35_leaf_ok _ _ _ _ _ hv19 hx33.sat) ?_
 rintro _ Fx20 _ wx33 hF20 hx34 ⟨as15, ns15, cs15, rfl, rfl, hs15⟩
 refine d_next (hx34.sh hF20 [0, 1, 2, 3, 4] (by decide) rfl) ?_
 refine d_step 2 rfl (by kernel_rfl) ?_
 have hG5 := (((((hG3.trans hF15).trans hF16).trans hF17).trans hF18).trans hF19).trans hF20
 obtain ⟨v20, hv20, hm⟩ := bind_some hm
 refine r_callG0 ent16 rfl rfl rfl rfl hx34 (law35_two_ok _ _ _ _ _ hv20 hx34.sat hs15 (hs9.mono hG5)) ?_
 rintro _ Fx21 _ wx34 hF21 hx35 ⟨as16, ns16, cs16, rfl, rfl, hs16⟩
 refine d_next (hx35.sh (hF20.trans hF21) [0, 1, 2, 3, 4] (by decide) rfl) ?_
 refine d_step 4 rfl (by kernel_rfl) ?_
 obtain ⟨v21, hv21, hm⟩ := bind_some hm
 refine r_callG0 ent11 rfl rfl rfl rfl hx35 (tariff_Type_ok _ _ _ _ hv21 hx35.sat hs16 ((((hsx1.mono hG4).mono hF19).mono hF20).mono hF21)) ?_
 rintro _ Fx22 _ wx35 hF22 hx36 ⟨rfl, rfl⟩
 refine d_next (hx36.sh ((hF20.trans hF21).trans hF22) [0, 1, 2, 3, 4] (by decide) rfl) ?_
 refine d_tk 5 rfl (by kernel_rfl) rfl rfl rfl rfl (hx36.sh ((hF20.trans hF21).trans hF22) [0, 1, 2, 3, 4] (by decide) rfl) (fun _ _ _ _ _ => r_move rfl rfl rfl (r_nil (qq rfl))) ?_
 refine d_tk 6 rfl (by kernel_rfl) rfl rfl rfl rfl (hx36.sh ((hF20.trans hF21).trans hF22) [0, 1, 2, 3, 4] (by decide) rfl) (fun _ _ _ _ _ => r_extract rfl rfl rfl rfl (r_nil (qq rfl))) ?_
 refine d_tk 7 rfl (by kernel_rfl) rfl rfl rfl rfl (hx36.sh ((hF20.trans hF21).trans hF22) [0, 1, 2, 3, 4] (by decide) rfl) (fun _ _ _ _ _ => r_extract rfl rfl rfl rfl (r_nil (qq rfl))) ?_
 refine d_tk 8 rfl (by kernel_rfl) rfl rfl rfl rfl (hx36.sh ((hF20.trans hF21).trans hF22) [0, 1, 2, 3, 4] (by decide) rfl) (fun _ _ _ _ _ => r_assign rfl rfl rfl (r_nil (qq rfl))) ?_
 refine d_tk 9 rfl (by kernel_rfl) rfl rfl rfl rfl (hx36.sh ((hF20.trans hF21).trans hF22) [0, 1, 2, 3, 4] (by decide) rfl) (fun _ _ _ _ _ => r_assign rfl rfl rfl (r_nil (qq rfl))) ?_
 refine d_done (by kernel_rfl) ?_
 refine q_then (c_seq (c_region (r_move rfl rfl rfl ?_)))
 refine r_bin rfl rfl rfl rfl rfl ?_
 refine r_move rfl rfl rfl ?_
 obtain ⟨v22, hb1, hm⟩ := bind_some hm
 refine r_mid 3 (fun a w' => wx35 = w' ∧ Has 131 a [(1, .slice (some ⟨b1, 0, none⟩) 2 2), (2, .pointer (some ⟨b2, 0, none⟩)), (5, .pointer (some ⟨b3, 0, none⟩)), (6, vs v7.1), (7, .bool v7.2), (9, .int .i64 v8.2.1), (10, .int .i64 v8.2.2), (14, .int .i64 v13.2), (16, .int .i64 v15.2), (18, .int .i64 v18.2), (19, .int .i64 v21.1), (20, .int .i64 v21.2), (83, .bool v22)]) ?_ ?_
 ·rintro a wx36 ⟨rfl, hax1⟩
  refine rw_apply hax1 ?_
  refine r_move rfl rfl rfl ?_
  obtain ⟨v23, hb2, hm⟩ := bind_some hm
  refine r_mid 4 (fun a w' => ∃ (Fx23 : Frz), Frz.le Fx22 Fx23 ∧ HS F w [] Fx23 [.box b6 24 [.int .i64 v10.Op, .int .i64 v10.N, vs v10.Name, .slice as9 ns9 cs9], .box b5 24 [.int .i64 v9.Op, .int .i64 v9.N, vs v9.Name, .slice as8 ns8 cs8], .box b4 26 [vs v8.1.Name, .int .i64 v8.1.Fee.Op, .int .i64 v8.1.Fee.N, vs v8.1.Fee.Name, .slice as7 ns7 cs7, .int .i64 v8.1.Cap], .box b3 26 [vs [116, 111, 119, 110], .int .i64 v6.Op, .int .i64 v6.N, vs v6.Name, .slice as6 ns6 cs6, .int .i64 9000], .box b2 26 [vs v1.1.Name, .int .i64 v1.1.Fee.Op, .int .i64 v1.1.Fee.N, vs v1.1.Fee.Name, .slice as1 ns1 cs1, .int .i64 v1.1.Cap]] w' ∧ Has 131 a [(1, .slice (some ⟨b1, 0, none⟩) 2 2), (5, .pointer (some ⟨b3, 0, none⟩)), (6, vs v7.1), (7, .bool v7.2), (9, .int .i64 v8.2.1), (10, .int .i64 v8.2.2), (14, .int .i64 v13.2), (16, .int .i64 v15.2), (18, .int .i64 v18.2), (19, .int .i64 v21.1), (20, .int .i64 v21.2), (88, .bool v23)]) ?_ ?_
  ·rintro a wx37 ⟨Fx23, hF23, hx37, hax2⟩
   refine rw_apply hax2 ?_
   refine r_move rfl rfl rfl ?_
   obtain ⟨v24, hb3, hm⟩ := bind_some hm
   refine r_mid 2 (fun a w' => wx37 = w' ∧ Has 131 a [(1, .slice (some ⟨b1, 0, none⟩) 2 2), (5, .pointer (some ⟨b3, 0, none⟩)), (6, vs v7.1), (9, .int .i64 v8.2.1), (10, .int .i64 v8.2.2), (14, .int .i64 v13.2), (16, .int .i64 v15.2), (18, .int .i64 v18.2), (19, .int .i64 v21.1), (20, .int .i64 v21.2), (91, .bool v24)]) ?_ ?_
   ·rintro a wx38 ⟨rfl, hax3⟩
    refine rw_apply hax3 ?_
    refine r_move rfl rfl rfl ?_
    obtain ⟨v25, hb4, hm⟩ := bind_some hm
    refine r_mid 3 (fun a w' => wx37 = w' ∧ Has 131 a [(1, .slice (some ⟨b1, 0, none⟩) 2 2), (5, .pointer (some ⟨b3, 0, none⟩)), (9, .int .i64 v8.2.1), (10, .int .i64 v8.2.2), (14, .int .i64 v13.2), (16, .int .i64 v15.2), (18, .int .i64 v18.2), (19, .int .i64 v21.1), (20, .int .i64 v21.2), (95, .bool v25)]) ?_ ?_
    ·rintro a wx39 ⟨rfl, hax4⟩
     refine rw_apply hax4 ?_
     refine r_move rfl rfl rfl ?_
     obtain ⟨v26, hb5, hm⟩ := bind_some hm
     refine r_mid 3 (fun a w' => wx37 = w' ∧ Has 131 a [(1, .slice (some ⟨b1, 0, none⟩) 2 2), (5, .pointer (some ⟨b3, 0, none⟩)), (9, .int .i64 v8.2.1), (14, .int .i64 v13.2), (16, .int .i64 v15.2), (18, .int .i64 v18.2), (19, .int .i64 v21.1), (20, .int .i64 v21.2), (99, .bool v26)]) ?_ ?_
     ·rintro a wx40 ⟨rfl, hax5⟩
      refine rw_apply hax5 ?_
      refine r_move rfl rfl rfl ?_
      obtain ⟨v27, hb6, hm⟩ := bind_some hm
      refine r_mid 3 (fun a w' => wx37 = w' ∧ Has 131 a [(1, .slice (some ⟨b1, 0, none⟩) 2 2), (5, .pointer (some ⟨b3, 0, none⟩)), (14, .int .i64 v13.2), (16, .int .i64 v15.2), (18, .int .i64 v18.2), (19, .int .i64 v21.1), (20, .int .i64 v21.2), (103, .bool v27)]) ?_ ?_
      ·rintro a wx41 ⟨rfl, hax6⟩
       refine rw_apply hax6 ?_
       refine r_assign rfl rfl rfl (r_nil (q_then (c_seq (c_region (r_move rfl rfl rfl (r_move rfl rfl rfl ?_))))))
       obtain ⟨v28, hb7, hm⟩ := bind_some hm
       refine r_mid 3 (fun a w' => wx37 = w' ∧ Has 131 a [(1, .slice (some ⟨b1, 0, none⟩) 2 2), (5, .pointer (some ⟨b3, 0, none⟩)), (16, .int .i64 v15.2), (18, .int .i64 v18.2), (19, .int .i64 v21.1), (20, .int .i64 v21.2), (108, .bool v28)]) ?_ ?_
       ·rintro a wx42 ⟨rfl, hax7⟩
        refine rw_apply hax7 ?_
        refine r_move rfl rfl rfl ?_
        obtain ⟨v29, hb8, hm⟩ := bind_some hm
        refine r_mid 3 (fun a w' => wx37 = w' ∧ Has 131 a [(1, .slice (some ⟨b1, 0, none⟩) 2 2), (5, .pointer (some ⟨b3, 0, none⟩)), (18, .int .i64 v18.2), (19, .int .i64 v21.1), (20, .int .i64 v21.2), (112, .bool v29)]) ?_ ?_
        ·rintro a wx43 ⟨rfl, hax8⟩
         refine rw_apply hax8 ?_
         refine r_move rfl rfl rfl ?_
         obtain ⟨v30, hb9, hm⟩ := bind_some hm
         refine r_mid 3 (fun a w' => wx37 = w' ∧ Has 131 a [(1, .slice (some ⟨b1, 0, none⟩) 2 2), (5, .pointer (some ⟨b3, 0, none⟩)), (19, .int .i64 v21.1), (20, .int .i64 v21.2), (116, .bool v30)]) ?_ ?_
         ·rintro a wx44 ⟨rfl, hax9⟩
          refine rw_apply hax9 ?_
          refine r_move rfl rfl rfl ?_
          obtain ⟨v31, hb10, hm⟩ := bind_some hm
          refine r_mid 3 (fun a w' => wx37 = w' ∧ Has 131 a [(1, .slice (some ⟨b1, 0, none⟩) 2 2), (5, .pointer (some ⟨b3, 0, none⟩)), (19, .int .i64 v21.1), (120, .bool v31)]) ?_ ?_
          ·rintro a wx45 ⟨rfl, hax10⟩
           refine rw_apply hax10 ?_
           refine r_move rfl rfl rfl ?_
           obtain ⟨v32, hb11, hm⟩ := bind_some hm
           refine r_mid 3 (fun a w' => wx37 = w' ∧ Has 131 a [(1, .slice (some ⟨b1, 0, none⟩) 2 2), (5, .pointer (some ⟨b3, 0, none⟩)), (124, .bool v32)]) ?_ ?_
           ·rintro a wx46 ⟨rfl, hax11⟩
            refine rw_apply hax11 ?_
            refine r_move rfl rfl rfl ?_
            obtain ⟨v33, hb12, hm⟩ := bind_some hm
            refine r_mid 5 (fun a w' => ∃ (Fx24 : Frz), Frz.le Fx23 Fx24 ∧ HS F w [] Fx24 [.box b6 24 [.int .i64 v10.Op, .int .i64 v10.N, vs v10.Name, .slice as9 ns9 cs9], .box b5 24 [.int .i64 v9.Op, .int .i64 v9.N, vs v9.Name, .slice as8 ns8 cs8], .box b4 26 [vs v8.1.Name, .int .i64 v8.1.Fee.Op, .int .i64 v8.1.Fee.N, vs v8.1.Fee.Name, .slice as7 ns7 cs7, .int .i64 v8.1.Cap], .box b3 26 [vs [116, 111, 119, 110], .int .i64 v6.Op, .int .i64 v6.N, vs v6.Name, .slice as6 ns6 cs6, .int .i64 9000], .box b2 26 [vs v1.1.Name, .int .i64 v1.1.Fee.Op, .int .i64 v1.1.Fee.N, vs v1.1.Fee.Name, .slice as1 ns1 cs1, .int .i64 v1.1.Cap]] w' ∧ Has 131 a [(130, .bool v33)]) ?_ ?_
            ·rintro a wx47 ⟨Fx24, hF24, hx38, hax12⟩
             refine rw_apply hax12 ?_
             refine r_assign rfl rfl rfl (r_nil (q_then (c_ret ?_)))
             refine b_ret1 rfl rfl ?_
             obtain rfl := Option.some.inj hm
             exact ⟨_, _, _, rfl, hx38.pick [] (by decide) rfl, rfl, rfl⟩
            ·clear hm
             rcases cond_some hb12 with ⟨hb13, hb12⟩ | ⟨hb13, hb12⟩
             ·refine r_lit 125 rfl hb13 ?_
              refine r_loadBW ag26 sz26 rfl rfl hx37 rfl (i := 3) rfl rfl ?_
              refine r_move rfl rfl rfl ?_
              have hG6 := (((((((((((((((hF7.trans hF8).trans hF9).trans hF10).trans hF11).trans hF12).trans hF13).trans hF14).trans hF15).trans hF16).trans hF17).trans hF18).trans hF19).trans hF20).trans hF21).trans hF22).trans hF23
              have hG7 := ((((hG4.trans hF19).trans hF20).trans hF21).trans hF22).trans hF23
              obtain ⟨v34, hv22, hb12⟩ := bind_some hb12
              refine r_callG0 ent14 rfl rfl rfl rfl hx37 (tariff_Check_ok _ _ _ _ hv22 hx37.sat (hs6.mono hG6) (hsx1.mono hG7)) ?_
              rintro _ Fx25 _ wx48 hF25 hx39 ⟨rfl, rfl⟩
              refine r_bin rfl rfl rfl rfl rfl ?_
              refine r_pick_true rfl rfl rfl rfl (r_nil ?_)
              refine q_next (fun a ha => ?_)
              cases hb12
              exact ⟨_, hF25, hx39.pick [0, 1, 2, 3, 4] (by decide) rfl, ha.cut (l := [130]) rfl⟩
             ·refine r_lit 125 rfl hb13 ?_
              refine r_off rfl (by decide) rfl (r_off rfl (by decide) rfl (r_off rfl (by decide) rfl (r_off rfl (by decide) rfl (r_pick_false rfl rfl rfl rfl (r_nil ?_)))))
              refine q_next (fun a ha => ?_)
              cases hb12
              exact ⟨_, Frz.refl _, hx37.pick [0, 1, 2, 3, 4] (by decide) rfl, ha.cut (l := [130]) rfl⟩
           ·clear hm
            rcases cond_some hb11 with ⟨hb14, hb11⟩ | ⟨hb14, hb11⟩
            ·refine r_lit 121 rfl hb14 ?_
             refine r_move rfl rfl rfl ?_
             refine r_bin rfl rfl rfl rfl rfl ?_
             refine r_pick_true rfl rfl rfl rfl (r_nil ?_)
             refine q_next (fun a ha => ?_)
             cases hb11
             exact ⟨rfl, ha.cut (l := [1, 5, 124]) rfl⟩
            ·refine r_lit 121 rfl hb14 ?_
             refine r_off rfl (by decide) rfl (r_off rfl (by decide) rfl (r_pick_false rfl rfl rfl rfl (r_nil ?_)))
             refine q_next (fun a ha => ?_)
             cases hb11
             exact ⟨rfl, ha.cut (l := [1, 5, 124]) rfl⟩
          ·clear hm
           rcases cond_some hb10 with ⟨hb15, hb10⟩ | ⟨hb15, hb10⟩
           ·refine r_lit 117 rfl hb15 ?_
            refine r_move rfl rfl rfl ?_
            refine r_bin rfl rfl rfl rfl rfl ?_
            refine r_pick_true rfl rfl rfl rfl (r_nil ?_)
            refine q_next (fun a ha => ?_)
            cases hb10
            exact ⟨rfl, ha.cut (l := [1, 5, 19, 120]) rfl⟩
           ·refine r_lit 117 rfl hb15 ?_
            refine r_off rfl (by decide) rfl (r_off rfl (by decide) rfl (r_pick_false rfl rfl rfl rfl (r_nil ?_)))
            refine q_next (fun a ha => ?_)
            cases hb10
            exact ⟨rfl, ha.cut (l := [1, 5, 19, 120]) rfl⟩
         ·clear hm
          rcases cond_some hb9 with ⟨hb16, hb9⟩ | ⟨hb16, hb9⟩
          ·refine r_lit 113 rfl hb16 ?_
           refine r_move rfl rfl rfl ?_
           refine r_bin rfl rfl rfl rfl rfl ?_
           refine r_pick_true rfl rfl rfl rfl (r_nil ?_)
           refine q_next (fun a ha => ?_)
           cases hb9
           exact ⟨rfl, ha.cut (l := [1, 5, 19, 20, 116]) rfl⟩
          ·refine r_lit 113 rfl hb16 ?_
           refine r_off rfl (by decide) rfl (r_off rfl (by decide) rfl (r_pick_false rfl rfl rfl rfl (r_nil ?_)))
           refine q_next (fun a ha => ?_)
           cases hb9
           exact ⟨rfl, ha.cut (l := [1, 5, 19, 20, 116]) rfl⟩
        ·clear hm
         rcases cond_some hb8 with ⟨hb17, hb8⟩ | ⟨hb17, hb8⟩
         ·refine r_lit 109 rfl hb17 ?_
          refine r_move rfl rfl rfl ?_
          refine r_bin rfl rfl rfl rfl rfl ?_
          refine r_pick_true rfl rfl rfl rfl (r_nil ?_)
          refine q_next (fun a ha => ?_)
          cases hb8
          exact ⟨rfl, ha.cut (l := [1, 5, 18, 19, 20, 112]) rfl⟩
         ·refine r_lit 109 rfl hb17 ?_
          refine r_off rfl (by decide) rfl (r_off rfl (by decide) rfl (r_pick_false rfl rfl rfl rfl (r_nil ?_)))
          refine q_next (fun a ha => ?_)
          cases hb8
          exact ⟨rfl, ha.cut (l := [1, 5, 18, 19, 20, 112]) rfl⟩
       ·clear hm
        rcases cond_some hb7 with ⟨hb18, hb7⟩ | ⟨hb18, hb7⟩
        ·refine r_lit 105 rfl hb18 ?_
         refine r_move rfl rfl rfl ?_
         refine r_bin rfl rfl rfl rfl rfl ?_
         refine r_pick_true rfl rfl rfl rfl (r_nil ?_)
         refine q_next (fun a ha => ?_)
         cases hb7
         exact ⟨rfl, ha.cut (l := [1, 5, 16, 18, 19, 20, 108]) rfl⟩
        ·refine r_lit 105 rfl hb18 ?_
         refine r_off rfl (by decide) rfl (r_off rfl (by decide) rfl (r_pick_false rfl rfl rfl rfl (r_nil ?_)))
         refine q_next (fun a ha => ?_)
         cases hb7
         exact ⟨rfl, ha.cut (l := [1, 5, 16, 18, 19, 20, 108]) rfl⟩
      ·clear hm
       rcases cond_some hb6 with ⟨hb19, hb6⟩ | ⟨hb19, hb6⟩
       ·refine r_lit 100 rfl hb19 ?_
        refine r_move rfl rfl rfl ?_
        refine r_bin rfl rfl rfl rfl rfl ?_
        refine r_pick_true rfl rfl rfl rfl (r_nil ?_)
        refine q_next (fun a ha => ?_)
        cases hb6
        exact ⟨rfl, ha.cut (l := [1, 5, 14, 16, 18, 19, 20, 103]) rfl⟩
       ·refine r_lit 100 rfl hb19 ?_
        refine r_off rfl (by decide) rfl (r_off rfl (by decide) rfl (r_pick_false rfl rfl rfl rfl (r_nil ?_)))
        refine q_next (fun a ha => ?_)
        cases hb6
        exact ⟨rfl, ha.cut (l := [1, 5, 14, 16, 18, 19, 20, 103]) rfl⟩
     ·clear hm
      rcases cond_some hb5 with ⟨hb20, hb5⟩ | ⟨hb20, hb5⟩
      ·refine r_lit 96 rfl hb20 ?_
       refine r_move rfl rfl rfl ?_
       refine r_bin rfl rfl rfl rfl rfl ?_
       refine r_pick_true rfl rfl rfl rfl (r_nil ?_)
       refine q_next (fun a ha => ?_)
       cases hb5
       exact ⟨rfl, ha.cut (l := [1, 5, 9, 14, 16, 18, 19, 20, 99]) rfl⟩
      ·refine r_lit 96 rfl hb20 ?_
       refine r_off rfl (by decide) rfl (r_off rfl (by decide) rfl (r_pick_false rfl rfl rfl rfl (r_nil ?_)))
       refine q_next (fun a ha => ?_)
       cases hb5
       exact ⟨rfl, ha.cut (l := [1, 5, 9, 14, 16, 18, 19, 20, 99]) rfl⟩
    ·clear hm
     rcases cond_some hb4 with ⟨hb21, hb4⟩ | ⟨hb21, hb4⟩
     ·refine r_lit 92 rfl hb21 ?_
      refine r_move rfl rfl rfl ?_
      refine r_str rfl rfl rfl rfl rfl ?_
      refine r_pick_true rfl rfl rfl rfl (r_nil ?_)
      refine q_next (fun a ha => ?_)
      cases hb4
      exact ⟨rfl, ha.cut (l := [1, 5, 9, 10, 14, 16, 18, 19, 20, 95]) rfl⟩
     ·refine r_lit 92 rfl hb21 ?_
      refine r_off rfl (by decide) rfl (r_off rfl (by decide) rfl (r_pick_false rfl rfl rfl rfl (r_nil ?_)))
      refine q_next (fun a ha => ?_)
      cases hb4
      exact ⟨rfl, ha.cut (l := [1, 5, 9, 10, 14, 16, 18, 19, 20, 95]) rfl⟩
   ·clear hm
    rcases cond_some hb3 with ⟨hb22, hb3⟩ | ⟨hb22, hb3⟩
    ·refine r_lit 89 rfl hb22 ?_
     refine r_move rfl rfl rfl (r_pick_true rfl rfl rfl rfl (r_nil ?_))
     refine q_next (fun a ha => ?_)
     cases hb3
     exact ⟨rfl, ha.cut (l := [1, 5, 6, 9, 10, 14, 16, 18, 19, 20, 91]) rfl⟩
    ·refine r_lit 89 rfl hb22 ?_
     refine r_off rfl (by decide) rfl (r_pick_false rfl rfl rfl rfl (r_nil ?_))
     refine q_next (fun a ha => ?_)
     cases hb3
     exact ⟨rfl, ha.cut (l := [1, 5, 6, 9, 10, 14, 16, 18, 19, 20, 91]) rfl⟩
  ·clear hm
   rcases cond_some hb2 with ⟨hb23, hb2⟩ | ⟨hb23, hb2⟩
   ·refine r_lit 84 rfl hb23 ?_
    refine r_loadBW ag26 sz26 rfl rfl hx36 rfl (i := 4) rfl rfl ?_
    refine r_loadBW ag26 sz26 rfl rfl hx36 rfl (i := 3) rfl rfl ?_
    have hG8 := (((((((((((((((((((hF2.trans hF3).trans hF4).trans hF5).trans hF6).trans hF7).trans hF8).trans hF9).trans hF10).trans hF11).trans hF12).trans hF13).trans hF14).trans hF15).trans hF16).trans hF17).trans hF18).trans hF19).trans hF20).trans hF21).trans hF22
    have hG9 := ((((((((((((((hF7.trans hF8).trans hF9).trans hF10).trans hF11).trans hF12).trans hF13).trans hF14).trans hF15).trans hF16).trans hF17).trans hF18).trans hF19).trans hF20).trans hF21).trans hF22
    obtain ⟨v35, hv23, hb2⟩ := bind_some hb2
    refine r_callG0 ent13 rfl rfl rfl rfl hx36 (ref35_SameTariff_ok _ _ _ _ hv23 hx36.sat (hs1.mono hG8) (hs6.mono hG9)) ?_
    rintro _ Fx26 _ wx49 hF26 hx40 ⟨rfl, rfl⟩
    refine r_pick_true rfl rfl rfl rfl (r_nil ?_)
    refine q_next (fun a ha => ?_)
    cases hb2
    exact ⟨_, hF26, hx40.pick [0, 1, 2, 3, 4] (by decide) rfl, ha.cut (l := [1, 5, 6, 7, 9, 10, 14, 16, 18, 19, 20, 88]) rfl⟩
   ·refine r_lit 84 rfl hb23 ?_
    refine r_off rfl (by decide) rfl (r_off rfl (by decide) rfl (r_off rfl (by decide) rfl (r_pick_false rfl rfl rfl rfl (r_nil ?_))))
    refine q_next (fun a ha => ?_)
    cases hb2
    exact ⟨_, Frz.refl _, hx36.pick [0, 1, 2, 3, 4] (by decide) rfl, ha.cut (l := [1, 5, 6, 7, 9, 10, 14, 16, 18, 19, 20, 88]) rfl⟩
 ·clear hm
  rcases cond_some hb1 with ⟨hb24, hb1⟩ | ⟨hb24, hb1⟩
  ·refine r_lit 80 rfl hb24 ?_
   refine r_move rfl rfl rfl ?_
   refine r_bin rfl rfl rfl rfl rfl ?_
   refine r_pick_true rfl rfl rfl rfl (r_nil ?_)
   refine q_next (fun a ha => ?_)
   cases hb1
   exact ⟨rfl, ha.cut (l := [1, 2, 5, 6, 7, 9, 10, 14, 16, 18, 19, 20, 83]) rfl⟩
  ·refine r_lit 80 rfl hb24 ?_
   refine r_off rfl (by decide) rfl (r_off rfl (by decide) rfl (r_pick_false rfl rfl rfl rfl (r_nil ?_)))
   refine q_next (fun a ha => ?_)
   cases hb1
   exact ⟨rfl, ha.cut (l := [1, 2, 5, 6, 7, 9, 10, 14, 16, 18, 19, 20, 83]) rfl⟩
end Go.Proofs.YtpihabofmnnbbaaGreatDoor.M

