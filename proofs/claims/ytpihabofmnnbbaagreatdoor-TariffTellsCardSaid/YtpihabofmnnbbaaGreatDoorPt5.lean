/- Several texts in one, for TariffTells.card: what the theorem leans on. -/
import Derived.Test.YtpihabofmnnbbaaGreatDoorRows
import Derived.Test.YtpihabofmnnbbaaGreatDoorPt4
namespace Go.Proofs.YtpihabofmnnbbaaGreatDoor.M
open Go Go.RowKit Rt
def ref35_Arity (_n : Nat) (op1 : Int) : Option Int :=
 (bif decide (op1 < 0) then
  some true
 else
  some (decide (17 ≤ op1))).bind fun v1 =>
 bif v1 then
  some (-1)
 else
  bif decide (op1 ≤ 4) then
   some 0
  else
   bif op1 == 14 then
    some 1
   else
    bif op1 == 11 then
     some 3
    else
     some 2
set_option maxHeartbeats 1000000 in
set_option maxRecDepth 1000000 in
theorem ref35_Arity_ok (n : Nat) (op1 : Int) (r : Int) (hm : ref35_Arity n op1 = some r) {w : World}  :
  Calls Tryz.prog 97 #[.int .i64 op1] w fun e w' => e = .returned (.int .i64 r) ∧ w' = w := by
 unfold ref35_Arity at hm
 refine calls_of 15 Tryz.func97 rfl rfl rfl ?_
 refine c_seq (c_region (r_assign rfl rfl rfl (r_nil (q_then (c_seq (c_seq (c_region (r_move rfl rfl rfl ?_))))))))
 refine r_bin rfl rfl rfl rfl rfl ?_
 refine r_move rfl rfl rfl ?_
 obtain ⟨v1, hb1, hm⟩ := bind_some hm
 refine r_mid 3 (fun a w' => w = w' ∧ Has 15 a [(0, .int .i64 op1), (8, .bool v1)]) ?_ ?_
 ·rintro a wx1 ⟨rfl, hax1⟩
  refine rw_apply hax1 ?_
  refine r_nil (q_then ?_)
  rcases cond_some hm with ⟨hb2, hm⟩ | ⟨hb2, hm⟩
  ·refine c_lit 8 rfl hb2 ?_
   refine c_true rfl (c_seq (c_region (r_assign rfl rfl rfl (r_nil (q_then (c_ret (q_then_ret ?_)))))))
   refine b_ret1 rfl rfl ?_
   obtain rfl := Option.some.inj hm
   exact ⟨rfl, rfl⟩
  ·refine c_lit 8 rfl hb2 ?_
   refine c_false rfl (c_skip (q_then (c_seq (c_seq (c_region (r_move rfl rfl rfl ?_))))))
   refine r_bin rfl rfl rfl rfl rfl ?_
   refine r_nil (q_then ?_)
   rcases cond_some hm with ⟨hb3, hm⟩ | ⟨hb3, hm⟩
   ·refine c_lit 10 rfl hb3 ?_
    refine c_true rfl (c_seq (c_region (r_assign rfl rfl rfl (r_nil (q_then (c_ret (q_then_ret ?_)))))))
    refine b_ret1 rfl rfl ?_
    obtain rfl := Option.some.inj hm
    exact ⟨rfl, rfl⟩
   ·refine c_lit 10 rfl hb3 ?_
    refine c_false rfl (c_skip (q_then (c_seq (c_seq (c_region (r_move rfl rfl rfl ?_))))))
    refine r_bin rfl rfl rfl rfl rfl ?_
    refine r_nil (q_then ?_)
    rcases cond_some hm with ⟨hb4, hm⟩ | ⟨hb4, hm⟩
    ·refine c_lit 12 rfl hb4 ?_
     refine c_true rfl (c_seq (c_region (r_assign rfl rfl rfl (r_nil (q_then (c_ret (q_then_ret ?_)))))))
     refine b_ret1 rfl rfl ?_
     obtain rfl := Option.some.inj hm
     exact ⟨rfl, rfl⟩
    ·refine c_lit 12 rfl hb4 ?_
     refine c_false rfl (c_skip (q_then (c_seq (c_seq (c_region (r_move rfl rfl rfl ?_))))))
     refine r_bin rfl rfl rfl rfl rfl ?_
     refine r_nil (q_then ?_)
     rcases cond_some hm with ⟨hb5, hm⟩ | ⟨hb5, hm⟩
     ·refine c_lit 14 rfl hb5 ?_
      refine c_true rfl (c_seq (c_region (r_assign rfl rfl rfl (r_nil (q_then (c_ret (q_then_ret ?_)))))))
      refine b_ret1 rfl rfl ?_
      obtain rfl := Option.some.inj hm
      exact ⟨rfl, rfl⟩
     ·refine c_lit 14 rfl hb5 ?_
      refine c_false rfl (c_skip (q_then (c_seq (c_region (r_assign rfl rfl rfl (r_nil (q_then (c_ret ?_))))))))
      refine b_ret1 rfl rfl ?_
      obtain rfl := Option.some.inj hm
      exact ⟨rfl, rfl⟩
 ·clear hm
  rcases cond_some hb1 with ⟨hb6, hb1⟩ | ⟨hb6, hb1⟩
  ·refine r_lit 5 rfl hb6 ?_
   refine r_off rfl (by decide) rfl (r_off rfl (by decide) rfl (r_pick_true rfl rfl rfl rfl (r_nil ?_)))
   refine q_next (fun a ha => ?_)
   cases hb1
   exact ⟨rfl, ha.cut (l := [0, 8]) rfl⟩
  ·refine r_lit 5 rfl hb6 ?_
   refine r_move rfl rfl rfl ?_
   refine r_bin rfl rfl rfl rfl rfl ?_
   refine r_pick_false rfl rfl rfl rfl (r_nil ?_)
   refine q_next (fun a ha => ?_)
   cases hb1
   exact ⟨rfl, ha.cut (l := [0, 8]) rfl⟩
theorem ent97 : Ent Tryz.prog 97 := fun _ _ => by kernel_rfl
theorem ent73 : Ent Tryz.prog 73 := fun _ _ => by kernel_rfl
def ref35_shaped_L1 (n : Nat) (rec_ref35_shaped : Expr → Option Bool) (x1 : Expr) (kont1 : Option Bool) : Nat → Int → Option Bool
 | 0, _ => none
 | mx1 + 1, i1 =>
  bif decide (i1 < (x1.Args.length : Int)) then
   (ix x1.Args i1).bind fun ex1 =>
   (rec_ref35_shaped ex1).bind fun v7 =>
   bif !v7 then
    some false
   else
    ref35_shaped_L1 n rec_ref35_shaped x1 kont1 mx1 (iadd .i64 i1 1)
  else
   kont1
theorem ref35_shaped_L1_s (n : Nat) (rec_ref35_shaped : Expr → Option Bool) (x1 : Expr) (kont1 : Option Bool) (mx1 : Nat) (i1 : Int) : ref35_shaped_L1 n rec_ref35_shaped x1 kont1 (mx1 + 1) i1 =
  bif decide (i1 < (x1.Args.length : Int)) then
   (ix x1.Args i1).bind fun ex1 =>
   (rec_ref35_shaped ex1).bind fun v7 =>
   bif !v7 then
    some false
   else
    ref35_shaped_L1 n rec_ref35_shaped x1 kont1 mx1 (iadd .i64 i1 1)
  else
   kont1 := rfl
def ref35_shaped : Nat → Expr → Option Bool
 | 0, _ => none
 | n + 1, x1 =>
  (ref35_Arity n x1.Op).bind fun v1 =>
  (bif (x1.Args.length : Int) != v1 then
   some true
  else
   (bif x1.Op != 0 then
    some (x1.N != 0)
   else
    some false).bind fun v12 =>
   some v12).bind fun v2 =>
  bif v2 then
   some false
  else
   (bif x1.Op == 1 then
    some true
   else
    some (x1.Op == 4)).bind fun v3 =>
   (bif v3 then
    (ref06_Name n x1.Name).bind fun v11 =>
    some (!v11)
   else
    some false).bind fun v4 =>
   (bif v4 then
    some true
   else
    (bif !v3 then
     some (!(x1.Name == []))
    else
     some false).bind fun v10 =>
    some v10).bind fun v5 =>
   (bif v5 then
    some true
   else
    (bif x1.Op == 0 then
     (bif decide (x1.N < 0) then
      some true
     else
      some (decide (1099511627776 < x1.N))).bind fun v9 =>
     some v9
    else
     some false).bind fun v8 =>
    some v8).bind fun v6 =>
   bif v6 then
    some false
   else
    ref35_shaped_L1 n (ref35_shaped n) x1 (
     some true) n 0
theorem ref35_shaped_s (n : Nat) (x1 : Expr) : ref35_shaped (n + 1) x1 =
  (ref35_Arity n x1.Op).bind fun v1 =>
  (bif (x1.Args.length : Int) != v1 then
   some true
  else
   (bif x1.Op != 0 then
    some (x1.N != 0)
   else
    some false).bind fun v12 =>
   some v12).bind fun v2 =>
  bif v2 then
   some false
  else
   (bif x1.Op == 1 then
    some true
   else
    some (x1.Op == 4)).bind fun v3 =>
   (bif v3 then
    (ref06_Name n x1.Name).bind fun v11 =>
    some (!v11)
   else
    some false).bind fun v4 =>
   (bif v4 then
    some true
   else
    (bif !v3 then
     some (!(x1.Name == []))
    else
     some false).bind fun v10 =>
    some v10).bind fun v5 =>
   (bif v5 then
    some true
   else
    (bif x1.Op == 0 then
     (bif decide (x1.N < 0) then
      some true
     else
      some (decide (1099511627776 < x1.N))).bind fun v9 =>
     some v9
    else
     some false).bind fun v8 =>
    some v8).bind fun v6 =>
   bif v6 then
    some false
   else
    ref35_shaped_L1 n (ref35_shaped n) x1 (
     some true) n 0 := rfl
set_option maxHeartbeats 1000000 in
set_option maxRecDepth 1000000 in
theorem ref35_shaped_all (n : Nat) : (∀ (x1 : Expr) (r : Bool) (_ : ref35_shaped n x1 = some r) {w : World} {F : Frz} (_ : Sat F w) {as1 : Option Addr} {ns1 : Nat} {cs1 : Nat} (_ : SlR rp_Expr F as1 ns1 cs1 x1.Args), Calls Tryz.prog 73 #[.agg #[.int .i64 x1.Op, .int .i64 x1.N, vs x1.Name, .slice as1 ns1 cs1]] w fun e w' => ∃ v F' O', e = .returned v ∧ HS F w [] F' O' w' ∧ (v = .bool r ∧ O' = [])) := by
 induction n with
 | zero =>
  ·intro x1 r hm
   exact absurd (show (none : Option Bool) = some r from hm) (by simp)
 | succ n ih =>
  ·intro x1 r hm w F hs as1 ns1 cs1 hs1
   rw [ref35_shaped_s] at hm
   have h := HS.init hs
   refine calls_of 75 Tryz.func73 rfl rfl rfl ?_
   refine c_seq (c_region ?_)
   refine r_box rfl rfl rfl rfl h ?_
   intro b1 wx1 hx1
   refine r_assign rfl rfl rfl (r_nil (q_then (c_seq (c_seq ?_))))
   refine c_regionD (by kernel_rfl) (by kernel_rfl) hx1 ?_
   refine q_stp rfl rfl rfl rfl (fun _ _ _ _ => r_fieldAddr fa24_3 rfl rfl rfl (r_nil (qq rfl))) ?_
   refine q_stp rfl rfl rfl rfl (fun _ _ _ hq => r_loadB1 ag22 rfl rfl hq rfl (i := 0) rfl rfl (r_nil (qq rfl))) ?_
   refine q_stp rfl rfl rfl rfl (fun _ _ _ _ => r_lenS hs1.len u22 rfl rfl rfl (r_nil (qq rfl))) ?_
   refine q_stp rfl rfl rfl rfl (fun _ _ _ _ => r_fieldAddr fa24_0 rfl rfl rfl (r_nil (qq rfl))) ?_
   refine q_stp rfl rfl rfl rfl (fun _ _ _ hq => r_loadB1 ag3 rfl rfl hq rfl (i := 0) rfl rfl (r_nil (qq rfl))) ?_
   obtain ⟨v1, hv1, hm⟩ := bind_some hm
   refine q_callP0 ent97 rfl rfl rfl rfl (fun _ _ hleq hq => ref35_Arity_ok _ _ _ hv1) ?_
   refine q_stp rfl rfl rfl rfl (fun _ _ _ _ => r_bin rfl rfl rfl rfl rfl (r_nil (qq rfl))) ?_
   refine q_stp rfl rfl rfl rfl (fun _ _ _ _ => r_move rfl rfl rfl (r_nil (qq rfl))) ?_
   obtain ⟨v2, hb1, hm⟩ := bind_some hm
   refine q_mid 9 (fun a => Has 75 a [(1, .pointer (some ⟨b1, 0, none⟩)), (21, .bool v2)]) ?_ ?_
   ·intro a hax1
    refine qr_apply hax1 ?_
    refine q_end ?_
    rintro wx3 ⟨Fx1, hF1, hx2⟩
    refine q_then ?_
    rcases cond_some hm with ⟨hb2, hm⟩ | ⟨hb2, hm⟩
    ·refine c_lit 21 rfl hb2 ?_
     refine c_true rfl (c_seq (c_region (r_assign rfl rfl rfl (r_nil (q_then (c_ret (q_then_ret ?_)))))))
     refine b_ret1 rfl rfl ?_
     obtain rfl := Option.some.inj hm
     exact ⟨_, _, _, rfl, hx2.pick [] (by decide) rfl, rfl, rfl⟩
    ·refine c_lit 21 rfl hb2 ?_
     refine c_false rfl (c_skip (q_then (c_seq (c_region ?_))))
     refine r_fieldAddr fa24_0 rfl rfl rfl ?_
     refine r_loadB1 ag3 rfl rfl hx2 rfl (i := 0) rfl rfl ?_
     refine r_bin rfl rfl rfl rfl rfl ?_
     refine r_move rfl rfl rfl ?_
     obtain ⟨v3, hb3, hm⟩ := bind_some hm
     refine r_mid 4 (fun a w' => wx3 = w' ∧ Has 75 a [(1, .pointer (some ⟨b1, 0, none⟩)), (29, .bool v3)]) ?_ ?_
     ·rintro a wx4 ⟨rfl, hax2⟩
      refine rw_apply hax2 ?_
      refine r_assign rfl rfl rfl (r_nil (q_then (c_seq (c_seq (c_region (r_move rfl rfl rfl (r_move rfl rfl rfl ?_)))))))
      obtain ⟨v4, hb4, hm⟩ := bind_some hm
      refine r_mid 5 (fun a w' => wx3 = w' ∧ Has 75 a [(1, .pointer (some ⟨b1, 0, none⟩)), (3, .bool v3), (36, .bool v4)]) ?_ ?_
      ·rintro a wx5 ⟨rfl, hax3⟩
       refine rw_apply hax3 ?_
       refine r_move rfl rfl rfl ?_
       obtain ⟨v5, hb5, hm⟩ := bind_some hm
       refine r_mid 8 (fun a w' => wx3 = w' ∧ Has 75 a [(1, .pointer (some ⟨b1, 0, none⟩)), (45, .bool v5)]) ?_ ?_
       ·rintro a wx6 ⟨rfl, hax4⟩
        refine rw_apply hax4 ?_
        refine r_move rfl rfl rfl ?_
        obtain ⟨v6, hb6, hm⟩ := bind_some hm
        refine r_mid 14 (fun a w' => wx3 = w' ∧ Has 75 a [(1, .pointer (some ⟨b1, 0, none⟩)), (60, .bool v6)]) ?_ ?_
        ·rintro a wx7 ⟨rfl, hax5⟩
         refine rw_apply hax5 ?_
         refine r_nil (q_then ?_)
         rcases cond_some hm with ⟨hb7, hm⟩ | ⟨hb7, hm⟩
         ·refine c_lit 60 rfl hb7 ?_
          refine c_true rfl (c_seq (c_region (r_assign rfl rfl rfl (r_nil (q_then (c_ret (q_then_ret ?_)))))))
          refine b_ret1 rfl rfl ?_
          obtain rfl := Option.some.inj hm
          exact ⟨_, _, _, rfl, hx2.pick [] (by decide) rfl, rfl, rfl⟩
         ·refine c_lit 60 rfl hb7 ?_
          refine c_false rfl (c_skip (q_then (c_seq (c_seq (c_region (r_assign rfl rfl rfl (r_nil (q_then (c_block ?_)))))))))
          intro a hax8
          obtain ⟨kont1, hkont1⟩ : ∃ kont1 : Option Bool, kont1 = (
       some true) := ⟨_, rfl⟩
          replace hm : (fun m (s : Int) => ref35_shaped_L1 n (ref35_shaped n) x1 kont1 m s) n 0 = some r := by rw [hkont1]; exact hm
          refine loopX (id := 0) (fun m (s : Int) => ref35_shaped_L1 n (ref35_shaped n) x1 kont1 m s) (fun (y : Unit) => kont1) r (fun (s : Int) a w' => ∃ (Fx2 : Frz), Frz.le Fx1 Fx2 ∧ HS F w [] Fx2 [.box b1 24 [.int .i64 x1.Op, .int .i64 x1.N, vs x1.Name, .slice as1 ns1 cs1]] w' ∧ Has 75 a [(1, .pointer (some ⟨b1, 0, none⟩)), (4, .int .i64 s)]) (fun (y : Unit) a w' => ∃ (Fx3 : Frz), Frz.le Fx1 Fx3 ∧ HS F w [] Fx3 [] w' ∧ Has 75 a []) (fun _ => rfl) ?_ ?_ hm ⟨_, Frz.refl _, hx2.pick [0] (by decide) rfl, hax8.cut (l := [1, 4]) rfl⟩
          ·clear hm; rintro _u a wx8 hm ⟨Fx3, hF3, hx4, hax6⟩
           rw [hkont1] at hm
           refine qw_apply (e := .exit 0) hax6 ?_
           refine q_block_hit (q_then (c_seq (c_region (r_assign rfl rfl rfl (r_nil (q_then (c_ret ?_)))))))
           refine b_ret1 rfl rfl ?_
           obtain rfl := Option.some.inj hm
           exact ⟨_, _, _, rfl, hx4.pick [] (by decide) rfl, rfl, rfl⟩
          ·clear hm hkont1; intro hk1 mx1 K ihx1
           rintro i1 a wx9 hm ⟨Fx2, hF2, hx3, hax7⟩
           simp only [ref35_shaped_L1_s] at hm
           refine cw_apply hax7 ?_
           refine c_seq (c_seq (c_region (r_move rfl rfl rfl ?_)))
           refine r_fieldAddr fa24_3 rfl rfl rfl ?_
           refine r_loadB1 ag22 rfl rfl hx3 rfl (i := 0) rfl rfl ?_
           refine r_lenS hs1.len u22 rfl rfl rfl ?_
           refine r_bin rfl rfl rfl rfl rfl ?_
           refine r_nil (q_then ?_)
           rcases cond_some hm with ⟨hb8, hm⟩ | ⟨hb8, hm⟩
           ·refine c_lit 65 rfl hb8 ?_
            refine c_true rfl (c_skip (q_then (c_seq (c_block (c_seq (c_region ?_))))))
            refine r_fieldAddr fa24_3 rfl rfl rfl ?_
            refine r_loadB1 ag22 rfl rfl hx3 rfl (i := 0) rfl rfl ?_
            refine r_move rfl rfl rfl ?_
            obtain ⟨ex1, he1, hm⟩ := bind_some hm
            refine r_findex (r := rp_Expr) u22 sz24 rfl rfl rfl rfl ((hs1.mono hF1).mono hF2) he1 ?_
            intro b2 o1 cs1 hf1 hr1
            obtain ⟨as2, ns2, cs2, hc1, hs2⟩ := expr_iff.1 hr1
            subst hc1
            refine r_loadFW ag24 sz24 rfl rfl hx3 hf1 rfl rfl ?_
            obtain ⟨v7, hv2, hm⟩ := bind_some hm
            refine r_callG0 ent73 rfl rfl rfl rfl hx3 (ih _ _ hv2 hx3.sat hs2) ?_
            rintro _ Fx4 _ wx10 hF4 hx5 ⟨rfl, rfl⟩
            refine r_not rfl rfl rfl (r_nil (q_then ?_))
            rcases cond_some hm with ⟨hb9, hm⟩ | ⟨hb9, hm⟩
            ·refine c_lit 74 rfl hb9 ?_
             refine c_true rfl (c_seq (c_region (r_assign rfl rfl rfl (r_nil (q_then (c_ret (q_block_ret (q_then_ret (q_then_ret (q_block_ret (q_then_ret ?_)))))))))))
             refine b_ret1 rfl rfl ?_
             obtain rfl := Option.some.inj hm
             exact ⟨_, _, _, rfl, hx5.pick [] (by decide) rfl, rfl, rfl⟩
            ·refine c_lit 74 rfl hb9 ?_
             refine c_false rfl (c_skip (q_block (q_then (c_region (r_move rfl rfl rfl ?_)))))
             refine r_bin rfl rfl rfl rfl rfl ?_
             refine r_assign rfl rfl rfl (r_nil ?_)
             refine q_next (fun a ha => ihx1 (iadd .i64 i1 1) a _ hm ?_)
             exact ⟨_, (hF2.trans hF4), hx5.pick [0] (by decide) rfl, ha.cut (l := [1, 4]) rfl⟩
           ·refine c_lit 65 rfl hb8 ?_
            refine c_false rfl (c_exit (q_then_exit (q_then_exit ?_)))
            refine fun a ha => hk1 () a _ hm ?_
            exact ⟨_, hF2, hx3.pick [] (by decide) rfl, ha.cut (l := []) rfl⟩
        ·clear hm
         rcases cond_some hb6 with ⟨hb10, hb6⟩ | ⟨hb10, hb6⟩
         ·refine r_lit 46 rfl hb10 ?_
          refine r_off rfl (by decide) rfl (r_off rfl (by decide) rfl (r_off rfl (by decide) rfl (r_off rfl (by decide) rfl (r_off rfl (by decide) rfl (r_off rfl (by decide) rfl (r_off rfl (by decide) rfl (r_off rfl (by decide) rfl (r_off rfl (by decide) rfl (r_off rfl (by decide) rfl (r_off rfl (by decide) rfl (r_off rfl (by decide) rfl (r_off rfl (by decide) rfl (r_pick_true rfl rfl rfl rfl (r_nil ?_))))))))))))))
          refine q_next (fun a ha => ?_)
          cases hb6
          exact ⟨rfl, ha.cut (l := [1, 60]) rfl⟩
         ·refine r_lit 46 rfl hb10 ?_
          refine r_fieldAddr fa24_0 rfl rfl rfl ?_
          refine r_loadB1 ag3 rfl rfl hx2 rfl (i := 0) rfl rfl ?_
          refine r_bin rfl rfl rfl rfl rfl ?_
          refine r_move rfl rfl rfl ?_
          obtain ⟨v8, hb11, hb6⟩ := bind_some hb6
          refine r_mid 9 (fun a w' => wx3 = w' ∧ Has 75 a [(1, .pointer (some ⟨b1, 0, none⟩)), (46, .bool false), (59, .bool v8)]) ?_ ?_
          ·rintro a wx11 ⟨rfl, hax9⟩
           refine rw_apply hax9 ?_
           refine r_pick_false rfl rfl rfl rfl (r_nil ?_)
           refine q_next (fun a ha => ?_)
           cases hb6
           exact ⟨rfl, ha.cut (l := [1, 60]) rfl⟩
          ·clear hb6
           rcases cond_some hb11 with ⟨hb12, hb11⟩ | ⟨hb12, hb11⟩
           ·refine r_lit 50 rfl hb12 ?_
            refine r_fieldAddr fa24_1 rfl rfl rfl ?_
            refine r_loadB1 ag3 rfl rfl hx2 rfl (i := 0) rfl rfl ?_
            refine r_bin rfl rfl rfl rfl rfl ?_
            refine r_move rfl rfl rfl ?_
            obtain ⟨v9, hb13, hb11⟩ := bind_some hb11
            refine r_mid 4 (fun a w' => wx3 = w' ∧ Has 75 a [(1, .pointer (some ⟨b1, 0, none⟩)), (46, .bool false), (50, .bool true), (58, .bool v9)]) ?_ ?_
            ·rintro a wx12 ⟨rfl, hax10⟩
             refine rw_apply hax10 ?_
             refine r_pick_true rfl rfl rfl rfl (r_nil ?_)
             refine q_next (fun a ha => ?_)
             cases hb11
             exact ⟨rfl, ha.cut (l := [1, 46, 59]) rfl⟩
            ·clear hb11
             rcases cond_some hb13 with ⟨hb14, hb13⟩ | ⟨hb14, hb13⟩
             ·refine r_lit 54 rfl hb14 ?_
              refine r_off rfl (by decide) rfl (r_off rfl (by decide) rfl (r_off rfl (by decide) rfl (r_pick_true rfl rfl rfl rfl (r_nil ?_))))
              refine q_next (fun a ha => ?_)
              cases hb13
              exact ⟨rfl, ha.cut (l := [1, 46, 50, 58]) rfl⟩
             ·refine r_lit 54 rfl hb14 ?_
              refine r_fieldAddr fa24_1 rfl rfl rfl ?_
              refine r_loadB1 ag3 rfl rfl hx2 rfl (i := 0) rfl rfl ?_
              refine r_bin rfl rfl rfl rfl rfl ?_
              refine r_pick_false rfl rfl rfl rfl (r_nil ?_)
              refine q_next (fun a ha => ?_)
              cases hb13
              exact ⟨rfl, ha.cut (l := [1, 46, 50, 58]) rfl⟩
           ·refine r_lit 50 rfl hb12 ?_
            refine r_off rfl (by decide) rfl (r_off rfl (by decide) rfl (r_off rfl (by decide) rfl (r_off rfl (by decide) rfl (r_off rfl (by decide) rfl (r_off rfl (by decide) rfl (r_off rfl (by decide) rfl (r_off rfl (by decide) rfl (r_pick_false rfl rfl rfl rfl (r_nil ?_)))))))))
            refine q_next (fun a ha => ?_)
            cases hb11
            exact ⟨rfl, ha.cut (l := [1, 46, 59]) rfl⟩
       ·clear hm
        rcases cond_some hb5 with ⟨hb15, hb5⟩ | ⟨hb15, hb5⟩
        ·refine r_lit 37 rfl hb15 ?_
         refine r_off rfl (by decide) rfl (r_off rfl (by decide) rfl (r_off rfl (by decide) rfl (r_off rfl (by decide) rfl (r_off rfl (by decide) rfl (r_off rfl (by decide) rfl (r_off rfl (by decide) rfl (r_pick_true rfl rfl rfl rfl (r_nil ?_))))))))
         refine q_next (fun a ha => ?_)
         cases hb5
         exact ⟨rfl, ha.cut (l := [1, 45]) rfl⟩
        ·refine r_lit 37 rfl hb15 ?_
         refine r_move rfl rfl rfl (r_not rfl rfl rfl (r_move rfl rfl rfl ?_))
         obtain ⟨v10, hb16, hb5⟩ := bind_some hb5
         refine r_mid 4 (fun a w' => wx3 = w' ∧ Has 75 a [(1, .pointer (some ⟨b1, 0, none⟩)), (37, .bool false), (44, .bool v10)]) ?_ ?_
         ·rintro a wx13 ⟨rfl, hax11⟩
          refine rw_apply hax11 ?_
          refine r_pick_false rfl rfl rfl rfl (r_nil ?_)
          refine q_next (fun a ha => ?_)
          cases hb5
          exact ⟨rfl, ha.cut (l := [1, 45]) rfl⟩
         ·clear hb5
          rcases cond_some hb16 with ⟨hb17, hb16⟩ | ⟨hb17, hb16⟩
          ·refine r_lit 40 rfl hb17 ?_
           refine r_fieldAddr fa24_2 rfl rfl rfl ?_
           refine r_loadB1 ag9 rfl rfl hx2 rfl (i := 0) rfl rfl ?_
           refine r_str rfl rfl rfl rfl rfl ?_
           refine r_pick_true rfl rfl rfl rfl (r_nil ?_)
           refine q_next (fun a ha => ?_)
           cases hb16
           exact ⟨rfl, ha.cut (l := [1, 37, 44]) rfl⟩
          ·refine r_lit 40 rfl hb17 ?_
           refine r_off rfl (by decide) rfl (r_off rfl (by decide) rfl (r_off rfl (by decide) rfl (r_pick_false rfl rfl rfl rfl (r_nil ?_))))
           refine q_next (fun a ha => ?_)
           cases hb16
           exact ⟨rfl, ha.cut (l := [1, 37, 44]) rfl⟩
      ·clear hm
       rcases cond_some hb4 with ⟨hb18, hb4⟩ | ⟨hb18, hb4⟩
       ·refine r_lit 31 rfl hb18 ?_
        refine r_fieldAddr fa24_2 rfl rfl rfl ?_
        refine r_loadB1 ag9 rfl rfl hx2 rfl (i := 0) rfl rfl ?_
        obtain ⟨v11, hv3, hb4⟩ := bind_some hb4
        refine r_callP0 ent64 rfl rfl rfl rfl (ref06_Name_ok _ _ _ hv3) ?_
        refine r_not rfl rfl rfl (r_pick_true rfl rfl rfl rfl (r_nil ?_))
        refine q_next (fun a ha => ?_)
        cases hb4
        exact ⟨rfl, ha.cut (l := [1, 3, 36]) rfl⟩
       ·refine r_lit 31 rfl hb18 ?_
        refine r_off rfl (by decide) rfl (r_off rfl (by decide) rfl (r_off rfl (by decide) rfl (r_off rfl (by decide) rfl (r_pick_false rfl rfl rfl rfl (r_nil ?_)))))
        refine q_next (fun a ha => ?_)
        cases hb4
        exact ⟨rfl, ha.cut (l := [1, 3, 36]) rfl⟩
     ·clear hm
      rcases cond_some hb3 with ⟨hb19, hb3⟩ | ⟨hb19, hb3⟩
      ·refine r_lit 25 rfl hb19 ?_
       refine r_off rfl (by decide) rfl (r_off rfl (by decide) rfl (r_off rfl (by decide) rfl (r_pick_true rfl rfl rfl rfl (r_nil ?_))))
       refine q_next (fun a ha => ?_)
       cases hb3
       exact ⟨rfl, ha.cut (l := [1, 29]) rfl⟩
      ·refine r_lit 25 rfl hb19 ?_
       refine r_fieldAddr fa24_0 rfl rfl rfl ?_
       refine r_loadB1 ag3 rfl rfl hx2 rfl (i := 0) rfl rfl ?_
       refine r_bin rfl rfl rfl rfl rfl ?_
       refine r_pick_false rfl rfl rfl rfl (r_nil ?_)
       refine q_next (fun a ha => ?_)
       cases hb3
       exact ⟨rfl, ha.cut (l := [1, 29]) rfl⟩
   ·clear hm
    rcases cond_some hb1 with ⟨hb20, hb1⟩ | ⟨hb20, hb1⟩
    ·refine q_lit 12 rfl hb20 ?_
     refine q_off rfl rfl rfl (q_off rfl rfl rfl (q_off rfl rfl rfl (q_off rfl rfl rfl (q_off rfl rfl rfl (q_off rfl rfl rfl (q_off rfl rfl rfl (q_off rfl rfl rfl ?_)))))))
     refine q_stp rfl rfl rfl rfl (fun _ _ _ _ => r_pick_true rfl rfl rfl rfl (r_nil (qq rfl))) ?_
     refine q_nil (fun a ha => ?_)
     cases hb1
     exact ha.cut (l := [1, 21]) rfl
    ·refine q_lit 12 rfl hb20 ?_
     refine q_stp rfl rfl rfl rfl (fun _ _ _ _ => r_fieldAddr fa24_0 rfl rfl rfl (r_nil (qq rfl))) ?_
     refine q_stp rfl rfl rfl rfl (fun _ _ _ hq => r_loadB1 ag3 rfl rfl hq rfl (i := 0) rfl rfl (r_nil (qq rfl))) ?_
     refine q_stp rfl rfl rfl rfl (fun _ _ _ _ => r_bin rfl rfl rfl rfl rfl (r_nil (qq rfl))) ?_
     refine q_stp rfl rfl rfl rfl (fun _ _ _ _ => r_move rfl rfl rfl (r_nil (qq rfl))) ?_
     obtain ⟨v12, hb21, hb1⟩ := bind_some hb1
     refine q_mid 4 (fun a => Has 75 a [(1, .pointer (some ⟨b1, 0, none⟩)), (12, .bool false), (20, .bool v12)]) ?_ ?_
     ·intro a hax12
      refine qr_apply hax12 ?_
      refine q_stp rfl rfl rfl rfl (fun _ _ _ _ => r_pick_false rfl rfl rfl rfl (r_nil (qq rfl))) ?_
      refine q_nil (fun a ha => ?_)
      cases hb1
      exact ha.cut (l := [1, 21]) rfl
     ·clear hb1
      rcases cond_some hb21 with ⟨hb22, hb21⟩ | ⟨hb22, hb21⟩
      ·refine q_lit 16 rfl hb22 ?_
       refine q_stp rfl rfl rfl rfl (fun _ _ _ _ => r_fieldAddr fa24_1 rfl rfl rfl (r_nil (qq rfl))) ?_
       refine q_stp rfl rfl rfl rfl (fun _ _ _ hq => r_loadB1 ag3 rfl rfl hq rfl (i := 0) rfl rfl (r_nil (qq rfl))) ?_
       refine q_stp rfl rfl rfl rfl (fun _ _ _ _ => r_bin rfl rfl rfl rfl rfl (r_nil (qq rfl))) ?_
       refine q_stp rfl rfl rfl rfl (fun _ _ _ _ => r_pick_true rfl rfl rfl rfl (r_nil (qq rfl))) ?_
       refine q_nil (fun a ha => ?_)
       cases hb21
       exact ha.cut (l := [1, 12, 20]) rfl
      ·refine q_lit 16 rfl hb22 ?_
       refine q_off rfl rfl rfl (q_off rfl rfl rfl (q_off rfl rfl rfl ?_))
       refine q_stp rfl rfl rfl rfl (fun _ _ _ _ => r_pick_false rfl rfl rfl rfl (r_nil (qq rfl))) ?_
       refine q_nil (fun a ha => ?_)
       cases hb21
       exact ha.cut (l := [1, 12, 20]) rfl
theorem ref35_shaped_ok (n : Nat) (x1 : Expr) (r : Bool) (hm : ref35_shaped n x1 = some r) {w : World} {F : Frz} (hs : Sat F w) {as1 : Option Addr} {ns1 : Nat} {cs1 : Nat} (hs1 : SlR rp_Expr F as1 ns1 cs1 x1.Args) :
  Calls Tryz.prog 73 #[.agg #[.int .i64 x1.Op, .int .i64 x1.N, vs x1.Name, .slice as1 ns1 cs1]] w fun e w' => ∃ v F' O', e = .returned v ∧ HS F w [] F' O' w' ∧ (v = .bool r ∧ O' = []) :=
 (ref35_shaped_all n) x1 r hm hs hs1
def ref35_Form (n : Nat) (x1 : Expr) : Option Bool :=
 (ref35_Few n x1 100 10).bind fun v1 =>
 (bif v1 then
  (ref35_shaped n x1).bind fun v3 =>
  some v3
 else
  some false).bind fun v2 =>
 some v2
set_option maxHeartbeats 1000000 in
set_option maxRecDepth 1000000 in
theorem ref35_Form_ok (n : Nat) (x1 : Expr) (r : Bool) (hm : ref35_Form n x1 = some r) {w : World} {F : Frz} (hs : Sat F w) {as1 : Option Addr} {ns1 : Nat} {cs1 : Nat} (hs1 : SlR rp_Expr F as1 ns1 cs1 x1.Args) :
  Calls Tryz.prog 48 #[.agg #[.int .i64 x1.Op, .int .i64 x1.N, vs x1.Name, .slice as1 ns1 cs1]] w fun e w' => ∃ v F' O', e = .returned v ∧ HS F w [] F' O' w' ∧ (v = .bool r ∧ O' = []) := by
 unfold ref35_Form at hm
 have h := HS.init hs
 refine calls_of 9 Tryz.func48 rfl rfl rfl ?_
 refine c_seq (c_region ?_)
 refine r_box rfl rfl rfl rfl h ?_
 intro b1 wx1 hx1
 refine r_assign rfl rfl rfl (r_nil (q_then (c_seq (c_region ?_))))
 refine r_loadBW ag24 sz24 rfl rfl hx1 rfl (i := 0) rfl rfl ?_
 obtain ⟨v1, hv1, hm⟩ := bind_some hm
 refine r_callG0 ent18 rfl rfl rfl rfl hx1 (ref35_Few_ok _ _ _ _ _ hv1 hx1.sat hs1) ?_
 rintro _ Fx1 _ wx2 hF1 hx2 ⟨rfl, rfl⟩
 refine r_move rfl rfl rfl ?_
 obtain ⟨v2, hb1, hm⟩ := bind_some hm
 refine r_mid 3 (fun a w' => ∃ (Fx2 : Frz), Frz.le Fx1 Fx2 ∧ HS F w [] Fx2 [.box b1 24 [.int .i64 x1.Op, .int .i64 x1.N, vs x1.Name, .slice as1 ns1 cs1]] w' ∧ Has 9 a [(8, .bool v2)]) ?_ ?_
 ·rintro a wx3 ⟨Fx2, hF2, hx3, hax1⟩
  refine rw_apply hax1 ?_
  refine r_assign rfl rfl rfl (r_nil (q_then (c_ret ?_)))
  refine b_ret1 rfl rfl ?_
  obtain rfl := Option.some.inj hm
  exact ⟨_, _, _, rfl, hx3.pick [] (by decide) rfl, rfl, rfl⟩
 ·clear hm
  rcases cond_some hb1 with ⟨hb2, hb1⟩ | ⟨hb2, hb1⟩
  ·refine r_lit 5 rfl hb2 ?_
   refine r_loadBW ag24 sz24 rfl rfl hx2 rfl (i := 0) rfl rfl ?_
   obtain ⟨v3, hv2, hb1⟩ := bind_some hb1
   refine r_callG0 ent73 rfl rfl rfl rfl hx2 (ref35_shaped_ok _ _ _ hv2 hx2.sat (hs1.mono hF1)) ?_
   rintro _ Fx3 _ wx4 hF3 hx4 ⟨rfl, rfl⟩
   refine r_pick_true rfl rfl rfl rfl (r_nil ?_)
   refine q_next (fun a ha => ?_)
   cases hb1
   exact ⟨_, hF3, hx4.pick [0] (by decide) rfl, ha.cut (l := [8]) rfl⟩
  ·refine r_lit 5 rfl hb2 ?_
   refine r_off rfl (by decide) rfl (r_off rfl (by decide) rfl (r_pick_false rfl rfl rfl rfl (r_nil ?_)))
   refine q_next (fun a ha => ?_)
   cases hb1
   exact ⟨_, Frz.refl _, hx2.pick [0] (by decide) rfl, ha.cut (l := [8]) rfl⟩
theorem ent48 : Ent Tryz.prog 48 := fun _ _ => by kernel_rfl
def ref35_Written (n : Nat) (t1 : Tariff) : Option Bool :=
 (ref06_Name n t1.Name).bind fun v1 =>
 (bif v1 then
  (ref35_Form n t1.Fee).bind fun v5 =>
  some v5
 else
  some false).bind fun v2 =>
 (bif v2 then
  some (decide ((-1) ≤ t1.Cap))
 else
  some false).bind fun v3 =>
 (bif v3 then
  some (decide (t1.Cap ≤ 1099511627776))
 else
  some false).bind fun v4 =>
 some v4
set_option maxHeartbeats 1000000 in
set_option maxRecDepth 1000000 in
theorem ref35_Written_ok (n : Nat) (t1 : Tariff) (r : Bool) (hm : ref35_Written n t1 = some r) {w : World} {F : Frz} (hs : Sat F w) {as1 : Option Addr} {ns1 : Nat} {cs1 : Nat} (hs1 : SlR rp_Expr F as1 ns1 cs1 t1.Fee.Args) :
  Calls Tryz.prog 38 #[.agg #[vs t1.Name, .int .i64 t1.Fee.Op, .int .i64 t1.Fee.N, vs t1.Fee.Name, .slice as1 ns1 cs1, .int .i64 t1.Cap]] w fun e w' => ∃ v F' O', e = .returned v ∧ HS F w [] F' O' w' ∧ (v = .bool r ∧ O' = []) := by
 unfold ref35_Written at hm
 have h := HS.init hs
 refine calls_of 21 Tryz.func38 rfl rfl rfl ?_
 refine c_seq (c_region ?_)
 refine r_box rfl rfl rfl rfl h ?_
 intro b1 wx1 hx1
 refine r_assign rfl rfl rfl (r_nil (q_then (c_seq (c_region ?_))))
 refine r_fieldAddr fa26_0 rfl rfl rfl ?_
 refine r_loadB1 ag9 rfl rfl hx1 rfl (i := 0) rfl rfl ?_
 obtain ⟨v1, hv1, hm⟩ := bind_some hm
 refine r_callP0 ent64 rfl rfl rfl rfl (ref06_Name_ok _ _ _ hv1) ?_
 refine r_move rfl rfl rfl ?_
 obtain ⟨v2, hb1, hm⟩ := bind_some hm
 refine r_mid 4 (fun a w' => ∃ (Fx1 : Frz), Frz.le F Fx1 ∧ HS F w [] Fx1 [.box b1 26 [vs t1.Name, .int .i64 t1.Fee.Op, .int .i64 t1.Fee.N, vs t1.Fee.Name, .slice as1 ns1 cs1, .int .i64 t1.Cap]] w' ∧ Has 21 a [(1, .pointer (some ⟨b1, 0, none⟩)), (10, .bool v2)]) ?_ ?_
 ·rintro a wx2 ⟨Fx1, hF1, hx2, hax1⟩
  refine rw_apply hax1 ?_
  refine r_move rfl rfl rfl ?_
  obtain ⟨v3, hb2, hm⟩ := bind_some hm
  refine r_mid 4 (fun a w' => wx2 = w' ∧ Has 21 a [(1, .pointer (some ⟨b1, 0, none⟩)), (15, .bool v3)]) ?_ ?_
  ·rintro a wx3 ⟨rfl, hax2⟩
   refine rw_apply hax2 ?_
   refine r_move rfl rfl rfl ?_
   obtain ⟨v4, hb3, hm⟩ := bind_some hm
   refine r_mid 4 (fun a w' => wx2 = w' ∧ Has 21 a [(20, .bool v4)]) ?_ ?_
   ·rintro a wx4 ⟨rfl, hax3⟩
    refine rw_apply hax3 ?_
    refine r_assign rfl rfl rfl (r_nil (q_then (c_ret ?_)))
    refine b_ret1 rfl rfl ?_
    obtain rfl := Option.some.inj hm
    exact ⟨_, _, _, rfl, hx2.pick [] (by decide) rfl, rfl, rfl⟩
   ·clear hm
    rcases cond_some hb3 with ⟨hb4, hb3⟩ | ⟨hb4, hb3⟩
    ·refine r_lit 16 rfl hb4 ?_
     refine r_fieldAddr fa26_2 rfl rfl rfl ?_
     refine r_loadB1 ag3 rfl rfl hx2 rfl (i := 0) rfl rfl ?_
     refine r_bin rfl rfl rfl rfl rfl ?_
     refine r_pick_true rfl rfl rfl rfl (r_nil ?_)
     refine q_next (fun a ha => ?_)
     cases hb3
     exact ⟨rfl, ha.cut (l := [20]) rfl⟩
    ·refine r_lit 16 rfl hb4 ?_
     refine r_off rfl (by decide) rfl (r_off rfl (by decide) rfl (r_off rfl (by decide) rfl (r_pick_false rfl rfl rfl rfl (r_nil ?_))))
     refine q_next (fun a ha => ?_)
     cases hb3
     exact ⟨rfl, ha.cut (l := [20]) rfl⟩
  ·clear hm
   rcases cond_some hb2 with ⟨hb5, hb2⟩ | ⟨hb5, hb2⟩
   ·refine r_lit 11 rfl hb5 ?_
    refine r_fieldAddr fa26_2 rfl rfl rfl ?_
    refine r_loadB1 ag3 rfl rfl hx2 rfl (i := 0) rfl rfl ?_
    refine r_bin rfl rfl rfl rfl rfl ?_
    refine r_pick_true rfl rfl rfl rfl (r_nil ?_)
    refine q_next (fun a ha => ?_)
    cases hb2
    exact ⟨rfl, ha.cut (l := [1, 15]) rfl⟩
   ·refine r_lit 11 rfl hb5 ?_
    refine r_off rfl (by decide) rfl (r_off rfl (by decide) rfl (r_off rfl (by decide) rfl (r_pick_false rfl rfl rfl rfl (r_nil ?_))))
    refine q_next (fun a ha => ?_)
    cases hb2
    exact ⟨rfl, ha.cut (l := [1, 15]) rfl⟩
 ·clear hm
  rcases cond_some hb1 with ⟨hb6, hb1⟩ | ⟨hb6, hb1⟩
  ·refine r_lit 6 rfl hb6 ?_
   refine r_fieldAddr fa26_1 rfl rfl rfl ?_
   refine r_loadBA (cs' := [.int .i64 t1.Fee.Op, .int .i64 t1.Fee.N, vs t1.Fee.Name, .slice as1 ns1 cs1]) ag24 sz24 rfl rfl hx1 rfl (i := 0) rfl rfl rfl ?_
   obtain ⟨v5, hv2, hb1⟩ := bind_some hb1
   refine r_callG0 ent48 rfl rfl rfl rfl hx1 (ref35_Form_ok _ _ _ hv2 hx1.sat hs1) ?_
   rintro _ Fx2 _ wx5 hF2 hx3 ⟨rfl, rfl⟩
   refine r_pick_true rfl rfl rfl rfl (r_nil ?_)
   refine q_next (fun a ha => ?_)
   cases hb1
   exact ⟨_, hF2, hx3.pick [0] (by decide) rfl, ha.cut (l := [1, 10]) rfl⟩
  ·refine r_lit 6 rfl hb6 ?_
   refine r_off rfl (by decide) rfl (r_off rfl (by decide) rfl (r_off rfl (by decide) rfl (r_pick_false rfl rfl rfl rfl (r_nil ?_))))
   refine q_next (fun a ha => ?_)
   cases hb1
   exact ⟨_, Frz.refl _, hx1.pick [0] (by decide) rfl, ha.cut (l := [1, 10]) rfl⟩
def ref35_Names_L2 (n : Nat) (l1 : (List Bs)) (i1 : Int) (kont2 : Option Bool) : Nat → Int → Option Bool
 | 0, _ => none
 | mx2 + 1, k1 =>
  bif decide (k1 < i1) then
   (ix l1 k1).bind fun ex2 =>
   (ix l1 i1).bind fun ex3 =>
   bif ex2 == ex3 then
    some false
   else
    ref35_Names_L2 n l1 i1 kont2 mx2 (iadd .i64 k1 1)
  else
   kont2
theorem ref35_Names_L2_s (n : Nat) (l1 : (List Bs)) (i1 : Int) (kont2 : Option Bool) (mx2 : Nat) (k1 : Int) : ref35_Names_L2 n l1 i1 kont2 (mx2 + 1) k1 =
  bif decide (k1 < i1) then
   (ix l1 k1).bind fun ex2 =>
   (ix l1 i1).bind fun ex3 =>
   bif ex2 == ex3 then
    some false
   else
    ref35_Names_L2 n l1 i1 kont2 mx2 (iadd .i64 k1 1)
  else
   kont2 := rfl
def ref35_Names_L1 (n : Nat) (l1 : (List Bs)) (kont1 : Option Bool) : Nat → Int → Option Bool
 | 0, _ => none
 | mx1 + 1, i1 =>
  bif decide (i1 < (l1.length : Int)) then
   (ix l1 i1).bind fun ex1 =>
   (ref06_Name n ex1).bind fun v1 =>
   bif !v1 then
    some false
   else
    ref35_Names_L2 n l1 i1 (
     ref35_Names_L1 n l1 kont1 mx1 (iadd .i64 i1 1)) n 0
  else
   kont1
theorem ref35_Names_L1_s (n : Nat) (l1 : (List Bs)) (kont1 : Option Bool) (mx1 : Nat) (i1 : Int) : ref35_Names_L1 n l1 kont1 (mx1 + 1) i1 =
  bif decide (i1 < (l1.length : Int)) then
   (ix l1 i1).bind fun ex1 =>
   (ref06_Name n ex1).bind fun v1 =>
   bif !v1 then
    some false
   else
    ref35_Names_L2 n l1 i1 (
     ref35_Names_L1 n l1 kont1 mx1 (iadd .i64 i1 1)) n 0
  else
   kont1 := rfl
def ref35_Names (n : Nat) (l1 : (List Bs)) : Option Bool :=
 bif decide (6 < (l1.length : Int)) then
  some false
 else
  ref35_Names_L1 n l1 (
   some true) n 0
set_option maxHeartbeats 1000000 in
set_option maxRecDepth 1000000 in
theorem ref35_Names_ok (n : Nat) (l1 : (List Bs)) (r : Bool) (hm : ref35_Names n l1 = some r) {w : World} {F : Frz} (hs : Sat F w) {as1 : Option Addr} {ns1 : Nat} {cs1 : Nat} (hs1 : SlR Rp.str F as1 ns1 cs1 l1) :
  Calls Tryz.prog 47 #[.slice as1 ns1 cs1] w fun e w' => ∃ v F' O', e = .returned v ∧ HS F w [] F' O' w' ∧ (v = .bool r ∧ O' = []) := by
 unfold ref35_Names at hm
 have h := HS.init hs
 refine calls_of 34 Tryz.func47 rfl rfl rfl ?_
 refine c_seq (c_region (r_assign rfl rfl rfl (r_nil (q_then (c_seq (c_seq (c_region (r_move rfl rfl rfl ?_))))))))
 refine r_lenS hs1.len u27 rfl rfl rfl ?_
 refine r_bin rfl rfl rfl rfl rfl ?_
 refine r_nil (q_then ?_)
 rcases cond_some hm with ⟨hb1, hm⟩ | ⟨hb1, hm⟩
 ·refine c_lit 7 rfl hb1 ?_
  refine c_true rfl (c_seq (c_region (r_assign rfl rfl rfl (r_nil (q_then (c_ret (q_then_ret ?_)))))))
  refine b_ret1 rfl rfl ?_
  obtain rfl := Option.some.inj hm
  exact ⟨_, _, _, rfl, h.pick [] (by decide) rfl, rfl, rfl⟩
 ·refine c_lit 7 rfl hb1 ?_
  refine c_false rfl (c_skip (q_then (c_seq (c_seq (c_region (r_assign rfl rfl rfl (r_nil (q_then (c_block ?_)))))))))
  intro a hax6
  obtain ⟨kont1, hkont1⟩ : ∃ kont1 : Option Bool, kont1 = (
       some true) := ⟨_, rfl⟩
  replace hm : (fun m (s : Int) => ref35_Names_L1 n l1 kont1 m s) n 0 = some r := by rw [hkont1]; exact hm
  refine loopX (id := 0) (fun m (s : Int) => ref35_Names_L1 n l1 kont1 m s) (fun (y : Unit) => kont1) r (fun (s : Int) a w' => ∃ (Fx1 : Frz), Frz.le F Fx1 ∧ HS F w [] Fx1 [] w' ∧ Has 34 a [(0, .slice as1 ns1 cs1), (3, .int .i64 s)]) (fun (y : Unit) a w' => ∃ (Fx2 : Frz), Frz.le F Fx2 ∧ HS F w [] Fx2 [] w' ∧ Has 34 a []) (fun _ => rfl) ?_ ?_ hm ⟨_, Frz.refl _, h.pick [] (by decide) rfl, hax6.cut (l := [0, 3]) rfl⟩
  ·clear hm; rintro _u a wx1 hm ⟨Fx2, hF2, hx2, hax1⟩
   rw [hkont1] at hm
   refine qw_apply (e := .exit 0) hax1 ?_
   refine q_block_hit (q_then (c_seq (c_region (r_assign rfl rfl rfl (r_nil (q_then (c_ret ?_)))))))
   refine b_ret1 rfl rfl ?_
   obtain rfl := Option.some.inj hm
   exact ⟨_, _, _, rfl, hx2.pick [] (by decide) rfl, rfl, rfl⟩
  ·clear hm hkont1; intro hk1 mx1 K ihx1
   rintro i1 a wx2 hm ⟨Fx1, hF1, hx1, hax2⟩
   simp only [ref35_Names_L1_s] at hm
   refine cw_apply hax2 ?_
   refine c_seq (c_seq (c_region (r_move rfl rfl rfl (r_move rfl rfl rfl ?_))))
   refine r_lenS hs1.len u27 rfl rfl rfl ?_
   refine r_bin rfl rfl rfl rfl rfl ?_
   refine r_nil (q_then ?_)
   rcases cond_some hm with ⟨hb2, hm⟩ | ⟨hb2, hm⟩
   ·refine c_lit 11 rfl hb2 ?_
    refine c_true rfl (c_skip (q_then (c_seq (c_block (c_seq (c_seq (c_region (r_move rfl rfl rfl (r_move rfl rfl rfl ?_)))))))))
    obtain ⟨ex1, he1, hm⟩ := bind_some hm
    refine r_findex (r := Rp.str) u27 sz9 rfl rfl rfl rfl (hs1.mono hF1) he1 ?_
    intro b1 o1 cs1 hf1 hr1
    have hc1 : cs1 = [vs ex1] := hr1
    subst hc1
    refine r_loadF1 (j := 0) ag9 rfl rfl hx1 hf1 rfl rfl ?_
    obtain ⟨v1, hv1, hm⟩ := bind_some hm
    refine r_callP0 ent64 rfl rfl rfl rfl (ref06_Name_ok _ _ _ hv1) ?_
    refine r_not rfl rfl rfl (r_nil (q_then ?_))
    rcases cond_some hm with ⟨hb3, hm⟩ | ⟨hb3, hm⟩
    ·refine c_lit 19 rfl hb3 ?_
     refine c_true rfl (c_seq (c_region (r_assign rfl rfl rfl (r_nil (q_then (c_ret (q_then_ret (q_block_ret (q_then_ret (q_then_ret (q_block_ret (q_then_ret ?_))))))))))))
     refine b_ret1 rfl rfl ?_
     obtain rfl := Option.some.inj hm
     exact ⟨_, _, _, rfl, hx1.pick [] (by decide) rfl, rfl, rfl⟩
    ·refine c_lit 19 rfl hb3 ?_
     refine c_false rfl (c_skip (q_then (c_seq (c_region (r_assign rfl rfl rfl (r_nil (q_then (c_block ?_))))))))
     intro a hax5
     obtain ⟨kont2, hkont2⟩ : ∃ kont2 : Option Bool, kont2 = (
       ref35_Names_L1 n l1 kont1 mx1 (iadd .i64 i1 1)) := ⟨_, rfl⟩
     replace hm : (fun m (s : Int) => ref35_Names_L2 n l1 i1 kont2 m s) n 0 = some r := by rw [hkont2]; exact hm
     refine loopX (id := 2) (fun m (s : Int) => ref35_Names_L2 n l1 i1 kont2 m s) (fun (y : Unit) => kont2) r (fun (s : Int) a w' => ∃ (Fx3 : Frz), Frz.le Fx1 Fx3 ∧ HS F w [] Fx3 [] w' ∧ Has 34 a [(0, .slice as1 ns1 cs1), (3, .int .i64 i1), (4, .int .i64 s)]) (fun (y : Unit) a w' => ∃ (Fx4 : Frz), Frz.le Fx1 Fx4 ∧ HS F w [] Fx4 [] w' ∧ Has 34 a [(0, .slice as1 ns1 cs1), (3, .int .i64 i1)]) (fun _ => rfl) ?_ ?_ hm ⟨_, Frz.refl _, hx1.pick [] (by decide) rfl, hax5.cut (l := [0, 3, 4]) rfl⟩
     ·clear hm; rintro _u a wx3 hm ⟨Fx4, hF4, hx4, hax3⟩
      rw [hkont2] at hm
      refine qw_apply (e := .exit 2) hax3 ?_
      refine q_block_hit (q_block (q_then (c_region (r_move rfl rfl rfl ?_))))
      refine r_bin rfl rfl rfl rfl rfl ?_
      refine r_assign rfl rfl rfl (r_nil ?_)
      refine q_next (fun a ha => ihx1 (iadd .i64 i1 1) a _ hm ?_)
      exact ⟨_, (hF1.trans hF4), hx4.pick [] (by decide) rfl, ha.cut (l := [0, 3]) rfl⟩
     ·clear hm hkont2; intro hk2 mx2 K ihx2
      rintro k1 a wx4 hm ⟨Fx3, hF3, hx3, hax4⟩
      simp only [ref35_Names_L2_s] at hm
      refine cw_apply hax4 ?_
      refine c_seq (c_seq (c_region (r_move rfl rfl rfl (r_move rfl rfl rfl ?_))))
      refine r_bin rfl rfl rfl rfl rfl ?_
      refine r_nil (q_then ?_)
      rcases cond_some hm with ⟨hb4, hm⟩ | ⟨hb4, hm⟩
      ·refine c_lit 22 rfl hb4 ?_
       refine c_true rfl (c_skip (q_then (c_seq (c_block (c_seq ?_)))))
       refine c_regionD (by kernel_rfl) (by kernel_rfl) hx3 ?_
       refine q_stp rfl rfl rfl rfl (fun _ _ _ _ => r_move rfl rfl rfl (r_nil (qq rfl))) ?_
       refine q_stp rfl rfl rfl rfl (fun _ _ _ _ => r_move rfl rfl rfl (r_nil (qq rfl))) ?_
       obtain ⟨ex2, he2, hm⟩ := bind_some hm
       obtain ⟨b2, o2, cs2, hf2, hr2, hrun1⟩ := findex_ex (P := Tryz.prog) (r := Rp.str) u27 sz9 ((hs1.mono hF1).mono hF3) he2
       have hc2 : cs2 = [vs ex2] := hr2
       subst hc2
       refine q_findex rfl rfl rfl rfl hrun1 ?_
       refine q_stp rfl rfl rfl rfl (fun _ _ hleq hq => r_loadF1 (j := 0) ag9 rfl rfl hq (hf2.mono hleq) rfl rfl (r_nil (qq rfl))) ?_
       refine q_stp rfl rfl rfl rfl (fun _ _ _ _ => r_move rfl rfl rfl (r_nil (qq rfl))) ?_
       refine q_stp rfl rfl rfl rfl (fun _ _ _ _ => r_move rfl rfl rfl (r_nil (qq rfl))) ?_
       obtain ⟨ex3, he3, hm⟩ := bind_some hm
       obtain ⟨b3, o3, cs3, hf3, hr3, hrun2⟩ := findex_ex (P := Tryz.prog) (r := Rp.str) u27 sz9 ((hs1.mono hF1).mono hF3) he3
       have hc3 : cs3 = [vs ex3] := hr3
       subst hc3
       refine q_findex rfl rfl rfl rfl hrun2 ?_
       refine q_stp rfl rfl rfl rfl (fun _ _ hleq hq => r_loadF1 (j := 0) ag9 rfl rfl hq (hf3.mono hleq) rfl rfl (r_nil (qq rfl))) ?_
       refine q_stp rfl rfl rfl rfl (fun _ _ _ _ => r_str rfl rfl rfl rfl rfl (r_nil (qq rfl))) ?_
       refine q_end ?_
       rintro wx5 ⟨Fx5, hF5, hx5⟩
       refine q_then ?_
       rcases cond_some hm with ⟨hb5, hm⟩ | ⟨hb5, hm⟩
       ·refine c_lit 33 rfl hb5 ?_
        refine c_true rfl (c_seq (c_region (r_assign rfl rfl rfl (r_nil (q_then (c_ret (q_block_ret (q_then_ret (q_then_ret (q_block_ret (q_block_ret (q_then_ret (q_then_ret (q_block_ret (q_then_ret ?_)))))))))))))))
        refine b_ret1 rfl rfl ?_
        obtain rfl := Option.some.inj hm
        exact ⟨_, _, _, rfl, hx5.pick [] (by decide) rfl, rfl, rfl⟩
       ·refine c_lit 33 rfl hb5 ?_
        refine c_false rfl (c_skip (q_block (q_then (c_region (r_move rfl rfl rfl ?_)))))
        refine r_bin rfl rfl rfl rfl rfl ?_
        refine r_assign rfl rfl rfl (r_nil ?_)
        refine q_next (fun a ha => ihx2 (iadd .i64 k1 1) a _ hm ?_)
        exact ⟨_, (hF3.trans hF5), hx5.pick [] (by decide) rfl, ha.cut (l := [0, 3, 4]) rfl⟩
      ·refine c_lit 22 rfl hb4 ?_
       refine c_false rfl (c_exit (q_then_exit (q_then_exit ?_)))
       refine fun a ha => hk2 () a _ hm ?_
       exact ⟨_, hF3, hx3.pick [] (by decide) rfl, ha.cut (l := [0, 3]) rfl⟩
   ·refine c_lit 11 rfl hb2 ?_
    refine c_false rfl (c_exit (q_then_exit (q_then_exit ?_)))
    refine fun a ha => hk1 () a _ hm ?_
    exact ⟨_, hF1, hx1.pick [] (by decide) rfl, ha.cut (l := []) rfl⟩
def ref35_Number_L1 (n : Nat) (l1 : (List Bs)) (name1 : Bs) (kont1 : Option Int) : Nat → Int → Option Int
 | 0, _ => none
 | mx1 + 1, i1 =>
  bif decide (i1 < (l1.length : Int)) then
   (ix l1 i1).bind fun ex1 =>
   bif ex1 == name1 then
    some i1
   else
    ref35_Number_L1 n l1 name1 kont1 mx1 (iadd .i64 i1 1)
  else
   kont1
theorem ref35_Number_L1_s (n : Nat) (l1 : (List Bs)) (name1 : Bs) (kont1 : Option Int) (mx1 : Nat) (i1 : Int) : ref35_Number_L1 n l1 name1 kont1 (mx1 + 1) i1 =
  bif decide (i1 < (l1.length : Int)) then
   (ix l1 i1).bind fun ex1 =>
   bif ex1 == name1 then
    some i1
   else
    ref35_Number_L1 n l1 name1 kont1 mx1 (iadd .i64 i1 1)
  else
   kont1 := rfl
def ref35_Number (n : Nat) (l1 : (List Bs)) (name1 : Bs) : Option Int :=
 ref35_Number_L1 n l1 name1 (
  some (-1)) n 0
set_option maxHeartbeats 1000000 in
set_option maxRecDepth 1000000 in
theorem ref35_Number_ok (n : Nat) (l1 : (List Bs)) (name1 : Bs) (r : Int) (hm : ref35_Number n l1 name1 = some r) {w : World} {F : Frz} (hs : Sat F w) {as1 : Option Addr} {ns1 : Nat} {cs1 : Nat} (hs1 : SlR Rp.str F as1 ns1 cs1 l1) :
  Calls Tryz.prog 74 #[.slice as1 ns1 cs1, vs name1] w fun e w' => e = .returned (.int .i64 r) ∧ w' = w := by
 unfold ref35_Number at hm
 have h := HS.init hs
 refine calls_of 19 Tryz.func74 rfl rfl rfl ?_
 refine c_seq (c_region (r_assign rfl rfl rfl (r_nil (q_then (c_seq (c_seq (c_region (r_assign rfl rfl rfl (r_nil (q_then (c_block ?_)))))))))))
 intro a hax3
 obtain ⟨kont1, hkont1⟩ : ∃ kont1 : Option Int, kont1 = (
       some (-1)) := ⟨_, rfl⟩
 replace hm : (fun m (s : Int) => ref35_Number_L1 n l1 name1 kont1 m s) n 0 = some r := by rw [hkont1]; exact hm
 refine loopX (id := 0) (fun m (s : Int) => ref35_Number_L1 n l1 name1 kont1 m s) (fun (y : Unit) => kont1) r (fun (s : Int) a w' => w = w' ∧ Has 19 a [(0, .slice as1 ns1 cs1), (1, vs name1), (5, .int .i64 s)]) (fun (y : Unit) a w' => w = w' ∧ Has 19 a []) (fun _ => rfl) ?_ ?_ hm ⟨rfl, hax3.cut (l := [0, 1, 5]) rfl⟩
 ·clear hm; rintro _u a wx1 hm ⟨rfl, hax1⟩
  rw [hkont1] at hm
  refine qw_apply (e := .exit 0) hax1 ?_
  refine q_block_hit (q_then (c_seq (c_region (r_assign rfl rfl rfl (r_nil (q_then (c_ret ?_)))))))
  refine b_ret1 rfl rfl ?_
  obtain rfl := Option.some.inj hm
  exact ⟨rfl, rfl⟩
 ·clear hm hkont1; intro hk1 mx1 K ihx1
  rintro i1 a wx2 hm ⟨rfl, hax2⟩
  simp only [ref35_Number_L1_s] at hm
  refine cw_apply hax2 ?_
  refine c_seq (c_seq (c_region (r_move rfl rfl rfl (r_move rfl rfl rfl ?_))))
  refine r_lenS hs1.len u27 rfl rfl rfl ?_
  refine r_bin rfl rfl rfl rfl rfl ?_
  refine r_nil (q_then ?_)
  rcases cond_some hm with ⟨hb1, hm⟩ | ⟨hb1, hm⟩
  ·refine c_lit 9 rfl hb1 ?_
   refine c_true rfl (c_skip (q_then (c_seq (c_block (c_seq (c_region (r_move rfl rfl rfl (r_move rfl rfl rfl ?_))))))))
   obtain ⟨ex1, he1, hm⟩ := bind_some hm
   refine r_findex (r := Rp.str) u27 sz9 rfl rfl rfl rfl hs1 he1 ?_
   intro b1 o1 cs1 hf1 hr1
   have hc1 : cs1 = [vs ex1] := hr1
   subst hc1
   refine r_loadF1 (j := 0) ag9 rfl rfl h hf1 rfl rfl ?_
   refine r_move rfl rfl rfl ?_
   refine r_str rfl rfl rfl rfl rfl ?_
   refine r_nil (q_then ?_)
   rcases cond_some hm with ⟨hb2, hm⟩ | ⟨hb2, hm⟩
   ·refine c_lit 17 rfl hb2 ?_
    refine c_true rfl (c_seq (c_region (r_move rfl rfl rfl (r_assign rfl rfl rfl (r_nil (q_then (c_ret (q_block_ret (q_then_ret (q_then_ret (q_block_ret (q_then_ret ?_))))))))))))
    refine b_ret1 rfl rfl ?_
    obtain rfl := Option.some.inj hm
    exact ⟨rfl, rfl⟩
   ·refine c_lit 17 rfl hb2 ?_
    refine c_false rfl (c_skip (q_block (q_then (c_region (r_move rfl rfl rfl ?_)))))
    refine r_bin rfl rfl rfl rfl rfl ?_
    refine r_assign rfl rfl rfl (r_nil ?_)
    refine q_next (fun a ha => ihx1 (iadd .i64 i1 1) a _ hm ?_)
    exact ⟨rfl, ha.cut (l := [0, 1, 5]) rfl⟩
  ·refine c_lit 9 rfl hb1 ?_
   refine c_false rfl (c_exit (q_then_exit (q_then_exit ?_)))
   refine fun a ha => hk1 () a _ hm ?_
   exact ⟨rfl, ha.cut (l := []) rfl⟩
def ref35_wide (_n : Nat) (ax1 : Int) (b1 : Int) : Option Int :=
 (bif ax1 == 2 then
  some true
 else
  some (b1 == 2)).bind fun v1 =>
 bif v1 then
  some 2
 else
  some 1
set_option maxHeartbeats 1000000 in
set_option maxRecDepth 1000000 in
theorem ref35_wide_ok (n : Nat) (ax1 : Int) (b1 : Int) (r : Int) (hm : ref35_wide n ax1 b1 = some r) {w : World}  :
  Calls Tryz.prog 98 #[.int .i64 ax1, .int .i64 b1] w fun e w' => e = .returned (.int .i64 r) ∧ w' = w := by
 unfold ref35_wide at hm
 refine calls_of 11 Tryz.func98 rfl rfl rfl ?_
 refine c_seq (c_region (r_assign rfl rfl rfl (r_nil (q_then (c_seq (c_seq (c_region (r_move rfl rfl rfl ?_))))))))
 refine r_bin rfl rfl rfl rfl rfl ?_
 refine r_move rfl rfl rfl ?_
 obtain ⟨v1, hb1, hm⟩ := bind_some hm
 refine r_mid 3 (fun a w' => w = w' ∧ Has 11 a [(10, .bool v1)]) ?_ ?_
 ·rintro a wx1 ⟨rfl, hax1⟩
  refine rw_apply hax1 ?_
  refine r_nil (q_then ?_)
  rcases cond_some hm with ⟨hb2, hm⟩ | ⟨hb2, hm⟩
  ·refine c_lit 10 rfl hb2 ?_
   refine c_true rfl (c_seq (c_region (r_assign rfl rfl rfl (r_nil (q_then (c_ret (q_then_ret ?_)))))))
   refine b_ret1 rfl rfl ?_
   obtain rfl := Option.some.inj hm
   exact ⟨rfl, rfl⟩
  ·refine c_lit 10 rfl hb2 ?_
   refine c_false rfl (c_skip (q_then (c_seq (c_region (r_assign rfl rfl rfl (r_nil (q_then (c_ret ?_))))))))
   refine b_ret1 rfl rfl ?_
   obtain rfl := Option.some.inj hm
   exact ⟨rfl, rfl⟩
 ·clear hm
  rcases cond_some hb1 with ⟨hb3, hb1⟩ | ⟨hb3, hb1⟩
  ·refine r_lit 7 rfl hb3 ?_
   refine r_off rfl (by decide) rfl (r_off rfl (by decide) rfl (r_pick_true rfl rfl rfl rfl (r_nil ?_)))
   refine q_next (fun a ha => ?_)
   cases hb1
   exact ⟨rfl, ha.cut (l := [10]) rfl⟩
  ·refine r_lit 7 rfl hb3 ?_
   refine r_move rfl rfl rfl ?_
   refine r_bin rfl rfl rfl rfl rfl ?_
   refine r_pick_false rfl rfl rfl rfl (r_nil ?_)
   refine q_next (fun a ha => ?_)
   cases hb1
   exact ⟨rfl, ha.cut (l := [10]) rfl⟩
theorem ent98 : Ent Tryz.prog 98 := fun _ _ => by kernel_rfl
def ref35_fit (n : Nat) (op1 : Int) (l1 : (List Int)) : Option (Int × Bool) :=
 bif op1 == 14 then
  (ix l1 0).bind fun ex1 =>
  some (0, ex1 == 0)
 else
  (bif op1 == 15 then
   some true
  else
   some (op1 == 16)).bind fun v1 =>
  bif v1 then
   (ix l1 0).bind fun ex2 =>
   (bif ex2 == 0 then
    (ix l1 1).bind fun ex3 =>
    some (ex3 == 0)
   else
    some false).bind fun v2 =>
   some (0, v2)
  else
   (bif op1 == 12 then
    some true
   else
    some (op1 == 13)).bind fun v3 =>
   bif v3 then
    (ix l1 0).bind fun ex4 =>
    (bif ex4 == 1 then
     (ix l1 1).bind fun ex5 =>
     some (ex5 == 1)
    else
     some false).bind fun v4 =>
    some (0, v4)
   else
    bif op1 == 11 then
     (ix l1 1).bind fun ex6 =>
     (ix l1 2).bind fun ex7 =>
     (ref35_wide n ex6 ex7).bind fun v5 =>
     (ix l1 0).bind fun ex8 =>
     (bif ex8 == 0 then
      (ix l1 1).bind fun ex10 =>
      some (ex10 != 0)
     else
      some false).bind fun v6 =>
     (bif v6 then
      (ix l1 2).bind fun ex9 =>
      some (ex9 != 0)
     else
      some false).bind fun v7 =>
     some (v5, v7)
    else
     (ix l1 0).bind fun ex11 =>
     (bif ex11 != 0 then
      (ix l1 1).bind fun ex16 =>
      some (ex16 != 0)
     else
      some false).bind fun v8 =>
     (bif op1 == 7 then
      (bif v8 then
       (ix l1 0).bind fun ex14 =>
       (bif ex14 == 1 then
        some true
       else
        (ix l1 1).bind fun ex15 =>
        some (ex15 == 1)).bind fun v11 =>
       some v11
      else
       some false).bind fun v10 =>
      some v10
     else
      some v8).bind fun numbers1 =>
     (ix l1 0).bind fun ex12 =>
     (ix l1 1).bind fun ex13 =>
     (ref35_wide n ex12 ex13).bind fun v9 =>
     some (v9, numbers1)
set_option maxHeartbeats 1000000 in
set_option maxRecDepth 1000000 in
theorem ref35_fit_ok (n : Nat) (op1 : Int) (l1 : (List Int)) (r : (Int × Bool)) (hm : ref35_fit n op1 l1 = some r) {w : World} {F : Frz} (hs : Sat F w) {as1 : Option Addr} {ns1 : Nat} {cs1 : Nat} (hs1 : SlR (Rp.int .i64) F as1 ns1 cs1 l1) :
  Calls Tryz.prog 75 #[.int .i64 op1, .slice as1 ns1 cs1] w fun e w' => ∃ v F' O', e = .returned v ∧ HS F w [] F' O' w' ∧ (v = .tuple #[.int .i64 r.1, .bool r.2] ∧ O' = []) := by
 unfold ref35_fit at hm
 have h := HS.init hs
 refine calls_of 98 Tryz.func75 rfl rfl rfl ?_
 refine c_seq (c_region (r_assign rfl rfl rfl (r_assign rfl rfl rfl (r_nil (q_then (c_seq (c_seq (c_region (r_move rfl rfl rfl (r_nil (q_then (c_block (c_seq (c_region ?_))))))))))))))
 refine r_bin rfl rfl rfl rfl rfl ?_
 refine r_assign rfl rfl rfl (r_nil (q_then ?_))
 rcases cond_some hm with ⟨hb1, hm⟩ | ⟨hb1, hm⟩
 ·refine c_lit 8 rfl hb1 ?_
  refine c_true rfl (c_seq ?_)
  refine c_regionD (by kernel_rfl) (by kernel_rfl) h ?_
  refine q_stp rfl rfl rfl rfl (fun _ _ _ _ => r_move rfl rfl rfl (r_nil (qq rfl))) ?_
  obtain ⟨ex1, he1, hm⟩ := bind_some hm
  obtain ⟨b1, o1, cs1, hf1, hr1, hrun1⟩ := findex_ex (P := Tryz.prog) (r := (Rp.int .i64)) u84 sz3 hs1 he1
  have hc1 : cs1 = [.int .i64 ex1] := hr1
  subst hc1
  refine q_findex rfl rfl rfl rfl hrun1 ?_
  refine q_stp rfl rfl rfl rfl (fun _ _ hleq hq => r_loadF1 (j := 0) ag3 rfl rfl hq (hf1.mono hleq) rfl rfl (r_nil (qq rfl))) ?_
  refine q_stp rfl rfl rfl rfl (fun _ _ _ _ => r_bin rfl rfl rfl rfl rfl (r_nil (qq rfl))) ?_
  refine q_stp rfl rfl rfl rfl (fun _ _ _ _ => r_assign rfl rfl rfl (r_nil (qq rfl))) ?_
  refine q_stp rfl rfl rfl rfl (fun _ _ _ _ => r_assign rfl rfl rfl (r_nil (qq rfl))) ?_
  refine q_end ?_
  rintro wx1 ⟨Fx1, hF1, hx1⟩
  refine q_then (c_ret (q_block_ret (q_then_ret ?_)))
  refine b_retA (vl := [.int .i64 0, .bool (ex1 == 0)]) rfl ⟨v_tmp rfl, v_tmp rfl, trivial⟩ (by simp) ?_
  obtain rfl := Option.some.inj hm
  exact ⟨_, _, _, rfl, hx1.pick [] (by decide) rfl, rfl, rfl⟩
 ·refine c_lit 8 rfl hb1 ?_
  refine c_false rfl (c_seq (c_seq (c_region ?_)))
  refine r_bin rfl rfl rfl rfl rfl ?_
  refine r_assign rfl rfl rfl (r_nil (q_then ?_))
  obtain ⟨v1, hb2, hm⟩ := bind_some hm
  refine c_midT (fun a w' => w = w' ∧ Has 98 a [(0, .int .i64 op1), (1, .slice as1 ns1 cs1), (7, .int .i64 op1), (14, .bool v1)]) ?_ ?_
  ·rintro a wx2 ⟨rfl, hax1⟩
   refine cw_apply hax1 ?_
   rcases cond_some hm with ⟨hb3, hm⟩ | ⟨hb3, hm⟩
   ·refine c_lit 14 rfl hb3 ?_
    refine c_true rfl (c_seq ?_)
    refine c_regionD (by kernel_rfl) (by kernel_rfl) h ?_
    refine q_stp rfl rfl rfl rfl (fun _ _ _ _ => r_move rfl rfl rfl (r_nil (qq rfl))) ?_
    obtain ⟨ex2, he2, hm⟩ := bind_some hm
    obtain ⟨b2, o2, cs2, hf2, hr2, hrun2⟩ := findex_ex (P := Tryz.prog) (r := (Rp.int .i64)) u84 sz3 hs1 he2
    have hc2 : cs2 = [.int .i64 ex2] := hr2
    subst hc2
    refine q_findex rfl rfl rfl rfl hrun2 ?_
    refine q_stp rfl rfl rfl rfl (fun _ _ hleq hq => r_loadF1 (j := 0) ag3 rfl rfl hq (hf2.mono hleq) rfl rfl (r_nil (qq rfl))) ?_
    refine q_stp rfl rfl rfl rfl (fun _ _ _ _ => r_bin rfl rfl rfl rfl rfl (r_nil (qq rfl))) ?_
    refine q_stp rfl rfl rfl rfl (fun _ _ _ _ => r_move rfl rfl rfl (r_nil (qq rfl))) ?_
    obtain ⟨v2, hb4, hm⟩ := bind_some hm
    refine q_mid 5 (fun a => Has 98 a [(26, .bool v2)]) ?_ ?_
    ·intro a hax2
     refine qr_apply hax2 ?_
     refine q_stp rfl rfl rfl rfl (fun _ _ _ _ => r_assign rfl rfl rfl (r_nil (qq rfl))) ?_
     refine q_stp rfl rfl rfl rfl (fun _ _ _ _ => r_assign rfl rfl rfl (r_nil (qq rfl))) ?_
     refine q_end ?_
     rintro wx4 ⟨Fx2, hF2, hx2⟩
     refine q_then (c_ret (q_block_ret (q_then_ret ?_)))
     refine b_retA (vl := [.int .i64 0, .bool v2]) rfl ⟨v_tmp rfl, v_tmp rfl, trivial⟩ (by simp) ?_
     obtain rfl := Option.some.inj hm
     exact ⟨_, _, _, rfl, hx2.pick [] (by decide) rfl, rfl, rfl⟩
    ·clear hm
     rcases cond_some hb4 with ⟨hb5, hb4⟩ | ⟨hb5, hb4⟩
     ·refine q_lit 21 rfl hb5 ?_
      refine q_stp rfl rfl rfl rfl (fun _ _ _ _ => r_move rfl rfl rfl (r_nil (qq rfl))) ?_
      obtain ⟨ex3, he3, hb4⟩ := bind_some hb4
      obtain ⟨b3, o3, cs3, hf3, hr3, hrun3⟩ := findex_ex (P := Tryz.prog) (r := (Rp.int .i64)) u84 sz3 hs1 he3
      have hc3 : cs3 = [.int .i64 ex3] := hr3
      subst hc3
      refine q_findex rfl rfl rfl rfl hrun3 ?_
      refine q_stp rfl rfl rfl rfl (fun _ _ hleq hq => r_loadF1 (j := 0) ag3 rfl rfl hq (hf3.mono hleq) rfl rfl (r_nil (qq rfl))) ?_
      refine q_stp rfl rfl rfl rfl (fun _ _ _ _ => r_bin rfl rfl rfl rfl rfl (r_nil (qq rfl))) ?_
      refine q_stp rfl rfl rfl rfl (fun _ _ _ _ => r_pick_true rfl rfl rfl rfl (r_nil (qq rfl))) ?_
      refine q_nil (fun a ha => ?_)
      cases hb4
      exact ha.cut (l := [26]) rfl
     ·refine q_lit 21 rfl hb5 ?_
      refine q_off rfl rfl rfl (q_off rfl rfl rfl (q_off rfl rfl rfl (q_off rfl rfl rfl ?_)))
      refine q_stp rfl rfl rfl rfl (fun _ _ _ _ => r_pick_false rfl rfl rfl rfl (r_nil (qq rfl))) ?_
      refine q_nil (fun a ha => ?_)
      cases hb4
      exact ha.cut (l := [26]) rfl
   ·refine c_lit 14 rfl hb3 ?_
    refine c_false rfl (c_seq (c_seq (c_region ?_)))
    refine r_bin rfl rfl rfl rfl rfl ?_
    refine r_assign rfl rfl rfl (r_nil (q_then ?_))
    obtain ⟨v3, hb6, hm⟩ := bind_some hm
    refine c_midT (fun a w' => w = w' ∧ Has 98 a [(0, .int .i64 op1), (1, .slice as1 ns1 cs1), (7, .int .i64 op1), (27, .bool v3)]) ?_ ?_
    ·rintro a wx5 ⟨rfl, hax3⟩
     refine cw_apply hax3 ?_
     rcases cond_some hm with ⟨hb7, hm⟩ | ⟨hb7, hm⟩
     ·refine c_lit 27 rfl hb7 ?_
      refine c_true rfl (c_seq ?_)
      refine c_regionD (by kernel_rfl) (by kernel_rfl) h ?_
      refine q_stp rfl rfl rfl rfl (fun _ _ _ _ => r_move rfl rfl rfl (r_nil (qq rfl))) ?_
      obtain ⟨ex4, he4, hm⟩ := bind_some hm
      obtain ⟨b4, o4, cs4, hf4, hr4, hrun4⟩ := findex_ex (P := Tryz.prog) (r := (Rp.int .i64)) u84 sz3 hs1 he4
      have hc4 : cs4 = [.int .i64 ex4] := hr4
      subst hc4
      refine q_findex rfl rfl rfl rfl hrun4 ?_
      refine q_stp rfl rfl rfl rfl (fun _ _ hleq hq => r_loadF1 (j := 0) ag3 rfl rfl hq (hf4.mono hleq) rfl rfl (r_nil (qq rfl))) ?_
      refine q_stp rfl rfl rfl rfl (fun _ _ _ _ => r_bin rfl rfl rfl rfl rfl (r_nil (qq rfl))) ?_
      refine q_stp rfl rfl rfl rfl (fun _ _ _ _ => r_move rfl rfl rfl (r_nil (qq rfl))) ?_
      obtain ⟨v4, hb8, hm⟩ := bind_some hm
      refine q_mid 5 (fun a => Has 98 a [(39, .bool v4)]) ?_ ?_
      ·intro a hax4
       refine qr_apply hax4 ?_
       refine q_stp rfl rfl rfl rfl (fun _ _ _ _ => r_assign rfl rfl rfl (r_nil (qq rfl))) ?_
       refine q_stp rfl rfl rfl rfl (fun _ _ _ _ => r_assign rfl rfl rfl (r_nil (qq rfl))) ?_
       refine q_end ?_
       rintro wx7 ⟨Fx3, hF3, hx3⟩
       refine q_then (c_ret (q_block_ret (q_then_ret ?_)))
       refine b_retA (vl := [.int .i64 0, .bool v4]) rfl ⟨v_tmp rfl, v_tmp rfl, trivial⟩ (by simp) ?_
       obtain rfl := Option.some.inj hm
       exact ⟨_, _, _, rfl, hx3.pick [] (by decide) rfl, rfl, rfl⟩
      ·clear hm
       rcases cond_some hb8 with ⟨hb9, hb8⟩ | ⟨hb9, hb8⟩
       ·refine q_lit 34 rfl hb9 ?_
        refine q_stp rfl rfl rfl rfl (fun _ _ _ _ => r_move rfl rfl rfl (r_nil (qq rfl))) ?_
        obtain ⟨ex5, he5, hb8⟩ := bind_some hb8
        obtain ⟨b5, o5, cs5, hf5, hr5, hrun5⟩ := findex_ex (P := Tryz.prog) (r := (Rp.int .i64)) u84 sz3 hs1 he5
        have hc5 : cs5 = [.int .i64 ex5] := hr5
        subst hc5
        refine q_findex rfl rfl rfl rfl hrun5 ?_
        refine q_stp rfl rfl rfl rfl (fun _ _ hleq hq => r_loadF1 (j := 0) ag3 rfl rfl hq (hf5.mono hleq) rfl rfl (r_nil (qq rfl))) ?_
        refine q_stp rfl rfl rfl rfl (fun _ _ _ _ => r_bin rfl rfl rfl rfl rfl (r_nil (qq rfl))) ?_
        refine q_stp rfl rfl rfl rfl (fun _ _ _ _ => r_pick_true rfl rfl rfl rfl (r_nil (qq rfl))) ?_
        refine q_nil (fun a ha => ?_)
        cases hb8
        exact ha.cut (l := [39]) rfl
       ·refine q_lit 34 rfl hb9 ?_
        refine q_off rfl rfl rfl (q_off rfl rfl rfl (q_off rfl rfl rfl (q_off rfl rfl rfl ?_)))
        refine q_stp rfl rfl rfl rfl (fun _ _ _ _ => r_pick_false rfl rfl rfl rfl (r_nil (qq rfl))) ?_
        refine q_nil (fun a ha => ?_)
        cases hb8
        exact ha.cut (l := [39]) rfl
     ·refine c_lit 27 rfl hb7 ?_
      refine c_false rfl (c_seq (c_region ?_))
      refine r_bin rfl rfl rfl rfl rfl ?_
      refine r_assign rfl rfl rfl (r_nil (q_then ?_))
      rcases cond_some hm with ⟨hb10, hm⟩ | ⟨hb10, hm⟩
      ·refine c_lit 40 rfl hb10 ?_
       refine c_true rfl (c_seq ?_)
       refine c_regionD (by kernel_rfl) (by kernel_rfl) h ?_
       refine q_stp rfl rfl rfl rfl (fun _ _ _ _ => r_move rfl rfl rfl (r_nil (qq rfl))) ?_
       obtain ⟨ex6, he6, hm⟩ := bind_some hm
       obtain ⟨b6, o6, cs6, hf6, hr6, hrun6⟩ := findex_ex (P := Tryz.prog) (r := (Rp.int .i64)) u84 sz3 hs1 he6
       have hc6 : cs6 = [.int .i64 ex6] := hr6
       subst hc6
       refine q_findex rfl rfl rfl rfl hrun6 ?_
       refine q_stp rfl rfl rfl rfl (fun _ _ hleq hq => r_loadF1 (j := 0) ag3 rfl rfl hq (hf6.mono hleq) rfl rfl (r_nil (qq rfl))) ?_
       refine q_stp rfl rfl rfl rfl (fun _ _ _ _ => r_move rfl rfl rfl (r_nil (qq rfl))) ?_
       obtain ⟨ex7, he7, hm⟩ := bind_some hm
       obtain ⟨b7, o7, cs7, hf7, hr7, hrun7⟩ := findex_ex (P := Tryz.prog) (r := (Rp.int .i64)) u84 sz3 hs1 he7
       have hc7 : cs7 = [.int .i64 ex7] := hr7
       subst hc7
       refine q_findex rfl rfl rfl rfl hrun7 ?_
       refine q_stp rfl rfl rfl rfl (fun _ _ hleq hq => r_loadF1 (j := 0) ag3 rfl rfl hq (hf7.mono hleq) rfl rfl (r_nil (qq rfl))) ?_
       obtain ⟨v5, hv1, hm⟩ := bind_some hm
       refine q_callP0 ent98 rfl rfl rfl rfl (fun _ _ hleq hq => ref35_wide_ok _ _ _ _ hv1) ?_
       refine q_stp rfl rfl rfl rfl (fun _ _ _ _ => r_move rfl rfl rfl (r_nil (qq rfl))) ?_
       obtain ⟨ex8, he8, hm⟩ := bind_some hm
       obtain ⟨b8, o8, cs8, hf8, hr8, hrun8⟩ := findex_ex (P := Tryz.prog) (r := (Rp.int .i64)) u84 sz3 hs1 he8
       have hc8 : cs8 = [.int .i64 ex8] := hr8
       subst hc8
       refine q_findex rfl rfl rfl rfl hrun8 ?_
       refine q_stp rfl rfl rfl rfl (fun _ _ hleq hq => r_loadF1 (j := 0) ag3 rfl rfl hq (hf8.mono hleq) rfl rfl (r_nil (qq rfl))) ?_
       refine q_stp rfl rfl rfl rfl (fun _ _ _ _ => r_bin rfl rfl rfl rfl rfl (r_nil (qq rfl))) ?_
       refine q_stp rfl rfl rfl rfl (fun _ _ _ _ => r_move rfl rfl rfl (r_nil (qq rfl))) ?_
       obtain ⟨v6, hb11, hm⟩ := bind_some hm
       refine q_mid 5 (fun a => Has 98 a [(1, .slice as1 ns1 cs1), (48, .int .i64 v5), (58, .bool v6)]) ?_ ?_
       ·intro a hax5
        refine qr_apply hax5 ?_
        refine q_stp rfl rfl rfl rfl (fun _ _ _ _ => r_move rfl rfl rfl (r_nil (qq rfl))) ?_
        obtain ⟨v7, hb12, hm⟩ := bind_some hm
        refine q_mid 5 (fun a => Has 98 a [(48, .int .i64 v5), (64, .bool v7)]) ?_ ?_
        ·intro a hax6
         refine qr_apply hax6 ?_
         refine q_stp rfl rfl rfl rfl (fun _ _ _ _ => r_assign rfl rfl rfl (r_nil (qq rfl))) ?_
         refine q_stp rfl rfl rfl rfl (fun _ _ _ _ => r_assign rfl rfl rfl (r_nil (qq rfl))) ?_
         refine q_end ?_
         rintro wx10 ⟨Fx4, hF4, hx4⟩
         refine q_then (c_ret (q_block_ret (q_then_ret ?_)))
         refine b_retA (vl := [.int .i64 v5, .bool v7]) rfl ⟨v_tmp rfl, v_tmp rfl, trivial⟩ (by simp) ?_
         obtain rfl := Option.some.inj hm
         exact ⟨_, _, _, rfl, hx4.pick [] (by decide) rfl, rfl, rfl⟩
        ·clear hm
         rcases cond_some hb12 with ⟨hb13, hb12⟩ | ⟨hb13, hb12⟩
         ·refine q_lit 59 rfl hb13 ?_
          refine q_stp rfl rfl rfl rfl (fun _ _ _ _ => r_move rfl rfl rfl (r_nil (qq rfl))) ?_
          obtain ⟨ex9, he9, hb12⟩ := bind_some hb12
          obtain ⟨b9, o9, cs9, hf9, hr9, hrun9⟩ := findex_ex (P := Tryz.prog) (r := (Rp.int .i64)) u84 sz3 hs1 he9
          have hc9 : cs9 = [.int .i64 ex9] := hr9
          subst hc9
          refine q_findex rfl rfl rfl rfl hrun9 ?_
          refine q_stp rfl rfl rfl rfl (fun _ _ hleq hq => r_loadF1 (j := 0) ag3 rfl rfl hq (hf9.mono hleq) rfl rfl (r_nil (qq rfl))) ?_
          refine q_stp rfl rfl rfl rfl (fun _ _ _ _ => r_bin rfl rfl rfl rfl rfl (r_nil (qq rfl))) ?_
          refine q_stp rfl rfl rfl rfl (fun _ _ _ _ => r_pick_true rfl rfl rfl rfl (r_nil (qq rfl))) ?_
          refine q_nil (fun a ha => ?_)
          cases hb12
          exact ha.cut (l := [48, 64]) rfl
         ·refine q_lit 59 rfl hb13 ?_
          refine q_off rfl rfl rfl (q_off rfl rfl rfl (q_off rfl rfl rfl (q_off rfl rfl rfl ?_)))
          refine q_stp rfl rfl rfl rfl (fun _ _ _ _ => r_pick_false rfl rfl rfl rfl (r_nil (qq rfl))) ?_
          refine q_nil (fun a ha => ?_)
          cases hb12
          exact ha.cut (l := [48, 64]) rfl
       ·clear hm
        rcases cond_some hb11 with ⟨hb14, hb11⟩ | ⟨hb14, hb11⟩
        ·refine q_lit 53 rfl hb14 ?_
         refine q_stp rfl rfl rfl rfl (fun _ _ _ _ => r_move rfl rfl rfl (r_nil (qq rfl))) ?_
         obtain ⟨ex10, he10, hb11⟩ := bind_some hb11
         obtain ⟨b10, o10, cs10, hf10, hr10, hrun10⟩ := findex_ex (P := Tryz.prog) (r := (Rp.int .i64)) u84 sz3 hs1 he10
         have hc10 : cs10 = [.int .i64 ex10] := hr10
         subst hc10
         refine q_findex rfl rfl rfl rfl hrun10 ?_
         refine q_stp rfl rfl rfl rfl (fun _ _ hleq hq => r_loadF1 (j := 0) ag3 rfl rfl hq (hf10.mono hleq) rfl rfl (r_nil (qq rfl))) ?_
         refine q_stp rfl rfl rfl rfl (fun _ _ _ _ => r_bin rfl rfl rfl rfl rfl (r_nil (qq rfl))) ?_
         refine q_stp rfl rfl rfl rfl (fun _ _ _ _ => r_pick_true rfl rfl rfl rfl (r_nil (qq rfl))) ?_
         refine q_nil (fun a ha => ?_)
         cases hb11
         exact ha.cut (l := [1, 48, 58]) rfl
        ·refine q_lit 53 rfl hb14 ?_
         refine q_off rfl rfl rfl (q_off rfl rfl rfl (q_off rfl rfl rfl (q_off rfl rfl rfl ?_)))
         refine q_stp rfl rfl rfl rfl (fun _ _ _ _ => r_pick_false rfl rfl rfl rfl (r_nil (qq rfl))) ?_
         refine q_nil (fun a ha => ?_)
         cases hb11
         exact ha.cut (l := [1, 48, 58]) rfl
      ·refine c_lit 40 rfl hb10 ?_
       refine c_false rfl (c_skip (q_block (q_then (c_seq (c_region (r_move rfl rfl rfl ?_))))))
       obtain ⟨ex11, he11, hm⟩ := bind_some hm
       refine r_findex (r := (Rp.int .i64)) u84 sz3 rfl rfl rfl rfl hs1 he11 ?_
       intro b11 o11 cs11 hf11 hr11
       have hc11 : cs11 = [.int .i64 ex11] := hr11
       subst hc11
       refine r_loadF1 (j := 0) ag3 rfl rfl h hf11 rfl rfl ?_
       refine r_bin rfl rfl rfl rfl rfl ?_
       refine r_move rfl rfl rfl ?_
       obtain ⟨v8, hb15, hm⟩ := bind_some hm
       refine r_mid 5 (fun a w' => w = w' ∧ Has 98 a [(0, .int .i64 op1), (1, .slice as1 ns1 cs1), (74, .bool v8)]) ?_ ?_
       ·rintro a wx11 ⟨rfl, hax7⟩
        refine rw_apply hax7 ?_
        refine r_assign rfl rfl rfl (r_nil (q_then (c_seq (c_seq (c_region (r_move rfl rfl rfl ?_))))))
        refine r_bin rfl rfl rfl rfl rfl ?_
        refine r_nil (q_then ?_)
        obtain ⟨numbers1, hb16, hm⟩ := bind_some hm
        refine c_midT (fun a w' => w = w' ∧ Has 98 a [(1, .slice as1 ns1 cs1), (6, .bool numbers1)]) ?_ ?_
        ·rintro a wx12 ⟨rfl, hax8⟩
         refine cw_apply hax8 ?_
         refine c_seq ?_
         refine c_regionD (by kernel_rfl) (by kernel_rfl) h ?_
         refine q_stp rfl rfl rfl rfl (fun _ _ _ _ => r_move rfl rfl rfl (r_nil (qq rfl))) ?_
         obtain ⟨ex12, he12, hm⟩ := bind_some hm
         obtain ⟨b12, o12, cs12, hf12, hr12, hrun11⟩ := findex_ex (P := Tryz.prog) (r := (Rp.int .i64)) u84 sz3 hs1 he12
         have hc12 : cs12 = [.int .i64 ex12] := hr12
         subst hc12
         refine q_findex rfl rfl rfl rfl hrun11 ?_
         refine q_stp rfl rfl rfl rfl (fun _ _ hleq hq => r_loadF1 (j := 0) ag3 rfl rfl hq (hf12.mono hleq) rfl rfl (r_nil (qq rfl))) ?_
         refine q_stp rfl rfl rfl rfl (fun _ _ _ _ => r_move rfl rfl rfl (r_nil (qq rfl))) ?_
         obtain ⟨ex13, he13, hm⟩ := bind_some hm
         obtain ⟨b13, o13, cs13, hf13, hr13, hrun12⟩ := findex_ex (P := Tryz.prog) (r := (Rp.int .i64)) u84 sz3 hs1 he13
         have hc13 : cs13 = [.int .i64 ex13] := hr13
         subst hc13
         refine q_findex rfl rfl rfl rfl hrun12 ?_
         refine q_stp rfl rfl rfl rfl (fun _ _ hleq hq => r_loadF1 (j := 0) ag3 rfl rfl hq (hf13.mono hleq) rfl rfl (r_nil (qq rfl))) ?_
         obtain ⟨v9, hv2, hm⟩ := bind_some hm
         refine q_callP0 ent98 rfl rfl rfl rfl (fun _ _ hleq hq => ref35_wide_ok _ _ _ _ hv2) ?_
         refine q_stp rfl rfl rfl rfl (fun _ _ _ _ => r_move rfl rfl rfl (r_nil (qq rfl))) ?_
         refine q_stp rfl rfl rfl rfl (fun _ _ _ _ => r_assign rfl rfl rfl (r_nil (qq rfl))) ?_
         refine q_stp rfl rfl rfl rfl (fun _ _ _ _ => r_assign rfl rfl rfl (r_nil (qq rfl))) ?_
         refine q_end ?_
         rintro wx13 ⟨Fx5, hF5, hx5⟩
         refine q_then (c_ret ?_)
         refine b_retA (vl := [.int .i64 v9, .bool numbers1]) rfl ⟨v_tmp rfl, v_tmp rfl, trivial⟩ (by simp) ?_
         obtain rfl := Option.some.inj hm
         exact ⟨_, _, _, rfl, hx5.pick [] (by decide) rfl, rfl, rfl⟩
        ·clear hm
         rcases cond_some hb16 with ⟨hb17, hb16⟩ | ⟨hb17, hb16⟩
         ·refine c_lit 76 rfl hb17 ?_
          refine c_true rfl (c_region (r_move rfl rfl rfl (r_move rfl rfl rfl ?_)))
          obtain ⟨v10, hb18, hb16⟩ := bind_some hb16
          refine r_mid 11 (fun a w' => w = w' ∧ Has 98 a [(1, .slice as1 ns1 cs1), (89, .bool v10)]) ?_ ?_
          ·rintro a wx14 ⟨rfl, hax9⟩
           refine rw_apply hax9 ?_
           refine r_assign rfl rfl rfl (r_nil ?_)
           refine q_next (fun a ha => ?_)
           cases hb16
           exact ⟨rfl, ha.cut (l := [1, 6]) rfl⟩
          ·clear hb16
           rcases cond_some hb18 with ⟨hb19, hb18⟩ | ⟨hb19, hb18⟩
           ·refine r_lit 78 rfl hb19 ?_
            refine r_move rfl rfl rfl ?_
            obtain ⟨ex14, he14, hb18⟩ := bind_some hb18
            refine r_findex (r := (Rp.int .i64)) u84 sz3 rfl rfl rfl rfl hs1 he14 ?_
            intro b14 o14 cs14 hf14 hr14
            have hc14 : cs14 = [.int .i64 ex14] := hr14
            subst hc14
            refine r_loadF1 (j := 0) ag3 rfl rfl h hf14 rfl rfl ?_
            refine r_bin rfl rfl rfl rfl rfl ?_
            refine r_move rfl rfl rfl ?_
            obtain ⟨v11, hb20, hb18⟩ := bind_some hb18
            refine r_mid 5 (fun a w' => w = w' ∧ Has 98 a [(1, .slice as1 ns1 cs1), (78, .bool true), (88, .bool v11)]) ?_ ?_
            ·rintro a wx15 ⟨rfl, hax10⟩
             refine rw_apply hax10 ?_
             refine r_pick_true rfl rfl rfl rfl (r_nil ?_)
             refine q_next (fun a ha => ?_)
             cases hb18
             exact ⟨rfl, ha.cut (l := [1, 89]) rfl⟩
            ·clear hb18
             rcases cond_some hb20 with ⟨hb21, hb20⟩ | ⟨hb21, hb20⟩
             ·refine r_lit 83 rfl hb21 ?_
              refine r_off rfl (by decide) rfl (r_off rfl (by decide) rfl (r_off rfl (by decide) rfl (r_off rfl (by decide) rfl (r_pick_true rfl rfl rfl rfl (r_nil ?_)))))
              refine q_next (fun a ha => ?_)
              cases hb20
              exact ⟨rfl, ha.cut (l := [1, 78, 88]) rfl⟩
             ·refine r_lit 83 rfl hb21 ?_
              refine r_move rfl rfl rfl ?_
              obtain ⟨ex15, he15, hb20⟩ := bind_some hb20
              refine r_findex (r := (Rp.int .i64)) u84 sz3 rfl rfl rfl rfl hs1 he15 ?_
              intro b15 o15 cs15 hf15 hr15
              have hc15 : cs15 = [.int .i64 ex15] := hr15
              subst hc15
              refine r_loadF1 (j := 0) ag3 rfl rfl h hf15 rfl rfl ?_
              refine r_bin rfl rfl rfl rfl rfl ?_
              refine r_pick_false rfl rfl rfl rfl (r_nil ?_)
              refine q_next (fun a ha => ?_)
              cases hb20
              exact ⟨rfl, ha.cut (l := [1, 78, 88]) rfl⟩
           ·refine r_lit 78 rfl hb19 ?_
            refine r_off rfl (by decide) rfl (r_off rfl (by decide) rfl (r_off rfl (by decide) rfl (r_off rfl (by decide) rfl (r_off rfl (by decide) rfl (r_off rfl (by decide) rfl (r_off rfl (by decide) rfl (r_off rfl (by decide) rfl (r_off rfl (by decide) rfl (r_off rfl (by decide) rfl (r_pick_false rfl rfl rfl rfl (r_nil ?_)))))))))))
            refine q_next (fun a ha => ?_)
            cases hb18
            exact ⟨rfl, ha.cut (l := [1, 89]) rfl⟩
         ·refine c_lit 76 rfl hb17 ?_
          refine c_false rfl (c_skip ?_)
          refine q_next (fun a ha => ?_)
          cases hb16
          exact ⟨rfl, ha.cut (l := [1, 6]) rfl⟩
       ·clear hm
        rcases cond_some hb15 with ⟨hb22, hb15⟩ | ⟨hb22, hb15⟩
        ·refine r_lit 69 rfl hb22 ?_
         refine r_move rfl rfl rfl ?_
         obtain ⟨ex16, he16, hb15⟩ := bind_some hb15
         refine r_findex (r := (Rp.int .i64)) u84 sz3 rfl rfl rfl rfl hs1 he16 ?_
         intro b16 o16 cs16 hf16 hr16
         have hc16 : cs16 = [.int .i64 ex16] := hr16
         subst hc16
         refine r_loadF1 (j := 0) ag3 rfl rfl h hf16 rfl rfl ?_
         refine r_bin rfl rfl rfl rfl rfl ?_
         refine r_pick_true rfl rfl rfl rfl (r_nil ?_)
         refine q_next (fun a ha => ?_)
         cases hb15
         exact ⟨rfl, ha.cut (l := [0, 1, 74]) rfl⟩
        ·refine r_lit 69 rfl hb22 ?_
         refine r_off rfl (by decide) rfl (r_off rfl (by decide) rfl (r_off rfl (by decide) rfl (r_off rfl (by decide) rfl (r_pick_false rfl rfl rfl rfl (r_nil ?_)))))
         refine q_next (fun a ha => ?_)
         cases hb15
         exact ⟨rfl, ha.cut (l := [0, 1, 74]) rfl⟩
    ·clear hm
     rcases cond_some hb6 with ⟨hb23, hb6⟩ | ⟨hb23, hb6⟩
     ·refine c_lit 27 rfl hb23 ?_
      refine c_true rfl (c_skip ?_)
      refine q_next (fun a ha => ?_)
      cases hb6
      exact ⟨rfl, ha.cut (l := [0, 1, 7, 27]) rfl⟩
     ·refine c_lit 27 rfl hb23 ?_
      refine c_false rfl (c_region ?_)
      refine r_bin rfl rfl rfl rfl rfl ?_
      refine r_assign rfl rfl rfl (r_nil ?_)
      refine q_next (fun a ha => ?_)
      cases hb6
      exact ⟨rfl, ha.cut (l := [0, 1, 7, 27]) rfl⟩
  ·clear hm
   rcases cond_some hb2 with ⟨hb24, hb2⟩ | ⟨hb24, hb2⟩
   ·refine c_lit 14 rfl hb24 ?_
    refine c_true rfl (c_skip ?_)
    refine q_next (fun a ha => ?_)
    cases hb2
    exact ⟨rfl, ha.cut (l := [0, 1, 7, 14]) rfl⟩
   ·refine c_lit 14 rfl hb24 ?_
    refine c_false rfl (c_region ?_)
    refine r_bin rfl rfl rfl rfl rfl ?_
    refine r_assign rfl rfl rfl (r_nil ?_)
    refine q_next (fun a ha => ?_)
    cases hb2
    exact ⟨rfl, ha.cut (l := [0, 1, 7, 14]) rfl⟩
theorem ent75 : Ent Tryz.prog 75 := fun _ _ => by kernel_rfl
theorem ent74 : Ent Tryz.prog 74 := fun _ _ => by kernel_rfl
theorem ent49 : Ent Tryz.prog 49 := fun _ _ => by kernel_rfl
def ref35_typed_L1 (n : Nat) (rec_ref35_typed : Expr → (List Bs) → Option (Int × Int)) (x1 : Expr) (names1 : (List Bs)) (kont1 : (List Int) → Option (Int × Int)) : Nat → Int → (List Int) → Option (Int × Int)
 | 0, _, _ => none
 | mx1 + 1, i1, l1 =>
  bif decide (i1 < (x1.Args.length : Int)) then
   (ix x1.Args i1).bind fun ex4 =>
   (rec_ref35_typed ex4 names1).bind fun v7 =>
   bif v7.2 != 0 then
    some (0, v7.2)
   else
    (app 8 l1 [v7.1]).bind fun l3 =>
    ref35_typed_L1 n rec_ref35_typed x1 names1 kont1 mx1 (iadd .i64 i1 1) l3
  else
   kont1 l1
theorem ref35_typed_L1_s (n : Nat) (rec_ref35_typed : Expr → (List Bs) → Option (Int × Int)) (x1 : Expr) (names1 : (List Bs)) (kont1 : (List Int) → Option (Int × Int)) (mx1 : Nat) (i1 : Int) (l1 : List Int) : ref35_typed_L1 n rec_ref35_typed x1 names1 kont1 (mx1 + 1) i1 l1 =
  bif decide (i1 < (x1.Args.length : Int)) then
   (ix x1.Args i1).bind fun ex4 =>
   (rec_ref35_typed ex4 names1).bind fun v7 =>
   bif v7.2 != 0 then
    some (0, v7.2)
   else
    (app 8 l1 [v7.1]).bind fun l3 =>
    ref35_typed_L1 n rec_ref35_typed x1 names1 kont1 mx1 (iadd .i64 i1 1) l3
  else
   kont1 l1 := rfl
def ref35_typed : Nat → Expr → (List Bs) → Option (Int × Int)
 | 0, _, _ => none
 | n + 1, x1, names1 =>
  ref35_typed_L1 n (ref35_typed n) x1 names1 (fun (l2 : List Int) =>
   (bif x1.Op == 1 then
    some true
   else
    some (x1.Op == 4)).bind fun v1 =>
   (bif v1 then
    (ref35_Number n names1 x1.Name).bind fun v6 =>
    some (decide (v6 < 0))
   else
    some false).bind fun v2 =>
   bif v2 then
    some (0, 11)
   else
    bif x1.Op == 4 then
     some (2, 0)
    else
     bif (l2.length : Int) == 0 then
      some (1, 0)
     else
      bif x1.Op == 8 then
       (ix x1.Args 1).bind fun ex1 =>
       (bif ex1.Op == 0 then
        (ix x1.Args 1).bind fun ex3 =>
        some (ex3.N == 0)
       else
        some false).bind fun v3 =>
       bif v3 then
        some (0, 14)
       else
        (ix x1.Args 1).bind fun ex2 =>
        bif ex2.Op != 0 then
         some (0, 13)
        else
         (ref35_fit n x1.Op l2).bind fun v4 =>
         bif !v4.2 then
          some (0, 13)
         else
          some (v4.1, 0)
      else
       (ref35_fit n x1.Op l2).bind fun v5 =>
       bif !v5.2 then
        some (0, 13)
       else
        some (v5.1, 0)) n 0 []
theorem ref35_typed_s (n : Nat) (x1 : Expr) (names1 : (List Bs)) : ref35_typed (n + 1) x1 names1 =
  ref35_typed_L1 n (ref35_typed n) x1 names1 (fun (l2 : List Int) =>
   (bif x1.Op == 1 then
    some true
   else
    some (x1.Op == 4)).bind fun v1 =>
   (bif v1 then
    (ref35_Number n names1 x1.Name).bind fun v6 =>
    some (decide (v6 < 0))
   else
    some false).bind fun v2 =>
   bif v2 then
    some (0, 11)
   else
    bif x1.Op == 4 then
     some (2, 0)
    else
     bif (l2.length : Int) == 0 then
      some (1, 0)
     else
      bif x1.Op == 8 then
       (ix x1.Args 1).bind fun ex1 =>
       (bif ex1.Op == 0 then
        (ix x1.Args 1).bind fun ex3 =>
        some (ex3.N == 0)
       else
        some false).bind fun v3 =>
       bif v3 then
        some (0, 14)
       else
        (ix x1.Args 1).bind fun ex2 =>
        bif ex2.Op != 0 then
         some (0, 13)
        else
         (ref35_fit n x1.Op l2).bind fun v4 =>
         bif !v4.2 then
          some (0, 13)
         else
          some (v4.1, 0)
      else
       (ref35_fit n x1.Op l2).bind fun v5 =>
       bif !v5.2 then
        some (0, 13)
       else
        some (v5.1, 0)) n 0 [] := rfl
set_option maxHeartbeats 1000000 in
set_option maxRecDepth 1000000 in
theorem ref35_typed_all (n : Nat) : (∀ (x1 : Expr) (names1 : (List Bs)) (r : (Int × Int)) (_ : ref35_typed n x1 names1 = some r) {w : World} {F : Frz} (_ : Sat F w) {as1 : Option Addr} {ns1 : Nat} {cs1 : Nat} {as2 : Option Addr} {ns2 : Nat} {cs2 : Nat} (_ : SlR rp_Expr F as1 ns1 cs1 x1.Args) (_ : SlR Rp.str F as2 ns2 cs2 names1), Calls Tryz.prog 49 #[.agg #[.int .i64 x1.Op, .int .i64 x1.N, vs x1.Name, .slice as1 ns1 cs1], .slice as2 ns2 cs2] w fun e w' => ∃ v F' O', e = .returned v ∧ HS F w [] F' O' w' ∧ (v = .tuple #[.int .i64 r.1, .int .i64 r.2] ∧ O' = [])) := by
 induction n with
 | zero =>
  ·intro x1 names1 r hm
   exact absurd (show (none : Option (Int × Int)) = some r from hm) (by simp)
 | succ n ih =>
  ·intro x1 names1 r hm w F hs as1 ns1 cs1 as2 ns2 cs2 hs1 hs2
   rw [ref35_typed_s] at hm
   have h := HS.init hs
   refine calls_of 91 Tryz.func49 rfl rfl rfl ?_
   refine c_seq (c_region ?_)
   refine r_box rfl rfl rfl rfl h ?_
   intro b1 wx1 hx1
   refine r_assign rfl rfl rfl (r_assign rfl rfl rfl (r_nil (q_then (c_seq (c_region ?_)))))
   refine r_buildSlice (e := 3) (cs := []) (q := 1) rfl rfl hx1 rfl (fun _ => by kernel_rfl) rfl rfl ?_
   intro b2 wx2 hx2
   refine r_assign rfl rfl rfl (r_nil (q_then (c_seq (c_seq (c_region (r_assign rfl rfl rfl (r_nil (q_then (c_block ?_)))))))))
   intro a hax6
   obtain ⟨kont1, hkont1⟩ : ∃ kont1 : (List Int) → Option (Int × Int), kont1 = (fun (l2 : List Int) =>
       (bif x1.Op == 1 then
        some true
       else
        some (x1.Op == 4)).bind fun v1 =>
       (bif v1 then
        (ref35_Number n names1 x1.Name).bind fun v6 =>
        some (decide (v6 < 0))
       else
        some false).bind fun v2 =>
       bif v2 then
        some (0, 11)
       else
        bif x1.Op == 4 then
         some (2, 0)
        else
         bif (l2.length : Int) == 0 then
          some (1, 0)
         else
          bif x1.Op == 8 then
           (ix x1.Args 1).bind fun ex1 =>
           (bif ex1.Op == 0 then
            (ix x1.Args 1).bind fun ex3 =>
            some (ex3.N == 0)
           else
            some false).bind fun v3 =>
           bif v3 then
            some (0, 14)
           else
            (ix x1.Args 1).bind fun ex2 =>
            bif ex2.Op != 0 then
             some (0, 13)
            else
             (ref35_fit n x1.Op l2).bind fun v4 =>
             bif !v4.2 then
              some (0, 13)
             else
              some (v4.1, 0)
          else
           (ref35_fit n x1.Op l2).bind fun v5 =>
           bif !v5.2 then
            some (0, 13)
           else
            some (v5.1, 0)) := ⟨_, rfl⟩
   replace hm : (fun m (s : Int × List Int) => ref35_typed_L1 n (ref35_typed n) x1 names1 kont1 m s.1 s.2) n (0, []) = some r := by rw [hkont1]; exact hm
   refine loopX (id := 0) (fun m (s : Int × List Int) => ref35_typed_L1 n (ref35_typed n) x1 names1 kont1 m s.1 s.2) (fun (y : List Int) => kont1 y) r (fun (s : Int × List Int) a w' => ∃ (Fx1 : Frz) (as3 : Option Addr) (ns3 : Nat) (cs3 : Nat) (xss3 : List Value), Frz.le F Fx1 ∧ HS F w [] Fx1 [.row 3 1 as3 ns3 cs3 xss3, .box b1 24 [.int .i64 x1.Op, .int .i64 x1.N, vs x1.Name, .slice as1 ns1 cs1]] w' ∧ (RowN (Rp.int .i64) Fx1 ns3 xss3 s.2) ∧ Has 91 a [(1, .slice as2 ns2 cs2), (2, .pointer (some ⟨b1, 0, none⟩)), (6, .slice as3 ns3 cs3), (7, .int .i64 s.1)]) (fun (y : List Int) a w' => ∃ (Fx2 : Frz) (as4 : Option Addr) (ns4 : Nat) (cs4 : Nat) (xss4 : List Value), Frz.le F Fx2 ∧ HS F w [] Fx2 [.row 3 1 as4 ns4 cs4 xss4, .box b1 24 [.int .i64 x1.Op, .int .i64 x1.N, vs x1.Name, .slice as1 ns1 cs1]] w' ∧ (RowN (Rp.int .i64) Fx2 ns4 xss4 y) ∧ Has 91 a [(1, .slice as2 ns2 cs2), (2, .pointer (some ⟨b1, 0, none⟩)), (6, .slice as4 ns4 cs4)]) (fun _ => rfl) ?_ ?_ hm ⟨_, (some ⟨b2, 0, none⟩), 0, 0, [], Frz.refl _, hx2.pick [0, 1] (by decide) rfl, ((show RowN (Rp.int .i64) F 0 [] [] from ⟨rfl, (rfl : RowR (Rp.int .i64) _ [] [])⟩)), hax6.cut (l := [1, 2, 6, 7]) rfl⟩
   ·clear hm; rintro l2 a wx3 hm ⟨Fx2, as4, ns4, cs4, xss4, hF2, hx4, hs4, hax1⟩
    rw [hkont1] at hm
    replace hm := hm
    refine qw_apply (e := .exit 0) hax1 ?_
    refine q_block_hit (q_then (c_seq (c_seq (c_region ?_))))
    refine r_fieldAddr fa24_0 rfl rfl rfl ?_
    refine r_loadB1 ag3 rfl rfl hx4 rfl (i := 1) rfl rfl ?_
    refine r_bin rfl rfl rfl rfl rfl ?_
    refine r_move rfl rfl rfl ?_
    obtain ⟨v1, hb1, hm⟩ := bind_some hm
    refine r_mid 4 (fun a w' => wx3 = w' ∧ Has 91 a [(1, .slice as2 ns2 cs2), (2, .pointer (some ⟨b1, 0, none⟩)), (6, .slice as4 ns4 cs4), (44, .bool v1)]) ?_ ?_
    ·rintro a wx4 ⟨rfl, hax2⟩
     refine rw_apply hax2 ?_
     refine r_move rfl rfl rfl ?_
     obtain ⟨v2, hb2, hm⟩ := bind_some hm
     refine r_mid 6 (fun a w' => wx3 = w' ∧ Has 91 a [(2, .pointer (some ⟨b1, 0, none⟩)), (6, .slice as4 ns4 cs4), (51, .bool v2)]) ?_ ?_
     ·rintro a wx5 ⟨rfl, hax3⟩
      refine rw_apply hax3 ?_
      refine r_nil (q_then ?_)
      rcases cond_some hm with ⟨hb3, hm⟩ | ⟨hb3, hm⟩
      ·refine c_lit 51 rfl hb3 ?_
       refine c_true rfl (c_seq (c_region (r_assign rfl rfl rfl (r_assign rfl rfl rfl (r_nil (q_then (c_ret (q_then_ret ?_))))))))
       refine b_retA (vl := [.int .i64 0, .int .i64 11]) rfl ⟨v_tmp rfl, v_tmp rfl, trivial⟩ (by simp) ?_
       obtain rfl := Option.some.inj hm
       exact ⟨_, _, _, rfl, hx4.pick [] (by decide) rfl, rfl, rfl⟩
      ·refine c_lit 51 rfl hb3 ?_
       refine c_false rfl (c_skip (q_then (c_seq (c_seq (c_region ?_)))))
       refine r_fieldAddr fa24_0 rfl rfl rfl ?_
       refine r_loadB1 ag3 rfl rfl hx4 rfl (i := 1) rfl rfl ?_
       refine r_bin rfl rfl rfl rfl rfl ?_
       refine r_nil (q_then ?_)
       rcases cond_some hm with ⟨hb4, hm⟩ | ⟨hb4, hm⟩
       ·refine c_lit 54 rfl hb4 ?_
        refine c_true rfl (c_seq (c_region (r_assign rfl rfl rfl (r_assign rfl rfl rfl (r_nil (q_then (c_ret (q_then_ret ?_))))))))
        refine b_retA (vl := [.int .i64 2, .int .i64 0]) rfl ⟨v_tmp rfl, v_tmp rfl, trivial⟩ (by simp) ?_
        obtain rfl := Option.some.inj hm
        exact ⟨_, _, _, rfl, hx4.pick [] (by decide) rfl, rfl, rfl⟩
       ·refine c_lit 54 rfl hb4 ?_
        refine c_false rfl (c_skip (q_then (c_seq (c_seq (c_region (r_move rfl rfl rfl ?_))))))
        refine r_lenS hs4.len u84 rfl rfl rfl ?_
        refine r_bin rfl rfl rfl rfl rfl ?_
        refine r_nil (q_then ?_)
        rcases cond_some hm with ⟨hb5, hm⟩ | ⟨hb5, hm⟩
        ·refine c_lit 57 rfl hb5 ?_
         refine c_true rfl (c_seq (c_region (r_assign rfl rfl rfl (r_assign rfl rfl rfl (r_nil (q_then (c_ret (q_then_ret ?_))))))))
         refine b_retA (vl := [.int .i64 1, .int .i64 0]) rfl ⟨v_tmp rfl, v_tmp rfl, trivial⟩ (by simp) ?_
         obtain rfl := Option.some.inj hm
         exact ⟨_, _, _, rfl, hx4.pick [] (by decide) rfl, rfl, rfl⟩
        ·refine c_lit 57 rfl hb5 ?_
         refine c_false rfl (c_skip (q_then (c_seq (c_seq (c_region ?_)))))
         refine r_fieldAddr fa24_0 rfl rfl rfl ?_
         refine r_loadB1 ag3 rfl rfl hx4 rfl (i := 1) rfl rfl ?_
         refine r_bin rfl rfl rfl rfl rfl ?_
         refine r_nil (q_then ?_)
         rcases cond_some hm with ⟨hb6, hm⟩ | ⟨hb6, hm⟩
         ·refine c_lit 60 rfl hb6 ?_
          refine c_true rfl (c_seq (c_seq (c_region ?_)))
          refine r_fieldAddr fa24_3 rfl rfl rfl ?_
          refine r_loadB1 ag22 rfl rfl hx4 rfl (i := 1) rfl rfl ?_
          obtain ⟨ex1, he1, hm⟩ := bind_some hm
          refine r_findex (r := rp_Expr) u22 sz24 rfl rfl rfl rfl (hs1.mono hF2) he1 ?_
          intro b3 o1 cs1 hf1 hr1
          obtain ⟨as5, ns5, cs5, hc1, hs5⟩ := expr_iff.1 hr1
          subst hc1
          refine r_fieldAddr fa24_0 rfl rfl rfl ?_
          refine r_loadF1 (j := 0) ag3 rfl rfl hx4 hf1 rfl rfl ?_
          refine r_bin rfl rfl rfl rfl rfl ?_
          refine r_move rfl rfl rfl ?_
          obtain ⟨v3, hb7, hm⟩ := bind_some hm
          refine r_mid 7 (fun a w' => wx3 = w' ∧ Has 91 a [(2, .pointer (some ⟨b1, 0, none⟩)), (6, .slice as4 ns4 cs4), (74, .bool v3)]) ?_ ?_
          ·rintro a wx6 ⟨rfl, hax4⟩
           refine rw_apply hax4 ?_
           refine r_nil (q_then ?_)
           rcases cond_some hm with ⟨hb8, hm⟩ | ⟨hb8, hm⟩
           ·refine c_lit 74 rfl hb8 ?_
            refine c_true rfl (c_seq (c_region (r_assign rfl rfl rfl (r_assign rfl rfl rfl (r_nil (q_then (c_ret (q_then_ret (q_then_ret ?_)))))))))
            refine b_retA (vl := [.int .i64 0, .int .i64 14]) rfl ⟨v_tmp rfl, v_tmp rfl, trivial⟩ (by simp) ?_
            obtain rfl := Option.some.inj hm
            exact ⟨_, _, _, rfl, hx4.pick [] (by decide) rfl, rfl, rfl⟩
           ·refine c_lit 74 rfl hb8 ?_
            refine c_false rfl (c_skip (q_then (c_seq (c_region ?_))))
            refine r_fieldAddr fa24_3 rfl rfl rfl ?_
            refine r_loadB1 ag22 rfl rfl hx4 rfl (i := 1) rfl rfl ?_
            obtain ⟨ex2, he2, hm⟩ := bind_some hm
            refine r_findex (r := rp_Expr) u22 sz24 rfl rfl rfl rfl (hs1.mono hF2) he2 ?_
            intro b4 o2 cs2 hf2 hr2
            obtain ⟨as6, ns6, cs6, hc2, hs6⟩ := expr_iff.1 hr2
            subst hc2
            refine r_fieldAddr fa24_0 rfl rfl rfl ?_
            refine r_loadF1 (j := 0) ag3 rfl rfl hx4 hf2 rfl rfl ?_
            refine r_bin rfl rfl rfl rfl rfl ?_
            refine r_nil (q_then ?_)
            rcases cond_some hm with ⟨hb9, hm⟩ | ⟨hb9, hm⟩
            ·refine c_lit 80 rfl hb9 ?_
             refine c_true rfl (c_seq (c_region (r_assign rfl rfl rfl (r_assign rfl rfl rfl (r_nil (q_then (c_ret (q_then_ret ?_))))))))
             refine b_retA (vl := [.int .i64 0, .int .i64 13]) rfl ⟨v_tmp rfl, v_tmp rfl, trivial⟩ (by simp) ?_
             obtain rfl := Option.some.inj hm
             exact ⟨_, _, _, rfl, hx4.pick [] (by decide) rfl, rfl, rfl⟩
            ·refine c_lit 80 rfl hb9 ?_
             refine c_false rfl (c_skip (q_then (c_seq (c_region ?_))))
             refine r_fieldAddr fa24_0 rfl rfl rfl ?_
             refine r_loadB1 ag3 rfl rfl hx4 rfl (i := 1) rfl rfl ?_
             refine r_move rfl rfl rfl ?_
             obtain ⟨Fx3, hF3, hx5, hsx1⟩ := freezeRow hx4 (i := 0) rfl hs4
             obtain ⟨v4, hv1, hm⟩ := bind_some hm
             refine r_callG0 ent75 rfl rfl rfl rfl hx5 (ref35_fit_ok _ _ _ _ hv1 hx5.sat hsx1) ?_
             rintro _ Fx4 _ wx7 hF4 hx6 ⟨rfl, rfl⟩
             refine r_move rfl rfl rfl (r_extract rfl rfl rfl rfl (r_extract rfl rfl rfl rfl (r_assign rfl rfl rfl (r_assign rfl rfl rfl (r_nil (q_then (c_seq (c_seq (c_region (r_move rfl rfl rfl (r_not rfl rfl rfl (r_nil (q_then ?_)))))))))))))
             rcases cond_some hm with ⟨hb10, hm⟩ | ⟨hb10, hm⟩
             ·refine c_lit 89 rfl hb10 ?_
              refine c_true rfl (c_seq (c_region (r_assign rfl rfl rfl (r_assign rfl rfl rfl (r_nil (q_then (c_ret (q_then_ret ?_))))))))
              refine b_retA (vl := [.int .i64 0, .int .i64 13]) rfl ⟨v_tmp rfl, v_tmp rfl, trivial⟩ (by simp) ?_
              obtain rfl := Option.some.inj hm
              exact ⟨_, _, _, rfl, hx6.pick [] (by decide) rfl, rfl, rfl⟩
             ·refine c_lit 89 rfl hb10 ?_
              refine c_false rfl (c_skip (q_then (c_seq (c_region (r_move rfl rfl rfl (r_assign rfl rfl rfl (r_assign rfl rfl rfl (r_nil (q_then (c_ret ?_))))))))))
              refine b_retA (vl := [.int .i64 v4.1, .int .i64 0]) rfl ⟨v_tmp rfl, v_tmp rfl, trivial⟩ (by simp) ?_
              obtain rfl := Option.some.inj hm
              exact ⟨_, _, _, rfl, hx6.pick [] (by decide) rfl, rfl, rfl⟩
          ·clear hm
           rcases cond_some hb7 with ⟨hb11, hb7⟩ | ⟨hb11, hb7⟩
           ·refine r_lit 67 rfl hb11 ?_
            refine r_fieldAddr fa24_3 rfl rfl rfl ?_
            refine r_loadB1 ag22 rfl rfl hx4 rfl (i := 1) rfl rfl ?_
            obtain ⟨ex3, he3, hb7⟩ := bind_some hb7
            refine r_findex (r := rp_Expr) u22 sz24 rfl rfl rfl rfl (hs1.mono hF2) he3 ?_
            intro b5 o3 cs3 hf3 hr3
            obtain ⟨as7, ns7, cs7, hc3, hs7⟩ := expr_iff.1 hr3
            subst hc3
            refine r_fieldAddr fa24_1 rfl rfl rfl ?_
            refine r_loadF1 (j := 1) ag3 rfl rfl hx4 hf3 rfl rfl ?_
            refine r_bin rfl rfl rfl rfl rfl ?_
            refine r_pick_true rfl rfl rfl rfl (r_nil ?_)
            refine q_next (fun a ha => ?_)
            cases hb7
            exact ⟨rfl, ha.cut (l := [2, 6, 74]) rfl⟩
           ·refine r_lit 67 rfl hb11 ?_
            refine r_off rfl (by decide) rfl (r_off rfl (by decide) rfl (r_off rfl (by decide) rfl (r_off rfl (by decide) rfl (r_off rfl (by decide) rfl (r_off rfl (by decide) rfl (r_pick_false rfl rfl rfl rfl (r_nil ?_)))))))
            refine q_next (fun a ha => ?_)
            cases hb7
            exact ⟨rfl, ha.cut (l := [2, 6, 74]) rfl⟩
         ·refine c_lit 60 rfl hb6 ?_
          refine c_false rfl (c_skip (q_then (c_seq (c_region ?_))))
          refine r_fieldAddr fa24_0 rfl rfl rfl ?_
          refine r_loadB1 ag3 rfl rfl hx4 rfl (i := 1) rfl rfl ?_
          refine r_move rfl rfl rfl ?_
          obtain ⟨Fx5, hF5, hx7, hsx2⟩ := freezeRow hx4 (i := 0) rfl hs4
          obtain ⟨v5, hv2, hm⟩ := bind_some hm
          refine r_callG0 ent75 rfl rfl rfl rfl hx7 (ref35_fit_ok _ _ _ _ hv2 hx7.sat hsx2) ?_
          rintro _ Fx6 _ wx8 hF6 hx8 ⟨rfl, rfl⟩
          refine r_move rfl rfl rfl (r_extract rfl rfl rfl rfl (r_extract rfl rfl rfl rfl (r_assign rfl rfl rfl (r_assign rfl rfl rfl (r_nil (q_then (c_seq (c_seq (c_region (r_move rfl rfl rfl (r_not rfl rfl rfl (r_nil (q_then ?_)))))))))))))
          rcases cond_some hm with ⟨hb12, hm⟩ | ⟨hb12, hm⟩
          ·refine c_lit 89 rfl hb12 ?_
           refine c_true rfl (c_seq (c_region (r_assign rfl rfl rfl (r_assign rfl rfl rfl (r_nil (q_then (c_ret (q_then_ret ?_))))))))
           refine b_retA (vl := [.int .i64 0, .int .i64 13]) rfl ⟨v_tmp rfl, v_tmp rfl, trivial⟩ (by simp) ?_
           obtain rfl := Option.some.inj hm
           exact ⟨_, _, _, rfl, hx8.pick [] (by decide) rfl, rfl, rfl⟩
          ·refine c_lit 89 rfl hb12 ?_
           refine c_false rfl (c_skip (q_then (c_seq (c_region (r_move rfl rfl rfl (r_assign rfl rfl rfl (r_assign rfl rfl rfl (r_nil (q_then (c_ret ?_))))))))))
           refine b_retA (vl := [.int .i64 v5.1, .int .i64 0]) rfl ⟨v_tmp rfl, v_tmp rfl, trivial⟩ (by simp) ?_
           obtain rfl := Option.some.inj hm
           exact ⟨_, _, _, rfl, hx8.pick [] (by decide) rfl, rfl, rfl⟩
     ·clear hm
      rcases cond_some hb2 with ⟨hb13, hb2⟩ | ⟨hb13, hb2⟩
      ·refine r_lit 45 rfl hb13 ?_
       refine r_move rfl rfl rfl ?_
       refine r_fieldAddr fa24_2 rfl rfl rfl ?_
       refine r_loadB1 ag9 rfl rfl hx4 rfl (i := 1) rfl rfl ?_
       obtain ⟨v6, hv3, hb2⟩ := bind_some hb2
       refine r_callP0 ent74 rfl rfl rfl rfl (ref35_Number_ok _ _ _ _ hv3 hx4.sat (hs2.mono hF2)) ?_
       refine r_bin rfl rfl rfl rfl rfl ?_
       refine r_pick_true rfl rfl rfl rfl (r_nil ?_)
       refine q_next (fun a ha => ?_)
       cases hb2
       exact ⟨rfl, ha.cut (l := [2, 6, 51]) rfl⟩
      ·refine r_lit 45 rfl hb13 ?_
       refine r_off rfl (by decide) rfl (r_off rfl (by decide) rfl (r_off rfl (by decide) rfl (r_off rfl (by decide) rfl (r_off rfl (by decide) rfl (r_pick_false rfl rfl rfl rfl (r_nil ?_))))))
       refine q_next (fun a ha => ?_)
       cases hb2
       exact ⟨rfl, ha.cut (l := [2, 6, 51]) rfl⟩
    ·clear hm
     rcases cond_some hb1 with ⟨hb14, hb1⟩ | ⟨hb14, hb1⟩
     ·refine r_lit 40 rfl hb14 ?_
      refine r_off rfl (by decide) rfl (r_off rfl (by decide) rfl (r_off rfl (by decide) rfl (r_pick_true rfl rfl rfl rfl (r_nil ?_))))
      refine q_next (fun a ha => ?_)
      cases hb1
      exact ⟨rfl, ha.cut (l := [1, 2, 6, 44]) rfl⟩
     ·refine r_lit 40 rfl hb14 ?_
      refine r_fieldAddr fa24_0 rfl rfl rfl ?_
      refine r_loadB1 ag3 rfl rfl hx4 rfl (i := 1) rfl rfl ?_
      refine r_bin rfl rfl rfl rfl rfl ?_
      refine r_pick_false rfl rfl rfl rfl (r_nil ?_)
      refine q_next (fun a ha => ?_)
      cases hb1
      exact ⟨rfl, ha.cut (l := [1, 2, 6, 44]) rfl⟩
   ·clear hm hkont1; intro hk1 mx1 K ihx1
    rintro ⟨i1, l1⟩ a wx9 hm ⟨Fx1, as3, ns3, cs3, xss3, hF1, hx3, hs3, hax5⟩
    simp only [ref35_typed_L1_s] at hm
    refine cw_apply hax5 ?_
    refine c_seq (c_seq (c_region (r_move rfl rfl rfl ?_)))
    refine r_fieldAddr fa24_3 rfl rfl rfl ?_
    refine r_loadB1 ag22 rfl rfl hx3 rfl (i := 1) rfl rfl ?_
    refine r_lenS hs1.len u22 rfl rfl rfl ?_
    refine r_bin rfl rfl rfl rfl rfl ?_
    refine r_nil (q_then ?_)
    rcases cond_some hm with ⟨hb15, hm⟩ | ⟨hb15, hm⟩
    ·refine c_lit 17 rfl hb15 ?_
     refine c_true rfl (c_skip (q_then (c_seq (c_block (c_seq (c_region ?_))))))
     refine r_fieldAddr fa24_3 rfl rfl rfl ?_
     refine r_loadB1 ag22 rfl rfl hx3 rfl (i := 1) rfl rfl ?_
     refine r_move rfl rfl rfl ?_
     obtain ⟨ex4, he4, hm⟩ := bind_some hm
     refine r_findex (r := rp_Expr) u22 sz24 rfl rfl rfl rfl (hs1.mono hF1) he4 ?_
     intro b6 o4 cs4 hf4 hr4
     obtain ⟨as8, ns8, cs8, hc4, hs8⟩ := expr_iff.1 hr4
     subst hc4
     refine r_loadFW ag24 sz24 rfl rfl hx3 hf4 rfl rfl ?_
     refine r_move rfl rfl rfl ?_
     obtain ⟨v7, hv4, hm⟩ := bind_some hm
     refine r_callG0 ent49 rfl rfl rfl rfl hx3 (ih _ _ _ hv4 hx3.sat hs8 (hs2.mono hF1)) ?_
     rintro _ Fx7 _ wx10 hF7 hx9 ⟨rfl, rfl⟩
     refine r_move rfl rfl rfl (r_extract rfl rfl rfl rfl (r_extract rfl rfl rfl rfl (r_assign rfl rfl rfl (r_assign rfl rfl rfl (r_nil (q_then (c_seq (c_seq (c_region (r_move rfl rfl rfl ?_))))))))))
     refine r_bin rfl rfl rfl rfl rfl ?_
     refine r_nil (q_then ?_)
     rcases cond_some hm with ⟨hb16, hm⟩ | ⟨hb16, hm⟩
     ·refine c_lit 31 rfl hb16 ?_
      refine c_true rfl (c_seq (c_region (r_move rfl rfl rfl (r_assign rfl rfl rfl (r_assign rfl rfl rfl (r_nil (q_then (c_ret (q_then_ret (q_block_ret (q_then_ret (q_then_ret (q_block_ret (q_then_ret ?_))))))))))))))
      refine b_retA (vl := [.int .i64 0, .int .i64 v7.2]) rfl ⟨v_tmp rfl, v_tmp rfl, trivial⟩ (by simp) ?_
      obtain rfl := Option.some.inj hm
      exact ⟨_, _, _, rfl, hx9.pick [] (by decide) rfl, rfl, rfl⟩
     ·refine c_lit 31 rfl hb16 ?_
      refine c_false rfl (c_skip (q_then (c_region (r_move rfl rfl rfl (r_move rfl rfl rfl ?_)))))
      refine r_buildSlice (e := 3) (cs := [.int .i64 v7.1]) (q := 1) rfl rfl hx9 rfl (fun _ => by kernel_rfl) rfl rfl ?_
      intro b7 wx11 hx10
      obtain ⟨l3, hr5, hm⟩ := bind_some hm
      refine r_appendN (r := (Rp.int .i64)) ap84 rfl rfl hx10 rfl rfl (i := 1) (j := 0) rfl rfl (hs3.mono hF7) ((show RowN (Rp.int .i64) Fx7 1 [.int .i64 v7.1] [v7.1] from ⟨rfl, ⟨_, _, rfl, rfl, (rfl : RowR (Rp.int .i64) _ [] [])⟩⟩)) hr5 ?_
      intro as9 cs9 wx12 hx11 hs9
      refine r_assign rfl rfl rfl (r_nil (q_block (q_then (c_region (r_move rfl rfl rfl ?_)))))
      refine r_bin rfl rfl rfl rfl rfl ?_
      refine r_assign rfl rfl rfl (r_nil ?_)
      refine q_next (fun a ha => ihx1 ((iadd .i64 i1 1), l3) a _ hm ?_)
      exact ⟨_, as9, (ns3 + 1), cs9, (xss3 ++ [.int .i64 v7.1]), (hF1.trans hF7), hx11.pick [1, 2] (by decide) rfl, hs9, ha.cut (l := [1, 2, 6, 7]) rfl⟩
    ·refine c_lit 17 rfl hb15 ?_
     refine c_false rfl (c_exit (q_then_exit (q_then_exit ?_)))
     refine fun a ha => hk1 l1 a _ hm ?_
     exact ⟨_, as3, ns3, cs3, xss3, hF1, hx3.pick [0, 1] (by decide) rfl, hs3, ha.cut (l := [1, 2, 6]) rfl⟩
theorem ref35_typed_ok (n : Nat) (x1 : Expr) (names1 : (List Bs)) (r : (Int × Int)) (hm : ref35_typed n x1 names1 = some r) {w : World} {F : Frz} (hs : Sat F w) {as1 : Option Addr} {ns1 : Nat} {cs1 : Nat} {as2 : Option Addr} {ns2 : Nat} {cs2 : Nat} (hs1 : SlR rp_Expr F as1 ns1 cs1 x1.Args) (hs2 : SlR Rp.str F as2 ns2 cs2 names1) :
  Calls Tryz.prog 49 #[.agg #[.int .i64 x1.Op, .int .i64 x1.N, vs x1.Name, .slice as1 ns1 cs1], .slice as2 ns2 cs2] w fun e w' => ∃ v F' O', e = .returned v ∧ HS F w [] F' O' w' ∧ (v = .tuple #[.int .i64 r.1, .int .i64 r.2] ∧ O' = []) :=
 (ref35_typed_all n) x1 names1 r hm hs hs1 hs2
theorem ent47 : Ent Tryz.prog 47 := fun _ _ => by kernel_rfl
def ref35_Type (n : Nat) (x1 : Expr) (names1 : (List Bs)) : Option (Int × Int) :=
 (ref35_Names n names1).bind fun v1 =>
 bif !v1 then
  some (0, 1)
 else
  (ref35_Form n x1).bind fun v2 =>
  bif !v2 then
   some (0, 2)
  else
   (ref35_typed n x1 names1).bind fun v3 =>
   some (v3.1, v3.2)
set_option maxHeartbeats 1000000 in
set_option maxRecDepth 1000000 in
theorem ref35_Type_ok (n : Nat) (x1 : Expr) (names1 : (List Bs)) (r : (Int × Int)) (hm : ref35_Type n x1 names1 = some r) {w : World} {F : Frz} (hs : Sat F w) {as1 : Option Addr} {ns1 : Nat} {cs1 : Nat} {as2 : Option Addr} {ns2 : Nat} {cs2 : Nat} (hs1 : SlR rp_Expr F as1 ns1 cs1 x1.Args) (hs2 : SlR Rp.str F as2 ns2 cs2 names1) :
  Calls Tryz.prog 12 #[.agg #[.int .i64 x1.Op, .int .i64 x1.N, vs x1.Name, .slice as1 ns1 cs1], .slice as2 ns2 cs2] w fun e w' => ∃ v F' O', e = .returned v ∧ HS F w [] F' O' w' ∧ (v = .tuple #[.int .i64 r.1, .int .i64 r.2] ∧ O' = []) := by
 unfold ref35_Type at hm
 have h := HS.init hs
 refine calls_of 22 Tryz.func12 rfl rfl rfl ?_
 refine c_seq (c_region ?_)
 refine r_box rfl rfl rfl rfl h ?_
 intro b1 wx1 hx1
 refine r_assign rfl rfl rfl (r_assign rfl rfl rfl (r_nil (q_then (c_seq (c_seq (c_region (r_move rfl rfl rfl ?_)))))))
 obtain ⟨v1, hv1, hm⟩ := bind_some hm
 refine r_callG0 ent47 rfl rfl rfl rfl hx1 (ref35_Names_ok _ _ _ hv1 hx1.sat hs2) ?_
 rintro _ Fx1 _ wx2 hF1 hx2 ⟨rfl, rfl⟩
 refine r_not rfl rfl rfl (r_nil (q_then ?_))
 rcases cond_some hm with ⟨hb1, hm⟩ | ⟨hb1, hm⟩
 ·refine c_lit 10 rfl hb1 ?_
  refine c_true rfl (c_seq (c_region (r_assign rfl rfl rfl (r_assign rfl rfl rfl (r_nil (q_then (c_ret (q_then_ret ?_))))))))
  refine b_retA (vl := [.int .i64 0, .int .i64 1]) rfl ⟨v_tmp rfl, v_tmp rfl, trivial⟩ (by simp) ?_
  obtain rfl := Option.some.inj hm
  exact ⟨_, _, _, rfl, hx2.pick [] (by decide) rfl, rfl, rfl⟩
 ·refine c_lit 10 rfl hb1 ?_
  refine c_false rfl (c_skip (q_then (c_seq (c_seq (c_region ?_)))))
  refine r_loadBW ag24 sz24 rfl rfl hx2 rfl (i := 0) rfl rfl ?_
  obtain ⟨v2, hv2, hm⟩ := bind_some hm
  refine r_callG0 ent48 rfl rfl rfl rfl hx2 (ref35_Form_ok _ _ _ hv2 hx2.sat (hs1.mono hF1)) ?_
  rintro _ Fx2 _ wx3 hF2 hx3 ⟨rfl, rfl⟩
  refine r_not rfl rfl rfl (r_nil (q_then ?_))
  rcases cond_some hm with ⟨hb2, hm⟩ | ⟨hb2, hm⟩
  ·refine c_lit 13 rfl hb2 ?_
   refine c_true rfl (c_seq (c_region (r_assign rfl rfl rfl (r_assign rfl rfl rfl (r_nil (q_then (c_ret (q_then_ret ?_))))))))
   refine b_retA (vl := [.int .i64 0, .int .i64 2]) rfl ⟨v_tmp rfl, v_tmp rfl, trivial⟩ (by simp) ?_
   obtain rfl := Option.some.inj hm
   exact ⟨_, _, _, rfl, hx3.pick [] (by decide) rfl, rfl, rfl⟩
  ·refine c_lit 13 rfl hb2 ?_
   refine c_false rfl (c_skip (q_then (c_seq (c_region ?_))))
   refine r_loadBW ag24 sz24 rfl rfl hx3 rfl (i := 0) rfl rfl ?_
   refine r_move rfl rfl rfl ?_
   obtain ⟨v3, hv3, hm⟩ := bind_some hm
   refine r_callG0 ent49 rfl rfl rfl rfl hx3 (ref35_typed_ok _ _ _ _ hv3 hx3.sat ((hs1.mono hF1).mono hF2) ((hs2.mono hF1).mono hF2)) ?_
   rintro _ Fx3 _ wx4 hF3 hx4 ⟨rfl, rfl⟩
   refine r_move rfl rfl rfl (r_extract rfl rfl rfl rfl (r_extract rfl rfl rfl rfl (r_assign rfl rfl rfl (r_assign rfl rfl rfl (r_nil (q_then (c_seq (c_region (r_move rfl rfl rfl (r_move rfl rfl rfl (r_assign rfl rfl rfl (r_assign rfl rfl rfl (r_nil (q_then (c_ret ?_)))))))))))))))
   refine b_retA (vl := [.int .i64 v3.1, .int .i64 v3.2]) rfl ⟨v_tmp rfl, v_tmp rfl, trivial⟩ (by simp) ?_
   obtain rfl := Option.some.inj hm
   exact ⟨_, _, _, rfl, hx4.pick [] (by decide) rfl, rfl, rfl⟩
theorem ent38 : Ent Tryz.prog 38 := fun _ _ => by kernel_rfl
def ref35_Check (n : Nat) (t1 : Tariff) (names1 : (List Bs)) : Option Int :=
 (ref35_Names n names1).bind fun v1 =>
 bif !v1 then
  some 1
 else
  (ref35_Written n t1).bind fun v2 =>
  bif !v2 then
   some 2
  else
   (ref35_typed n t1.Fee names1).bind fun v3 =>
   (bif v3.2 == 0 then
    some (v3.1 == 0)
   else
    some false).bind fun v4 =>
   bif v4 then
    some 13
   else
    some v3.2
set_option maxHeartbeats 1000000 in
set_option maxRecDepth 1000000 in
theorem ref35_Check_ok (n : Nat) (t1 : Tariff) (names1 : (List Bs)) (r : Int) (hm : ref35_Check n t1 names1 = some r) {w : World} {F : Frz} (hs : Sat F w) {as1 : Option Addr} {ns1 : Nat} {cs1 : Nat} {as2 : Option Addr} {ns2 : Nat} {cs2 : Nat} (hs1 : SlR rp_Expr F as1 ns1 cs1 t1.Fee.Args) (hs2 : SlR Rp.str F as2 ns2 cs2 names1) :
  Calls Tryz.prog 15 #[.agg #[vs t1.Name, .int .i64 t1.Fee.Op, .int .i64 t1.Fee.N, vs t1.Fee.Name, .slice as1 ns1 cs1, .int .i64 t1.Cap], .slice as2 ns2 cs2] w fun e w' => ∃ v F' O', e = .returned v ∧ HS F w [] F' O' w' ∧ (v = .int .i64 r ∧ O' = []) := by
 unfold ref35_Check at hm
 have h := HS.init hs
 refine calls_of 27 Tryz.func15 rfl rfl rfl ?_
 refine c_seq (c_region ?_)
 refine r_box rfl rfl rfl rfl h ?_
 intro b1 wx1 hx1
 refine r_assign rfl rfl rfl (r_nil (q_then (c_seq (c_seq (c_region (r_move rfl rfl rfl ?_))))))
 obtain ⟨v1, hv1, hm⟩ := bind_some hm
 refine r_callG0 ent47 rfl rfl rfl rfl hx1 (ref35_Names_ok _ _ _ hv1 hx1.sat hs2) ?_
 rintro _ Fx1 _ wx2 hF1 hx2 ⟨rfl, rfl⟩
 refine r_not rfl rfl rfl (r_nil (q_then ?_))
 rcases cond_some hm with ⟨hb1, hm⟩ | ⟨hb1, hm⟩
 ·refine c_lit 9 rfl hb1 ?_
  refine c_true rfl (c_seq (c_region (r_assign rfl rfl rfl (r_nil (q_then (c_ret (q_then_ret ?_)))))))
  refine b_ret1 rfl rfl ?_
  obtain rfl := Option.some.inj hm
  exact ⟨_, _, _, rfl, hx2.pick [] (by decide) rfl, rfl, rfl⟩
 ·refine c_lit 9 rfl hb1 ?_
  refine c_false rfl (c_skip (q_then (c_seq (c_seq (c_region ?_)))))
  refine r_loadBW ag26 sz26 rfl rfl hx2 rfl (i := 0) rfl rfl ?_
  obtain ⟨v2, hv2, hm⟩ := bind_some hm
  refine r_callG0 ent38 rfl rfl rfl rfl hx2 (ref35_Written_ok _ _ _ hv2 hx2.sat (hs1.mono hF1)) ?_
  rintro _ Fx2 _ wx3 hF2 hx3 ⟨rfl, rfl⟩
  refine r_not rfl rfl rfl (r_nil (q_then ?_))
  rcases cond_some hm with ⟨hb2, hm⟩ | ⟨hb2, hm⟩
  ·refine c_lit 12 rfl hb2 ?_
   refine c_true rfl (c_seq (c_region (r_assign rfl rfl rfl (r_nil (q_then (c_ret (q_then_ret ?_)))))))
   refine b_ret1 rfl rfl ?_
   obtain rfl := Option.some.inj hm
   exact ⟨_, _, _, rfl, hx3.pick [] (by decide) rfl, rfl, rfl⟩
  ·refine c_lit 12 rfl hb2 ?_
   refine c_false rfl (c_skip (q_then (c_seq (c_region ?_))))
   refine r_fieldAddr fa26_1 rfl rfl rfl ?_
   refine r_loadBA (cs' := [.int .i64 t1.Fee.Op, .int .i64 t1.Fee.N, vs t1.Fee.Name, .slice as1 ns1 cs1]) ag24 sz24 rfl rfl hx3 rfl (i := 0) rfl rfl rfl ?_
   refine r_move rfl rfl rfl ?_
   obtain ⟨v3, hv3, hm⟩ := bind_some hm
   refine r_callG0 ent49 rfl rfl rfl rfl hx3 (ref35_typed_ok _ _ _ _ hv3 hx3.sat ((hs1.mono hF1).mono hF2) ((hs2.mono hF1).mono hF2)) ?_
   rintro _ Fx3 _ wx4 hF3 hx4 ⟨rfl, rfl⟩
   refine r_move rfl rfl rfl (r_extract rfl rfl rfl rfl (r_extract rfl rfl rfl rfl (r_assign rfl rfl rfl (r_assign rfl rfl rfl (r_nil (q_then (c_seq (c_seq (c_region (r_move rfl rfl rfl ?_))))))))))
   refine r_bin rfl rfl rfl rfl rfl ?_
   refine r_move rfl rfl rfl ?_
   obtain ⟨v4, hb3, hm⟩ := bind_some hm
   refine r_mid 3 (fun a w' => wx4 = w' ∧ Has 27 a [(6, .int .i64 v3.2), (25, .bool v4)]) ?_ ?_
   ·rintro a wx5 ⟨rfl, hax1⟩
    refine rw_apply hax1 ?_
    refine r_nil (q_then ?_)
    rcases cond_some hm with ⟨hb4, hm⟩ | ⟨hb4, hm⟩
    ·refine c_lit 25 rfl hb4 ?_
     refine c_true rfl (c_seq (c_region (r_assign rfl rfl rfl (r_nil (q_then (c_ret (q_then_ret ?_)))))))
     refine b_ret1 rfl rfl ?_
     obtain rfl := Option.some.inj hm
     exact ⟨_, _, _, rfl, hx4.pick [] (by decide) rfl, rfl, rfl⟩
    ·refine c_lit 25 rfl hb4 ?_
     refine c_false rfl (c_skip (q_then (c_seq (c_region (r_move rfl rfl rfl (r_assign rfl rfl rfl (r_nil (q_then (c_ret ?_)))))))))
     refine b_ret1 rfl rfl ?_
     obtain rfl := Option.some.inj hm
     exact ⟨_, _, _, rfl, hx4.pick [] (by decide) rfl, rfl, rfl⟩
   ·clear hm
    rcases cond_some hb3 with ⟨hb5, hb3⟩ | ⟨hb5, hb3⟩
    ·refine r_lit 22 rfl hb5 ?_
     refine r_move rfl rfl rfl ?_
     refine r_bin rfl rfl rfl rfl rfl ?_
     refine r_pick_true rfl rfl rfl rfl (r_nil ?_)
     refine q_next (fun a ha => ?_)
     cases hb3
     exact ⟨rfl, ha.cut (l := [6, 25]) rfl⟩
    ·refine r_lit 22 rfl hb5 ?_
     refine r_off rfl (by decide) rfl (r_off rfl (by decide) rfl (r_pick_false rfl rfl rfl rfl (r_nil ?_)))
     refine q_next (fun a ha => ?_)
     cases hb3
     exact ⟨rfl, ha.cut (l := [6, 25]) rfl⟩
def ref35_sign_L1 (n : Nat) (op1 : Int) (kont1 : Option Bs) : Nat → Int → Option Bs
 | 0, _ => none
 | mx1 + 1, i1 =>
  bif decide (i1 < ([5, 6, 7, 8, 12, 13, 15, 16].length : Int)) then
   (ix [5, 6, 7, 8, 12, 13, 15, 16] i1).bind fun ex1 =>
   bif ex1 == op1 then
    (ix [[43], [45], [42], [47], [60], [61], [97, 110, 100], [111, 114]] i1).bind fun ex2 =>
    some ex2
   else
    ref35_sign_L1 n op1 kont1 mx1 (iadd .i64 i1 1)
  else
   kont1
theorem ref35_sign_L1_s (n : Nat) (op1 : Int) (kont1 : Option Bs) (mx1 : Nat) (i1 : Int) : ref35_sign_L1 n op1 kont1 (mx1 + 1) i1 =
  bif decide (i1 < ([5, 6, 7, 8, 12, 13, 15, 16].length : Int)) then
   (ix [5, 6, 7, 8, 12, 13, 15, 16] i1).bind fun ex1 =>
   bif ex1 == op1 then
    (ix [[43], [45], [42], [47], [60], [61], [97, 110, 100], [111, 114]] i1).bind fun ex2 =>
    some ex2
   else
    ref35_sign_L1 n op1 kont1 mx1 (iadd .i64 i1 1)
  else
   kont1 := rfl
def ref35_sign (n : Nat) (op1 : Int) : Option Bs :=
 ref35_sign_L1 n op1 (
  some []) n 0
set_option maxHeartbeats 1000000 in
set_option maxRecDepth 1000000 in
theorem ref35_sign_ok (n : Nat) (op1 : Int) (r : Bs) (hm : ref35_sign n op1 = some r) {w : World} {F : Frz} (hs : Sat F w)  :
  Calls Tryz.prog 67 #[.int .i64 op1] w fun e w' => ∃ v F' O', e = .returned v ∧ HS F w [] F' O' w' ∧ (v = vs r ∧ O' = []) := by
 unfold ref35_sign at hm
 have h := HS.init hs
 refine calls_of 24 Tryz.func67 rfl rfl rfl ?_
 refine c_seq (c_region (r_assign rfl rfl rfl (r_nil (q_then (c_seq (c_region ?_))))))
 refine r_buildSlice (e := 3) (cs := [.int .i64 5, .int .i64 6, .int .i64 7, .int .i64 8, .int .i64 12, .int .i64 13, .int .i64 15, .int .i64 16]) (q := 1) rfl rfl h rfl (fun _ => by kernel_rfl) rfl rfl ?_
 intro b1 wx1 hx1
 refine r_assign rfl rfl rfl (r_nil (q_then (c_seq (c_region ?_))))
 refine r_buildSlice (e := 9) (cs := [vs [43], vs [45], vs [42], vs [47], vs [60], vs [61], vs [97, 110, 100], vs [111, 114]]) (q := 1) rfl rfl hx1 rfl (fun _ => by kernel_rfl) rfl rfl ?_
 intro b2 wx2 hx2
 refine r_assign rfl rfl rfl (r_nil (q_then (c_seq (c_seq (c_region (r_assign rfl rfl rfl (r_nil (q_then (c_block ?_)))))))))
 intro a hax5
 obtain ⟨kont1, hkont1⟩ : ∃ kont1 : Option Bs, kont1 = (
       some []) := ⟨_, rfl⟩
 replace hm : (fun m (s : Int) => ref35_sign_L1 n op1 kont1 m s) n 0 = some r := by rw [hkont1]; exact hm
 refine loopX (id := 0) (fun m (s : Int) => ref35_sign_L1 n op1 kont1 m s) (fun (y : Unit) => kont1) r (fun (s : Int) a w' => wx2 = w' ∧ Has 24 a [(0, .int .i64 op1), (3, .slice (some ⟨b1, 0, none⟩) 8 8), (4, .slice (some ⟨b2, 0, none⟩) 8 8), (5, .int .i64 s)]) (fun (y : Unit) a w' => wx2 = w' ∧ Has 24 a []) (fun _ => rfl) ?_ ?_ hm ⟨rfl, hax5.cut (l := [0, 3, 4, 5]) rfl⟩
 ·clear hm; rintro _u a wx3 hm ⟨rfl, hax1⟩
  rw [hkont1] at hm
  refine qw_apply (e := .exit 0) hax1 ?_
  refine q_block_hit (q_then (c_seq (c_region (r_assign rfl rfl rfl (r_nil (q_then (c_ret ?_)))))))
  refine b_ret1 rfl rfl ?_
  obtain rfl := Option.some.inj hm
  exact ⟨_, _, _, rfl, hx2.pick [] (by decide) rfl, rfl, rfl⟩
 ·clear hm hkont1; intro hk1 mx1 K ihx1
  rintro i1 a wx4 hm ⟨rfl, hax2⟩
  simp only [ref35_sign_L1_s] at hm
  refine cw_apply hax2 ?_
  refine c_seq (c_seq (c_region (r_move rfl rfl rfl (r_move rfl rfl rfl ?_))))
  refine r_lenS ((show RowN (Rp.int .i64) F 8 [.int .i64 5, .int .i64 6, .int .i64 7, .int .i64 8, .int .i64 12, .int .i64 13, .int .i64 15, .int .i64 16] [5, 6, 7, 8, 12, 13, 15, 16] from ⟨rfl, ⟨_, _, rfl, rfl, ⟨_, _, rfl, rfl, ⟨_, _, rfl, rfl, ⟨_, _, rfl, rfl, ⟨_, _, rfl, rfl, ⟨_, _, rfl, rfl, ⟨_, _, rfl, rfl, ⟨_, _, rfl, rfl, (rfl : RowR (Rp.int .i64) _ [] [])⟩⟩⟩⟩⟩⟩⟩⟩⟩).len) u84 rfl rfl rfl ?_
  refine r_bin rfl rfl rfl rfl rfl ?_
  refine r_nil (q_then ?_)
  rcases cond_some hm with ⟨hb1, hm⟩ | ⟨hb1, hm⟩
  ·refine c_lit 11 rfl hb1 ?_
   refine c_true rfl (c_skip (q_then (c_seq (c_block (c_seq (c_region (r_move rfl rfl rfl (r_move rfl rfl rfl ?_))))))))
   obtain ⟨ex1, he1, hm⟩ := bind_some hm
   refine r_rindex (r := (Rp.int .i64)) u84 sz3 rfl rfl hx2 rfl rfl (p := 1) rfl rfl ((show RowN (Rp.int .i64) F 8 [.int .i64 5, .int .i64 6, .int .i64 7, .int .i64 8, .int .i64 12, .int .i64 13, .int .i64 15, .int .i64 16] [5, 6, 7, 8, 12, 13, 15, 16] from ⟨rfl, ⟨_, _, rfl, rfl, ⟨_, _, rfl, rfl, ⟨_, _, rfl, rfl, ⟨_, _, rfl, rfl, ⟨_, _, rfl, rfl, ⟨_, _, rfl, rfl, ⟨_, _, rfl, rfl, ⟨_, _, rfl, rfl, (rfl : RowR (Rp.int .i64) _ [] [])⟩⟩⟩⟩⟩⟩⟩⟩⟩)) he1 ?_
   intro b3 o1 cs1 hax3 ho1 hr1 hp1
   have hc1 : cs1 = [.int .i64 ex1] := hr1
   subst hc1
   refine r_loadR1 (j := 0) ag3 rfl rfl hx2 rfl (p := 1) rfl rfl hax3 ho1 hp1 rfl ?_
   refine r_move rfl rfl rfl ?_
   refine r_bin rfl rfl rfl rfl rfl ?_
   refine r_nil (q_then ?_)
   rcases cond_some hm with ⟨hb2, hm⟩ | ⟨hb2, hm⟩
   ·refine c_lit 19 rfl hb2 ?_
    refine c_true rfl (c_seq (c_region (r_move rfl rfl rfl (r_move rfl rfl rfl ?_))))
    obtain ⟨ex2, he2, hm⟩ := bind_some hm
    refine r_rindex (r := Rp.str) u27 sz9 rfl rfl hx2 rfl rfl (p := 0) rfl rfl ((show RowN Rp.str F 8 [vs [43], vs [45], vs [42], vs [47], vs [60], vs [61], vs [97, 110, 100], vs [111, 114]] [[43], [45], [42], [47], [60], [61], [97, 110, 100], [111, 114]] from ⟨rfl, ⟨_, _, rfl, rfl, ⟨_, _, rfl, rfl, ⟨_, _, rfl, rfl, ⟨_, _, rfl, rfl, ⟨_, _, rfl, rfl, ⟨_, _, rfl, rfl, ⟨_, _, rfl, rfl, ⟨_, _, rfl, rfl, (rfl : RowR Rp.str _ [] [])⟩⟩⟩⟩⟩⟩⟩⟩⟩)) he2 ?_
    intro b4 o2 cs2 hax4 ho2 hr2 hp2
    have hc2 : cs2 = [vs ex2] := hr2
    subst hc2
    refine r_loadR1 (j := 0) ag9 rfl rfl hx2 rfl (p := 0) rfl rfl hax4 ho2 hp2 rfl ?_
    refine r_assign rfl rfl rfl (r_nil (q_then (c_ret (q_block_ret (q_then_ret (q_then_ret (q_block_ret (q_then_ret ?_))))))))
    refine b_ret1 rfl rfl ?_
    obtain rfl := Option.some.inj hm
    exact ⟨_, _, _, rfl, hx2.pick [] (by decide) rfl, rfl, rfl⟩
   ·refine c_lit 19 rfl hb2 ?_
    refine c_false rfl (c_skip (q_block (q_then (c_region (r_move rfl rfl rfl ?_)))))
    refine r_bin rfl rfl rfl rfl rfl ?_
    refine r_assign rfl rfl rfl (r_nil ?_)
    refine q_next (fun a ha => ihx1 (iadd .i64 i1 1) a _ hm ?_)
    exact ⟨rfl, ha.cut (l := [0, 3, 4, 5]) rfl⟩
  ·refine c_lit 11 rfl hb1 ?_
   refine c_false rfl (c_exit (q_then_exit (q_then_exit ?_)))
   refine fun a ha => hk1 () a _ hm ?_
   exact ⟨rfl, ha.cut (l := []) rfl⟩
structure Reader where
 L : (List Token)
 At : Int
 Bad : Int
 deriving DecidableEq, Inhabited
theorem fa62_2 : FieldIs Tryz.prog 62 2 2 := fun _ _ _ => by kernel_rfl
theorem fa62_0 : FieldIs Tryz.prog 62 0 0 := fun _ _ _ => by kernel_rfl
theorem fa62_1 : FieldIs Tryz.prog 62 1 1 := fun _ _ _ => by kernel_rfl
def ref35_Reader_is (_n : Nat) (rx1 : Reader) (s2 : Bs) : Option (Reader × Bool) :=
 (bif rx1.Bad != 0 then
  some true
 else
  some (decide ((rx1.L.length : Int) ≤ rx1.At))).bind fun v1 =>
 bif v1 then
  some (rx1, false)
 else
  (ix rx1.L rx1.At).bind fun ex1 =>
  (bif ex1.Text == s2 then
   (bif ex1.Kind == 0 then
    some true
   else
    some (ex1.Kind == 3)).bind fun v3 =>
   some v3
  else
   some false).bind fun v2 =>
  some (rx1, v2)
set_option maxHeartbeats 1000000 in
set_option maxRecDepth 1000000 in
theorem ref35_Reader_is_ok (n : Nat) (rx1 : Reader) (s2 : Bs) (r : (Reader × Bool)) (hm : ref35_Reader_is n rx1 s2 = some r) {w : World} {F : Frz} (hs : Sat F w) {as1 : Option Addr} {ns1 : Nat} {cs1 : Nat} {brx1 : Nat} (hs1 : SlR rp_Token F as1 ns1 cs1 rx1.L) (hbrx1 : (OE.box brx1 62 [.slice as1 ns1 cs1, .int .i64 rx1.At, .int .i64 rx1.Bad]).ok w) (hfrx1 : F brx1 = none) :
  Calls Tryz.prog 32 #[.pointer (some ⟨brx1, 0, none⟩), vs s2] w fun e w' => ∃ v F' cs' O', e = .returned v ∧ HS F w [brx1] F' (.box brx1 62 cs' :: O') w' ∧ (∃ (al_0 : Option Addr) (nl_0 : Nat) (cl_0 : Nat), v = .bool r.2 ∧ cs' = [.slice al_0 nl_0 cl_0, .int .i64 r.1.At, .int .i64 r.1.Bad] ∧ O' = [] ∧ SlR rp_Token F' al_0 nl_0 cl_0 r.1.L) := by
 unfold ref35_Reader_is at hm
 have h := HS.lend hs hbrx1 hfrx1
 refine calls_of 47 Tryz.func32 rfl rfl rfl ?_
 refine c_seq (c_region (r_assign rfl rfl rfl (r_nil (q_then (c_seq (c_seq ?_))))))
 refine c_regionD (by kernel_rfl) (by kernel_rfl) h ?_
 refine q_stp rfl rfl rfl rfl (fun _ _ _ _ => r_move rfl rfl rfl (r_nil (qq rfl))) ?_
 refine q_nilC rfl rfl rfl ?_
 refine q_stp rfl rfl rfl rfl (fun _ _ _ _ => r_fieldAddr fa62_2 rfl rfl rfl (r_nil (qq rfl))) ?_
 refine q_stp rfl rfl rfl rfl (fun _ _ _ hq => r_loadB1 ag31 rfl rfl hq rfl (i := 0) rfl rfl (r_nil (qq rfl))) ?_
 refine q_stp rfl rfl rfl rfl (fun _ _ _ _ => r_bin rfl rfl rfl rfl rfl (r_nil (qq rfl))) ?_
 refine q_stp rfl rfl rfl rfl (fun _ _ _ _ => r_move rfl rfl rfl (r_nil (qq rfl))) ?_
 obtain ⟨v1, hb1, hm⟩ := bind_some hm
 refine q_mid 11 (fun a => Has 47 a [(0, .pointer (some ⟨brx1, 0, none⟩)), (1, vs s2), (22, .bool v1)]) ?_ ?_
 ·intro a hax1
  refine qr_apply hax1 ?_
  refine q_end ?_
  rintro wx2 ⟨Fx1, hF1, hx1⟩
  refine q_then ?_
  rcases cond_some hm with ⟨hb2, hm⟩ | ⟨hb2, hm⟩
  ·refine c_lit 22 rfl hb2 ?_
   refine c_true rfl (c_seq (c_region (r_assign rfl rfl rfl (r_nil (q_then (c_ret (q_then_ret ?_)))))))
   refine b_ret1 rfl rfl ?_
   obtain rfl := Option.some.inj hm
   exact ⟨_, _, _, _, rfl, hx1.pick [0] (by decide) rfl, as1, ns1, cs1, rfl, rfl, rfl, (hs1.mono hF1)⟩
  ·refine c_lit 22 rfl hb2 ?_
   refine c_false rfl (c_skip (q_then (c_seq ?_)))
   refine c_regionH (SH Fx1 [.box brx1 62 [.slice as1 ns1 cs1, .int .i64 rx1.At, .int .i64 rx1.Bad]]) 12 rfl (by kernel_rfl) hx1 ?_
   intro wx3 hx2
   refine d_tk 0 rfl (by kernel_rfl) rfl rfl rfl rfl (hx2.sh (Frz.refl _) [0] (by decide) rfl) (fun _ _ _ _ _ => r_move rfl rfl rfl (r_nil (qq rfl))) ?_
   refine d_nilC 1 rfl (by kernel_rfl) (by kernel_rfl) (by kernel_rfl) rfl rfl rfl (hx2.sh (Frz.refl _) [0] (by decide) rfl) ?_
   refine d_tk 2 rfl (by kernel_rfl) rfl rfl rfl rfl (hx2.sh (Frz.refl _) [0] (by decide) rfl) (fun _ _ _ _ _ => r_fieldAddr fa62_0 rfl rfl rfl (r_nil (qq rfl))) ?_
   refine d_tk 3 rfl (by kernel_rfl) rfl rfl rfl rfl (hx2.sh (Frz.refl _) [0] (by decide) rfl) (fun _ _ _ _ hq => r_loadB1 ag45 rfl rfl hq rfl (i := 0) rfl rfl (r_nil (qq rfl))) ?_
   refine d_tk 4 rfl (by kernel_rfl) rfl rfl rfl rfl (hx2.sh (Frz.refl _) [0] (by decide) rfl) (fun _ _ _ _ _ => r_move rfl rfl rfl (r_nil (qq rfl))) ?_
   refine d_nilC 5 rfl (by kernel_rfl) (by kernel_rfl) (by kernel_rfl) rfl rfl rfl (hx2.sh (Frz.refl _) [0] (by decide) rfl) ?_
   refine d_tk 6 rfl (by kernel_rfl) rfl rfl rfl rfl (hx2.sh (Frz.refl _) [0] (by decide) rfl) (fun _ _ _ _ _ => r_fieldAddr fa62_1 rfl rfl rfl (r_nil (qq rfl))) ?_
   refine d_tk 7 rfl (by kernel_rfl) rfl rfl rfl rfl (hx2.sh (Frz.refl _) [0] (by decide) rfl) (fun _ _ _ _ hq => r_loadB1 ag3 rfl rfl hq rfl (i := 0) rfl rfl (r_nil (qq rfl))) ?_
   obtain ⟨ex1, he1, hm⟩ := bind_some hm
   obtain ⟨b1, o1, cs1, hf1, hr1, hrun1⟩ := findex_ex (P := Tryz.prog) (r := rp_Token) u45 sz53 (hs1.mono hF1) he1
   have hc1 : cs1 = [.int .i64 ex1.Kind, vs ex1.Text, .int .i64 ex1.N, .int .i64 ex1.Pos] := hr1
   subst hc1
   refine d_findex 8 rfl (by kernel_rfl) (by kernel_rfl) (by kernel_rfl) rfl rfl rfl rfl hrun1 (hx2.sh (Frz.refl _) [0] (by decide) rfl) ?_
   refine d_tk 9 rfl (by kernel_rfl) rfl rfl rfl rfl (hx2.sh (Frz.refl _) [0] (by decide) rfl) (fun _ _ _ hleq hq => r_loadFW ag53 sz53 rfl rfl hq (hf1.mono hleq) rfl rfl (r_nil (qq rfl))) ?_
   refine d_step 10 rfl (by kernel_rfl) ?_
   refine r_alloc ze53 rfl rfl rfl hx2 ?_
   intro b2 wx4 hx3
   refine d_next (hx3.sh (Frz.refl _) [1] (by decide) rfl) ?_
   refine d_step 11 rfl (by kernel_rfl) ?_
   refine r_store sz53 rfl hx3 rfl rfl rfl rfl (i := 0) rfl rfl rfl rfl ?_
   intro wx5 hx4
   refine d_next (hx4.sh (Frz.refl _) [1] (by decide) rfl) ?_
   refine d_done (by kernel_rfl) ?_
   refine q_then (c_seq (c_region ?_))
   refine r_fieldAddr fa53_1 rfl rfl rfl ?_
   refine r_loadB1 ag9 rfl rfl hx4 rfl (i := 0) rfl rfl ?_
   refine r_move rfl rfl rfl ?_
   refine r_str rfl rfl rfl rfl rfl ?_
   refine r_move rfl rfl rfl ?_
   obtain ⟨v2, hb3, hm⟩ := bind_some hm
   refine r_mid 9 (fun a w' => wx5 = w' ∧ Has 47 a [(46, .bool v2)]) ?_ ?_
   ·rintro a wx6 ⟨rfl, hax2⟩
    refine rw_apply hax2 ?_
    refine r_assign rfl rfl rfl (r_nil (q_then (c_ret ?_)))
    refine b_ret1 rfl rfl ?_
    obtain rfl := Option.some.inj hm
    exact ⟨_, _, _, _, rfl, hx4.pick [1] (by decide) rfl, as1, ns1, cs1, rfl, rfl, rfl, (hs1.mono hF1)⟩
   ·clear hm
    rcases cond_some hb3 with ⟨hb4, hb3⟩ | ⟨hb4, hb3⟩
    ·refine r_lit 37 rfl hb4 ?_
     refine r_fieldAddr fa53_0 rfl rfl rfl ?_
     refine r_loadB1 ag3 rfl rfl hx4 rfl (i := 0) rfl rfl ?_
     refine r_bin rfl rfl rfl rfl rfl ?_
     refine r_move rfl rfl rfl ?_
     obtain ⟨v3, hb5, hb3⟩ := bind_some hb3
     refine r_mid 4 (fun a w' => wx5 = w' ∧ Has 47 a [(37, .bool true), (45, .bool v3)]) ?_ ?_
     ·rintro a wx7 ⟨rfl, hax3⟩
      refine rw_apply hax3 ?_
      refine r_pick_true rfl rfl rfl rfl (r_nil ?_)
      refine q_next (fun a ha => ?_)
      cases hb3
      exact ⟨rfl, ha.cut (l := [46]) rfl⟩
     ·clear hb3
      rcases cond_some hb5 with ⟨hb6, hb5⟩ | ⟨hb6, hb5⟩
      ·refine r_lit 41 rfl hb6 ?_
       refine r_off rfl (by decide) rfl (r_off rfl (by decide) rfl (r_off rfl (by decide) rfl (r_pick_true rfl rfl rfl rfl (r_nil ?_))))
       refine q_next (fun a ha => ?_)
       cases hb5
       exact ⟨rfl, ha.cut (l := [37, 45]) rfl⟩
      ·refine r_lit 41 rfl hb6 ?_
       refine r_fieldAddr fa53_0 rfl rfl rfl ?_
       refine r_loadB1 ag3 rfl rfl hx4 rfl (i := 0) rfl rfl ?_
       refine r_bin rfl rfl rfl rfl rfl ?_
       refine r_pick_false rfl rfl rfl rfl (r_nil ?_)
       refine q_next (fun a ha => ?_)
       cases hb5
       exact ⟨rfl, ha.cut (l := [37, 45]) rfl⟩
    ·refine r_lit 37 rfl hb4 ?_
     refine r_off rfl (by decide) rfl (r_off rfl (by decide) rfl (r_off rfl (by decide) rfl (r_off rfl (by decide) rfl (r_off rfl (by decide) rfl (r_off rfl (by decide) rfl (r_off rfl (by decide) rfl (r_off rfl (by decide) rfl (r_pick_false rfl rfl rfl rfl (r_nil ?_)))))))))
     refine q_next (fun a ha => ?_)
     cases hb3
     exact ⟨rfl, ha.cut (l := [46]) rfl⟩
 ·clear hm
  rcases cond_some hb1 with ⟨hb7, hb1⟩ | ⟨hb7, hb1⟩
  ·refine q_lit 11 rfl hb7 ?_
   refine q_off rfl rfl rfl (q_off rfl rfl rfl (q_off rfl rfl rfl (q_off rfl rfl rfl (q_off rfl rfl rfl (q_off rfl rfl rfl (q_off rfl rfl rfl (q_off rfl rfl rfl (q_off rfl rfl rfl (q_off rfl rfl rfl ?_)))))))))
   refine q_stp rfl rfl rfl rfl (fun _ _ _ _ => r_pick_true rfl rfl rfl rfl (r_nil (qq rfl))) ?_
   refine q_nil (fun a ha => ?_)
   cases hb1
   exact ha.cut (l := [0, 1, 22]) rfl
  ·refine q_lit 11 rfl hb7 ?_
   refine q_stp rfl rfl rfl rfl (fun _ _ _ _ => r_move rfl rfl rfl (r_nil (qq rfl))) ?_
   refine q_nilC rfl rfl rfl ?_
   refine q_stp rfl rfl rfl rfl (fun _ _ _ _ => r_fieldAddr fa62_1 rfl rfl rfl (r_nil (qq rfl))) ?_
   refine q_stp rfl rfl rfl rfl (fun _ _ _ hq => r_loadB1 ag3 rfl rfl hq rfl (i := 0) rfl rfl (r_nil (qq rfl))) ?_
   refine q_stp rfl rfl rfl rfl (fun _ _ _ _ => r_move rfl rfl rfl (r_nil (qq rfl))) ?_
   refine q_nilC rfl rfl rfl ?_
   refine q_stp rfl rfl rfl rfl (fun _ _ _ _ => r_fieldAddr fa62_0 rfl rfl rfl (r_nil (qq rfl))) ?_
   refine q_stp rfl rfl rfl rfl (fun _ _ _ hq => r_loadB1 ag45 rfl rfl hq rfl (i := 0) rfl rfl (r_nil (qq rfl))) ?_
   refine q_stp rfl rfl rfl rfl (fun _ _ _ _ => r_lenS hs1.len u45 rfl rfl rfl (r_nil (qq rfl))) ?_
   refine q_stp rfl rfl rfl rfl (fun _ _ _ _ => r_bin rfl rfl rfl rfl rfl (r_nil (qq rfl))) ?_
   refine q_stp rfl rfl rfl rfl (fun _ _ _ _ => r_pick_false rfl rfl rfl rfl (r_nil (qq rfl))) ?_
   refine q_nil (fun a ha => ?_)
   cases hb1
   exact ha.cut (l := [0, 1, 22]) rfl
theorem ent32 : Ent Tryz.prog 32 := fun _ _ => by kernel_rfl
def ref35_Reader_take (n : Nat) (rx1 : Reader) (s2 : Bs) : Option (Reader × Bool) :=
 (ref35_Reader_is n rx1 s2).bind fun v1 =>
 (bif v1.2 then
  some (iadd .i64 v1.1.At 1)
 else
  some v1.1.At).bind fun f1 =>
 some ((⟨v1.1.L, f1, v1.1.Bad⟩ : Reader), v1.2)
set_option maxHeartbeats 1000000 in
set_option maxRecDepth 1000000 in
theorem ref35_Reader_take_ok (n : Nat) (rx1 : Reader) (s2 : Bs) (r : (Reader × Bool)) (hm : ref35_Reader_take n rx1 s2 = some r) {w : World} {F : Frz} (hs : Sat F w) {as1 : Option Addr} {ns1 : Nat} {cs1 : Nat} {brx1 : Nat} (hs1 : SlR rp_Token F as1 ns1 cs1 rx1.L) (hbrx1 : (OE.box brx1 62 [.slice as1 ns1 cs1, .int .i64 rx1.At, .int .i64 rx1.Bad]).ok w) (hfrx1 : F brx1 = none) :
  Calls Tryz.prog 34 #[.pointer (some ⟨brx1, 0, none⟩), vs s2] w fun e w' => ∃ v F' cs' O', e = .returned v ∧ HS F w [brx1] F' (.box brx1 62 cs' :: O') w' ∧ (∃ (al_0 : Option Addr) (nl_0 : Nat) (cl_0 : Nat), v = .bool r.2 ∧ cs' = [.slice al_0 nl_0 cl_0, .int .i64 r.1.At, .int .i64 r.1.Bad] ∧ O' = [] ∧ SlR rp_Token F' al_0 nl_0 cl_0 r.1.L) := by
 unfold ref35_Reader_take at hm
 have h := HS.lend hs hbrx1 hfrx1
 refine calls_of 18 Tryz.func34 rfl rfl rfl ?_
 refine c_seq (c_region (r_assign rfl rfl rfl (r_nil (q_then (c_seq (c_region (r_move rfl rfl rfl (r_move rfl rfl rfl ?_))))))))
 obtain ⟨v1, hv1, hm⟩ := bind_some hm
 refine r_callL ent32 rfl rfl rfl rfl h (i := 0) rfl (ref35_Reader_is_ok _ _ _ _ hv1 h.sat hs1 (h.get (i := 0) rfl) (h.lendable (i := 0) rfl)) ?_
 rintro _ Fx1 _ _ wx1 hF1 hx1 ⟨as3, ns3, cs3, rfl, rfl, rfl, hs3⟩
 refine r_assign rfl rfl rfl (r_nil (q_then (c_seq (c_seq (c_region (r_move rfl rfl rfl (r_nil (q_then ?_))))))))
 obtain ⟨f1, hb1, hm⟩ := bind_some hm
 refine c_midT (fun a w' => ∃ (Fx2 : Frz), Frz.le Fx1 Fx2 ∧ HS F w [brx1] Fx2 [.box brx1 62 [.slice as3 ns3 cs3, .int .i64 f1, .int .i64 v1.1.Bad]] w' ∧ Has 18 a [(5, .bool v1.2)]) ?_ ?_
 ·rintro a wx2 ⟨Fx2, hF2, hx2, hax1⟩
  refine cw_apply hax1 ?_
  refine c_seq (c_region (r_move rfl rfl rfl (r_assign rfl rfl rfl (r_nil (q_then (c_ret ?_))))))
  refine b_ret1 rfl rfl ?_
  obtain rfl := Option.some.inj hm
  exact ⟨_, _, _, _, rfl, hx2.pick [0] (by decide) rfl, as3, ns3, cs3, rfl, rfl, rfl, (hs3.mono hF2)⟩
 ·clear hm
  rcases cond_some hb1 with ⟨hb2, hb1⟩ | ⟨hb2, hb1⟩
  ·refine c_lit 9 rfl hb2 ?_
   refine c_true rfl (c_region (r_move rfl rfl rfl ?_))
   refine r_nilC rfl rfl rfl ?_
   refine r_fieldAddr fa62_1 rfl rfl rfl ?_
   refine r_loadB1 ag3 rfl rfl hx1 rfl (i := 0) rfl rfl ?_
   refine r_bin rfl rfl rfl rfl rfl ?_
   refine r_nilC rfl rfl rfl ?_
   refine r_fieldAddr fa62_1 rfl rfl rfl ?_
   refine r_store sz3 rfl hx1 rfl rfl rfl rfl (i := 0) rfl rfl rfl rfl ?_
   intro wx3 hx3
   refine r_nil ?_
   refine q_next (fun a ha => ?_)
   cases hb1
   exact ⟨_, Frz.refl _, hx3.pick [0] (by decide) rfl, ha.cut (l := [5]) rfl⟩
  ·refine c_lit 9 rfl hb2 ?_
   refine c_false rfl (c_skip ?_)
   refine q_next (fun a ha => ?_)
   cases hb1
   exact ⟨_, Frz.refl _, hx1.pick [0] (by decide) rfl, ha.cut (l := [5]) rfl⟩
def ref35_Reader_fail (_n : Nat) (rx1 : Reader) (ex1 : Int) : Option Reader :=
 bif rx1.Bad == 0 then
  some (⟨rx1.L, rx1.At, ex1⟩ : Reader)
 else
  some rx1
set_option maxHeartbeats 1000000 in
set_option maxRecDepth 1000000 in
theorem ref35_Reader_fail_ok (n : Nat) (rx1 : Reader) (ex1 : Int) (r : Reader) (hm : ref35_Reader_fail n rx1 ex1 = some r) {w : World} {F : Frz} (hs : Sat F w) {as1 : Option Addr} {ns1 : Nat} {cs1 : Nat} {brx1 : Nat} (hs1 : SlR rp_Token F as1 ns1 cs1 rx1.L) (hbrx1 : (OE.box brx1 62 [.slice as1 ns1 cs1, .int .i64 rx1.At, .int .i64 rx1.Bad]).ok w) (hfrx1 : F brx1 = none) :
  Calls Tryz.prog 33 #[.pointer (some ⟨brx1, 0, none⟩), .int .i64 ex1] w fun e w' => ∃ v F' cs' O', e = .returned v ∧ HS F w [brx1] F' (.box brx1 62 cs' :: O') w' ∧ (∃ (al_0 : Option Addr) (nl_0 : Nat) (cl_0 : Nat), v = .tuple #[] ∧ cs' = [.slice al_0 nl_0 cl_0, .int .i64 r.At, .int .i64 r.Bad] ∧ O' = [] ∧ SlR rp_Token F' al_0 nl_0 cl_0 r.L) := by
 unfold ref35_Reader_fail at hm
 have h := HS.lend hs hbrx1 hfrx1
 refine calls_of 13 Tryz.func33 rfl rfl rfl ?_
 refine c_seq (c_region (r_move rfl rfl rfl ?_))
 refine r_nilC rfl rfl rfl ?_
 refine r_fieldAddr fa62_2 rfl rfl rfl ?_
 refine r_loadB1 ag31 rfl rfl h rfl (i := 0) rfl rfl ?_
 refine r_bin rfl rfl rfl rfl rfl ?_
 refine r_nil (q_then ?_)
 rcases cond_some hm with ⟨hb1, hm⟩ | ⟨hb1, hm⟩
 ·refine c_lit 8 rfl hb1 ?_
  refine c_true rfl (c_region (r_move rfl rfl rfl (r_move rfl rfl rfl ?_)))
  refine r_nilC rfl rfl rfl ?_
  refine r_fieldAddr fa62_2 rfl rfl rfl ?_
  refine r_store sz31 rfl h rfl rfl rfl rfl (i := 0) rfl rfl rfl rfl ?_
  intro wx1 hx1
  refine r_nil ?_
  refine b_end0 rfl ?_
  obtain rfl := Option.some.inj hm
  exact ⟨_, _, _, _, rfl, hx1.pick [0] (by decide) rfl, as1, ns1, cs1, rfl, rfl, rfl, hs1⟩
 ·refine c_lit 8 rfl hb1 ?_
  refine c_false rfl (c_skip ?_)
  refine b_end0 rfl ?_
  obtain rfl := Option.some.inj hm
  exact ⟨_, _, _, _, rfl, h.pick [0] (by decide) rfl, as1, ns1, cs1, rfl, rfl, rfl, hs1⟩
theorem ent34 : Ent Tryz.prog 34 := fun _ _ => by kernel_rfl
theorem ent33 : Ent Tryz.prog 33 := fun _ _ => by kernel_rfl
def ref35_Reader_need (n : Nat) (rx1 : Reader) (s2 : Bs) : Option Reader :=
 (ref35_Reader_take n rx1 s2).bind fun v1 =>
 bif !v1.2 then
  (ref35_Reader_fail n v1.1 12).bind fun v2 =>
  some v2
 else
  some v1.1
set_option maxHeartbeats 1000000 in
set_option maxRecDepth 1000000 in
theorem ref35_Reader_need_ok (n : Nat) (rx1 : Reader) (s2 : Bs) (r : Reader) (hm : ref35_Reader_need n rx1 s2 = some r) {w : World} {F : Frz} (hs : Sat F w) {as1 : Option Addr} {ns1 : Nat} {cs1 : Nat} {brx1 : Nat} (hs1 : SlR rp_Token F as1 ns1 cs1 rx1.L) (hbrx1 : (OE.box brx1 62 [.slice as1 ns1 cs1, .int .i64 rx1.At, .int .i64 rx1.Bad]).ok w) (hfrx1 : F brx1 = none) :
  Calls Tryz.prog 29 #[.pointer (some ⟨brx1, 0, none⟩), vs s2] w fun e w' => ∃ v F' cs' O', e = .returned v ∧ HS F w [brx1] F' (.box brx1 62 cs' :: O') w' ∧ (∃ (al_0 : Option Addr) (nl_0 : Nat) (cl_0 : Nat), v = .tuple #[] ∧ cs' = [.slice al_0 nl_0 cl_0, .int .i64 r.At, .int .i64 r.Bad] ∧ O' = [] ∧ SlR rp_Token F' al_0 nl_0 cl_0 r.L) := by
 unfold ref35_Reader_need at hm
 have h := HS.lend hs hbrx1 hfrx1
 refine calls_of 10 Tryz.func29 rfl rfl rfl ?_
 refine c_seq (c_region (r_move rfl rfl rfl (r_move rfl rfl rfl ?_)))
 obtain ⟨v1, hv1, hm⟩ := bind_some hm
 refine r_callL ent34 rfl rfl rfl rfl h (i := 0) rfl (ref35_Reader_take_ok _ _ _ _ hv1 h.sat hs1 (h.get (i := 0) rfl) (h.lendable (i := 0) rfl)) ?_
 rintro _ Fx1 _ _ wx1 hF1 hx1 ⟨as3, ns3, cs3, rfl, rfl, rfl, hs3⟩
 refine r_not rfl rfl rfl (r_nil (q_then ?_))
 rcases cond_some hm with ⟨hb1, hm⟩ | ⟨hb1, hm⟩
 ·refine c_lit 7 rfl hb1 ?_
  refine c_true rfl (c_region (r_move rfl rfl rfl ?_))
  obtain ⟨v2, hv2, hm⟩ := bind_some hm
  refine r_callL ent33 rfl rfl rfl rfl hx1 (i := 0) rfl (ref35_Reader_fail_ok _ _ _ _ hv2 hx1.sat hs3 (hx1.get (i := 0) rfl) (hx1.lendable (i := 0) rfl)) ?_
  rintro _ Fx2 _ _ wx2 hF2 hx2 ⟨as4, ns4, cs4, rfl, rfl, rfl, hs4⟩
  refine r_nil ?_
  refine b_end0 rfl ?_
  obtain rfl := Option.some.inj hm
  exact ⟨_, _, _, _, rfl, hx2.pick [0] (by decide) rfl, as4, ns4, cs4, rfl, rfl, rfl, hs4⟩
 ·refine c_lit 7 rfl hb1 ?_
  refine c_false rfl (c_skip ?_)
  refine b_end0 rfl ?_
  obtain rfl := Option.some.inj hm
  exact ⟨_, _, _, _, rfl, hx1.pick [0] (by decide) rfl, as3, ns3, cs3, rfl, rfl, rfl, hs3⟩
def ref35_Reader_one (n : Nat) (rx1 : Reader) (kind1 : Int) : Option (Reader × Token) :=
 (bif rx1.Bad != 0 then
  some true
 else
  some (decide ((rx1.L.length : Int) ≤ rx1.At))).bind fun v1 =>
 bif v1 then
  (ref35_Reader_fail n rx1 12).bind fun v2 =>
  some (v2, (⟨0, [], 0, 0⟩ : Token))
 else
  (ix rx1.L rx1.At).bind fun ex1 =>
  bif ex1.Kind != kind1 then
   (ref35_Reader_fail n rx1 12).bind fun v3 =>
   some (v3, (⟨0, [], 0, 0⟩ : Token))
  else
   some ((⟨rx1.L, iadd .i64 rx1.At 1, rx1.Bad⟩ : Reader), ex1)
set_option maxHeartbeats 1000000 in
set_option maxRecDepth 1000000 in
theorem ref35_Reader_one_ok (n : Nat) (rx1 : Reader) (kind1 : Int) (r : (Reader × Token)) (hm : ref35_Reader_one n rx1 kind1 = some r) {w : World} {F : Frz} (hs : Sat F w) {as1 : Option Addr} {ns1 : Nat} {cs1 : Nat} {brx1 : Nat} (hs1 : SlR rp_Token F as1 ns1 cs1 rx1.L) (hbrx1 : (OE.box brx1 62 [.slice as1 ns1 cs1, .int .i64 rx1.At, .int .i64 rx1.Bad]).ok w) (hfrx1 : F brx1 = none) :
  Calls Tryz.prog 30 #[.pointer (some ⟨brx1, 0, none⟩), .int .i64 kind1] w fun e w' => ∃ v F' cs' O', e = .returned v ∧ HS F w [brx1] F' (.box brx1 62 cs' :: O') w' ∧ (∃ (al_0 : Option Addr) (nl_0 : Nat) (cl_0 : Nat), v = .agg #[.int .i64 r.2.Kind, vs r.2.Text, .int .i64 r.2.N, .int .i64 r.2.Pos] ∧ cs' = [.slice al_0 nl_0 cl_0, .int .i64 r.1.At, .int .i64 r.1.Bad] ∧ O' = [] ∧ SlR rp_Token F' al_0 nl_0 cl_0 r.1.L) := by
 unfold ref35_Reader_one at hm
 have h := HS.lend hs hbrx1 hfrx1
 refine calls_of 51 Tryz.func30 rfl rfl rfl ?_
 refine c_seq (c_region ?_)
 refine r_alloc ze53 rfl rfl rfl h ?_
 intro b1 wx1 hx1
 refine r_nil (q_then (c_seq (c_seq ?_)))
 refine c_regionD (by kernel_rfl) (by kernel_rfl) hx1 ?_
 refine q_stp rfl rfl rfl rfl (fun _ _ _ _ => r_move rfl rfl rfl (r_nil (qq rfl))) ?_
 refine q_nilC rfl rfl rfl ?_
 refine q_stp rfl rfl rfl rfl (fun _ _ _ _ => r_fieldAddr fa62_2 rfl rfl rfl (r_nil (qq rfl))) ?_
 refine q_stp rfl rfl rfl rfl (fun _ _ _ hq => r_loadB1 ag31 rfl rfl hq rfl (i := 1) rfl rfl (r_nil (qq rfl))) ?_
 refine q_stp rfl rfl rfl rfl (fun _ _ _ _ => r_bin rfl rfl rfl rfl rfl (r_nil (qq rfl))) ?_
 refine q_stp rfl rfl rfl rfl (fun _ _ _ _ => r_move rfl rfl rfl (r_nil (qq rfl))) ?_
 obtain ⟨v1, hb1, hm⟩ := bind_some hm
 refine q_mid 11 (fun a => Has 51 a [(0, .pointer (some ⟨brx1, 0, none⟩)), (1, .int .i64 kind1), (4, .pointer (some ⟨b1, 0, none⟩)), (22, .bool v1)]) ?_ ?_
 ·intro a hax1
  refine qr_apply hax1 ?_
  refine q_end ?_
  rintro wx3 ⟨Fx1, hF1, hx2⟩
  refine q_then ?_
  rcases cond_some hm with ⟨hb2, hm⟩ | ⟨hb2, hm⟩
  ·refine c_lit 22 rfl hb2 ?_
   refine c_true rfl (c_seq (c_region (r_move rfl rfl rfl ?_)))
   obtain ⟨v2, hv1, hm⟩ := bind_some hm
   refine r_callL ent33 rfl rfl rfl rfl hx2 (i := 1) rfl (ref35_Reader_fail_ok _ _ _ _ hv1 hx2.sat (hs1.mono hF1) (hx2.get (i := 1) rfl) (hx2.lendable (i := 1) rfl)) ?_
   rintro _ Fx2 _ _ wx4 hF2 hx3 ⟨as2, ns2, cs2, rfl, rfl, rfl, hs2⟩
   refine r_nil (q_then (c_seq (c_region ?_)))
   refine r_build (v := .agg #[.int .i64 0, vs [], .int .i64 0, .int .i64 0]) rfl rfl rfl (fun _ => by kernel_rfl) ?_
   refine r_store sz53 rfl hx3 rfl rfl rfl rfl (i := 0) rfl rfl rfl rfl ?_
   intro wx5 hx4
   refine r_nil (q_then (c_ret (q_then_ret ?_)))
   refine b_retC rfl ag53 sz53 rfl hx4 rfl (i := 0) rfl ?_
   obtain rfl := Option.some.inj hm
   exact ⟨_, _, _, _, rfl, hx4.pick [1] (by decide) rfl, as2, ns2, cs2, rfl, rfl, rfl, hs2⟩
  ·refine c_lit 22 rfl hb2 ?_
   refine c_false rfl (c_skip (q_then (c_seq ?_)))
   refine c_regionH (SH Fx1 [.box b1 53 [.int .i64 0, vs [], .int .i64 0, .int .i64 0], .box brx1 62 [.slice as1 ns1 cs1, .int .i64 rx1.At, .int .i64 rx1.Bad]]) 12 rfl (by kernel_rfl) hx2 ?_
   intro wx6 hx5
   refine d_tk 0 rfl (by kernel_rfl) rfl rfl rfl rfl (hx5.sh (Frz.refl _) [0, 1] (by decide) rfl) (fun _ _ _ _ _ => r_move rfl rfl rfl (r_nil (qq rfl))) ?_
   refine d_nilC 1 rfl (by kernel_rfl) (by kernel_rfl) (by kernel_rfl) rfl rfl rfl (hx5.sh (Frz.refl _) [0, 1] (by decide) rfl) ?_
   refine d_tk 2 rfl (by kernel_rfl) rfl rfl rfl rfl (hx5.sh (Frz.refl _) [0, 1] (by decide) rfl) (fun _ _ _ _ _ => r_fieldAddr fa62_0 rfl rfl rfl (r_nil (qq rfl))) ?_
   refine d_tk 3 rfl (by kernel_rfl) rfl rfl rfl rfl (hx5.sh (Frz.refl _) [0, 1] (by decide) rfl) (fun _ _ _ _ hq => r_loadB1 ag45 rfl rfl hq rfl (i := 1) rfl rfl (r_nil (qq rfl))) ?_
   refine d_tk 4 rfl (by kernel_rfl) rfl rfl rfl rfl (hx5.sh (Frz.refl _) [0, 1] (by decide) rfl) (fun _ _ _ _ _ => r_move rfl rfl rfl (r_nil (qq rfl))) ?_
   refine d_nilC 5 rfl (by kernel_rfl) (by kernel_rfl) (by kernel_rfl) rfl rfl rfl (hx5.sh (Frz.refl _) [0, 1] (by decide) rfl) ?_
   refine d_tk 6 rfl (by kernel_rfl) rfl rfl rfl rfl (hx5.sh (Frz.refl _) [0, 1] (by decide) rfl) (fun _ _ _ _ _ => r_fieldAddr fa62_1 rfl rfl rfl (r_nil (qq rfl))) ?_
   refine d_tk 7 rfl (by kernel_rfl) rfl rfl rfl rfl (hx5.sh (Frz.refl _) [0, 1] (by decide) rfl) (fun _ _ _ _ hq => r_loadB1 ag3 rfl rfl hq rfl (i := 1) rfl rfl (r_nil (qq rfl))) ?_
   obtain ⟨ex1, he1, hm⟩ := bind_some hm
   obtain ⟨b2, o1, cs1, hf1, hr1, hrun1⟩ := findex_ex (P := Tryz.prog) (r := rp_Token) u45 sz53 (hs1.mono hF1) he1
   have hc1 : cs1 = [.int .i64 ex1.Kind, vs ex1.Text, .int .i64 ex1.N, .int .i64 ex1.Pos] := hr1
   subst hc1
   refine d_findex 8 rfl (by kernel_rfl) (by kernel_rfl) (by kernel_rfl) rfl rfl rfl rfl hrun1 (hx5.sh (Frz.refl _) [0, 1] (by decide) rfl) ?_
   refine d_tk 9 rfl (by kernel_rfl) rfl rfl rfl rfl (hx5.sh (Frz.refl _) [0, 1] (by decide) rfl) (fun _ _ _ hleq hq => r_loadFW ag53 sz53 rfl rfl hq (hf1.mono hleq) rfl rfl (r_nil (qq rfl))) ?_
   refine d_step 10 rfl (by kernel_rfl) ?_
   refine r_alloc ze53 rfl rfl rfl hx5 ?_
   intro b3 wx7 hx6
   refine d_next (hx6.sh (Frz.refl _) [1, 2] (by decide) rfl) ?_
   refine d_step 11 rfl (by kernel_rfl) ?_
   refine r_store sz53 rfl hx6 rfl rfl rfl rfl (i := 0) rfl rfl rfl rfl ?_
   intro wx8 hx7
   refine d_next (hx7.sh (Frz.refl _) [1, 2] (by decide) rfl) ?_
   refine d_done (by kernel_rfl) ?_
   refine q_then (c_seq (c_seq (c_region ?_)))
   refine r_fieldAddr fa53_0 rfl rfl rfl ?_
   refine r_loadB1 ag3 rfl rfl hx7 rfl (i := 0) rfl rfl ?_
   refine r_move rfl rfl rfl ?_
   refine r_bin rfl rfl rfl rfl rfl ?_
   refine r_nil (q_then ?_)
   rcases cond_some hm with ⟨hb3, hm⟩ | ⟨hb3, hm⟩
   ·refine c_lit 39 rfl hb3 ?_
    refine c_true rfl (c_seq (c_region (r_move rfl rfl rfl ?_)))
    obtain ⟨v3, hv2, hm⟩ := bind_some hm
    refine r_callL ent33 rfl rfl rfl rfl hx7 (i := 2) rfl (ref35_Reader_fail_ok _ _ _ _ hv2 hx7.sat (hs1.mono hF1) (hx7.get (i := 2) rfl) (hx7.lendable (i := 2) rfl)) ?_
    rintro _ Fx3 _ _ wx9 hF3 hx8 ⟨as3, ns3, cs3, rfl, rfl, rfl, hs3⟩
    refine r_nil (q_then (c_seq (c_region ?_)))
    refine r_build (v := .agg #[.int .i64 0, vs [], .int .i64 0, .int .i64 0]) rfl rfl rfl (fun _ => by kernel_rfl) ?_
    refine r_store sz53 rfl hx8 rfl rfl rfl rfl (i := 1) rfl rfl rfl rfl ?_
    intro wx10 hx9
    refine r_nil (q_then (c_ret (q_then_ret ?_)))
    refine b_retC rfl ag53 sz53 rfl hx9 rfl (i := 1) rfl ?_
    obtain rfl := Option.some.inj hm
    exact ⟨_, _, _, _, rfl, hx9.pick [2] (by decide) rfl, as3, ns3, cs3, rfl, rfl, rfl, hs3⟩
   ·refine c_lit 39 rfl hb3 ?_
    refine c_false rfl (c_skip (q_then (c_seq (c_region (r_move rfl rfl rfl ?_)))))
    refine r_nilC rfl rfl rfl ?_
    refine r_fieldAddr fa62_1 rfl rfl rfl ?_
    refine r_loadB1 ag3 rfl rfl hx7 rfl (i := 2) rfl rfl ?_
    refine r_bin rfl rfl rfl rfl rfl ?_
    refine r_nilC rfl rfl rfl ?_
    refine r_fieldAddr fa62_1 rfl rfl rfl ?_
    refine r_store sz3 rfl hx7 rfl rfl rfl rfl (i := 2) rfl rfl rfl rfl ?_
    intro wx11 hx10
    refine r_nil (q_then (c_seq (c_region ?_)))
    refine r_loadBW ag53 sz53 rfl rfl hx10 rfl (i := 0) rfl rfl ?_
    refine r_store sz53 rfl hx10 rfl rfl rfl rfl (i := 1) rfl rfl rfl rfl ?_
    intro wx12 hx11
    refine r_nil (q_then (c_ret ?_))
    refine b_retC rfl ag53 sz53 rfl hx11 rfl (i := 1) rfl ?_
    obtain rfl := Option.some.inj hm
    exact ⟨_, _, _, _, rfl, hx11.pick [2] (by decide) rfl, as1, ns1, cs1, rfl, rfl, rfl, (hs1.mono hF1)⟩
 ·clear hm
  rcases cond_some hb1 with ⟨hb4, hb1⟩ | ⟨hb4, hb1⟩
  ·refine q_lit 11 rfl hb4 ?_
   refine q_off rfl rfl rfl (q_off rfl rfl rfl (q_off rfl rfl rfl (q_off rfl rfl rfl (q_off rfl rfl rfl (q_off rfl rfl rfl (q_off rfl rfl rfl (q_off rfl rfl rfl (q_off rfl rfl rfl (q_off rfl rfl rfl ?_)))))))))
   refine q_stp rfl rfl rfl rfl (fun _ _ _ _ => r_pick_true rfl rfl rfl rfl (r_nil (qq rfl))) ?_
   refine q_nil (fun a ha => ?_)
   cases hb1
   exact ha.cut (l := [0, 1, 4, 22]) rfl
  ·refine q_lit 11 rfl hb4 ?_
   refine q_stp rfl rfl rfl rfl (fun _ _ _ _ => r_move rfl rfl rfl (r_nil (qq rfl))) ?_
   refine q_nilC rfl rfl rfl ?_
   refine q_stp rfl rfl rfl rfl (fun _ _ _ _ => r_fieldAddr fa62_1 rfl rfl rfl (r_nil (qq rfl))) ?_
   refine q_stp rfl rfl rfl rfl (fun _ _ _ hq => r_loadB1 ag3 rfl rfl hq rfl (i := 1) rfl rfl (r_nil (qq rfl))) ?_
   refine q_stp rfl rfl rfl rfl (fun _ _ _ _ => r_move rfl rfl rfl (r_nil (qq rfl))) ?_
   refine q_nilC rfl rfl rfl ?_
   refine q_stp rfl rfl rfl rfl (fun _ _ _ _ => r_fieldAddr fa62_0 rfl rfl rfl (r_nil (qq rfl))) ?_
   refine q_stp rfl rfl rfl rfl (fun _ _ _ hq => r_loadB1 ag45 rfl rfl hq rfl (i := 1) rfl rfl (r_nil (qq rfl))) ?_
   refine q_stp rfl rfl rfl rfl (fun _ _ _ _ => r_lenS hs1.len u45 rfl rfl rfl (r_nil (qq rfl))) ?_
   refine q_stp rfl rfl rfl rfl (fun _ _ _ _ => r_bin rfl rfl rfl rfl rfl (r_nil (qq rfl))) ?_
   refine q_stp rfl rfl rfl rfl (fun _ _ _ _ => r_pick_false rfl rfl rfl rfl (r_nil (qq rfl))) ?_
   refine q_nil (fun a ha => ?_)
   cases hb1
   exact ha.cut (l := [0, 1, 4, 22]) rfl
theorem ent29 : Ent Tryz.prog 29 := fun _ _ => by kernel_rfl
theorem ent30 : Ent Tryz.prog 30 := fun _ _ => by kernel_rfl
def ref35_Reader_named (n : Nat) (rx1 : Reader) (op1 : Int) : Option (Reader × Expr) :=
 (ref35_Reader_need n rx1 [40]).bind fun v1 =>
 (ref35_Reader_one n v1 0).bind fun v2 =>
 (ref35_Reader_need n v2.1 [41]).bind fun v3 =>
 some (v3, (⟨op1, 0, v2.2.Text, []⟩ : Expr))
set_option maxHeartbeats 1000000 in
set_option maxRecDepth 1000000 in
theorem ref35_Reader_named_ok (n : Nat) (rx1 : Reader) (op1 : Int) (r : (Reader × Expr)) (hm : ref35_Reader_named n rx1 op1 = some r) {w : World} {F : Frz} (hs : Sat F w) {as1 : Option Addr} {ns1 : Nat} {cs1 : Nat} {brx1 : Nat} (hs1 : SlR rp_Token F as1 ns1 cs1 rx1.L) (hbrx1 : (OE.box brx1 62 [.slice as1 ns1 cs1, .int .i64 rx1.At, .int .i64 rx1.Bad]).ok w) (hfrx1 : F brx1 = none) :
  Calls Tryz.prog 88 #[.pointer (some ⟨brx1, 0, none⟩), .int .i64 op1] w fun e w' => ∃ v F' cs' O', e = .returned v ∧ HS F w [brx1] F' (.box brx1 62 cs' :: O') w' ∧ (∃ (al_0 : Option Addr) (nl_0 : Nat) (cl_0 : Nat) (a0_3 : Option Addr) (n0_3 : Nat) (c0_3 : Nat), v = .agg #[.int .i64 r.2.Op, .int .i64 r.2.N, vs r.2.Name, .slice a0_3 n0_3 c0_3] ∧ cs' = [.slice al_0 nl_0 cl_0, .int .i64 r.1.At, .int .i64 r.1.Bad] ∧ O' = [] ∧ SlR rp_Token F' al_0 nl_0 cl_0 r.1.L ∧ SlR rp_Expr F' a0_3 n0_3 c0_3 r.2.Args) := by
 unfold ref35_Reader_named at hm
 have h := HS.lend hs hbrx1 hfrx1
 refine calls_of 16 Tryz.func88 rfl rfl rfl ?_
 refine c_seq (c_region ?_)
 refine r_alloc ze24 rfl rfl rfl h ?_
 intro b1 wx1 hx1
 refine r_nil (q_then (c_seq (c_region (r_move rfl rfl rfl ?_))))
 obtain ⟨v1, hv1, hm⟩ := bind_some hm
 refine r_callL ent29 rfl rfl rfl rfl hx1 (i := 1) rfl (ref35_Reader_need_ok _ _ _ _ hv1 hx1.sat hs1 (hx1.get (i := 1) rfl) (hx1.lendable (i := 1) rfl)) ?_
 rintro _ Fx1 _ _ wx2 hF1 hx2 ⟨as2, ns2, cs2, rfl, rfl, rfl, hs2⟩
 refine r_nil (q_then (c_seq (c_region (r_move rfl rfl rfl ?_))))
 obtain ⟨v2, hv2, hm⟩ := bind_some hm
 refine r_callL ent30 rfl rfl rfl rfl hx2 (i := 1) rfl (ref35_Reader_one_ok _ _ _ _ hv2 hx2.sat hs2 (hx2.get (i := 1) rfl) (hx2.lendable (i := 1) rfl)) ?_
 rintro _ Fx2 _ _ wx3 hF2 hx3 ⟨as3, ns3, cs3, rfl, rfl, rfl, hs3⟩
 refine r_alloc ze53 rfl rfl rfl hx3 ?_
 intro b2 wx4 hx4
 refine r_store sz53 rfl hx4 rfl rfl rfl rfl (i := 0) rfl rfl rfl rfl ?_
 intro wx5 hx5
 refine r_nil (q_then (c_seq (c_region (r_move rfl rfl rfl ?_))))
 obtain ⟨v3, hv3, hm⟩ := bind_some hm
 refine r_callL ent29 rfl rfl rfl rfl hx5 (i := 2) rfl (ref35_Reader_need_ok _ _ _ _ hv3 hx5.sat hs3 (hx5.get (i := 2) rfl) (hx5.lendable (i := 2) rfl)) ?_
 rintro _ Fx3 _ _ wx6 hF3 hx6 ⟨as4, ns4, cs4, rfl, rfl, rfl, hs4⟩
 refine r_nil (q_then (c_seq (c_region (r_move rfl rfl rfl ?_))))
 refine r_fieldAddr fa53_1 rfl rfl rfl ?_
 refine r_loadB1 ag9 rfl rfl hx6 rfl (i := 0) rfl rfl ?_
 refine r_build (v := .agg #[.int .i64 op1, .int .i64 0, vs v2.2.Text, .slice none 0 0]) rfl rfl rfl (fun _ => by kernel_rfl) ?_
 refine r_store sz24 rfl hx6 rfl rfl rfl rfl (i := 1) rfl rfl rfl rfl ?_
 intro wx7 hx7
 refine r_nil (q_then (c_ret ?_))
 refine b_retC rfl ag24 sz24 rfl hx7 rfl (i := 1) rfl ?_
 obtain rfl := Option.some.inj hm
 exact ⟨_, _, _, _, rfl, hx7.pick [2] (by decide) rfl, as4, ns4, cs4, none, 0, 0, rfl, rfl, rfl, hs4, SlR.nil _ _⟩
theorem ent67 : Ent Tryz.prog 67 := fun _ _ => by kernel_rfl
def ref35_Reader_operator_L1 (n : Nat) (kont1 : (List Token) → Int → Int → Option (Reader × Int)) : Nat → Int → (List Token) → Int → Int → Option (Reader × Int)
 | 0, _, _, _, _ => none
 | mx1 + 1, op1, f1, f2, f3 =>
  bif decide (op1 < 17) then
   (ref35_sign n op1).bind fun v1 =>
   (bif !(v1 == []) then
    (ref35_sign n op1).bind fun v3 =>
    (ref35_Reader_take n (⟨f1, f2, f3⟩ : Reader) v3).bind fun v4 =>
    some (v4.2, v4.1.L, v4.1.At, v4.1.Bad)
   else
    some (false, f1, f2, f3)).bind fun (v2, f7, f8, f9) =>
   bif v2 then
    some ((⟨f7, f8, f9⟩ : Reader), op1)
   else
    ref35_Reader_operator_L1 n kont1 mx1 (iadd .i64 op1 1) f7 f8 f9
  else
   kont1 f1 f2 f3
theorem ref35_Reader_operator_L1_s (n : Nat) (kont1 : (List Token) → Int → Int → Option (Reader × Int)) (mx1 : Nat) (op1 : Int) (f1 : (List Token)) (f2 : Int) (f3 : Int) : ref35_Reader_operator_L1 n kont1 (mx1 + 1) op1 f1 f2 f3 =
  bif decide (op1 < 17) then
   (ref35_sign n op1).bind fun v1 =>
   (bif !(v1 == []) then
    (ref35_sign n op1).bind fun v3 =>
    (ref35_Reader_take n (⟨f1, f2, f3⟩ : Reader) v3).bind fun v4 =>
    some (v4.2, v4.1.L, v4.1.At, v4.1.Bad)
   else
    some (false, f1, f2, f3)).bind fun (v2, f7, f8, f9) =>
   bif v2 then
    some ((⟨f7, f8, f9⟩ : Reader), op1)
   else
    ref35_Reader_operator_L1 n kont1 mx1 (iadd .i64 op1 1) f7 f8 f9
  else
   kont1 f1 f2 f3 := rfl
def ref35_Reader_operator (n : Nat) (rx1 : Reader) : Option (Reader × Int) :=
 ref35_Reader_operator_L1 n (fun (f4 : (List Token)) (f5 : Int) (f6 : Int) =>
  some ((⟨f4, f5, f6⟩ : Reader), (-1))) n 0 rx1.L rx1.At rx1.Bad
set_option maxHeartbeats 1000000 in
set_option maxRecDepth 1000000 in
theorem ref35_Reader_operator_ok (n : Nat) (rx1 : Reader) (r : (Reader × Int)) (hm : ref35_Reader_operator n rx1 = some r) {w : World} {F : Frz} (hs : Sat F w) {as1 : Option Addr} {ns1 : Nat} {cs1 : Nat} {brx1 : Nat} (hs1 : SlR rp_Token F as1 ns1 cs1 rx1.L) (hbrx1 : (OE.box brx1 62 [.slice as1 ns1 cs1, .int .i64 rx1.At, .int .i64 rx1.Bad]).ok w) (hfrx1 : F brx1 = none) :
  Calls Tryz.prog 60 #[.pointer (some ⟨brx1, 0, none⟩)] w fun e w' => ∃ v F' cs' O', e = .returned v ∧ HS F w [brx1] F' (.box brx1 62 cs' :: O') w' ∧ (∃ (al_0 : Option Addr) (nl_0 : Nat) (cl_0 : Nat), v = .int .i64 r.2 ∧ cs' = [.slice al_0 nl_0 cl_0, .int .i64 r.1.At, .int .i64 r.1.Bad] ∧ O' = [] ∧ SlR rp_Token F' al_0 nl_0 cl_0 r.1.L) := by
 unfold ref35_Reader_operator at hm
 have h := HS.lend hs hbrx1 hfrx1
 refine calls_of 18 Tryz.func60 rfl rfl rfl ?_
 refine c_seq (c_region (r_assign rfl rfl rfl (r_nil (q_then (c_seq (c_seq (c_region (r_assign rfl rfl rfl (r_nil (q_then (c_block ?_)))))))))))
 intro a hax4
 obtain ⟨kont1, hkont1⟩ : ∃ kont1 : (List Token) → Int → Int → Option (Reader × Int), kont1 = (fun (f4 : (List Token)) (f5 : Int) (f6 : Int) =>
       some ((⟨f4, f5, f6⟩ : Reader), (-1))) := ⟨_, rfl⟩
 replace hm : (fun m (s : Int × (List Token) × Int × Int) => ref35_Reader_operator_L1 n kont1 m s.1 s.2.1 s.2.2.1 s.2.2.2) n (0, rx1.L, rx1.At, rx1.Bad) = some r := by rw [hkont1]; exact hm
 refine loopX (id := 0) (fun m (s : Int × (List Token) × Int × Int) => ref35_Reader_operator_L1 n kont1 m s.1 s.2.1 s.2.2.1 s.2.2.2) (fun (y : (List Token) × Int × Int) => kont1 y.1 y.2.1 y.2.2) r (fun (s : Int × (List Token) × Int × Int) a w' => ∃ (Fx1 : Frz) (as2 : Option Addr) (ns2 : Nat) (cs2 : Nat), Frz.le F Fx1 ∧ HS F w [brx1] Fx1 [.box brx1 62 [.slice as2 ns2 cs2, .int .i64 s.2.2.1, .int .i64 s.2.2.2]] w' ∧ (SlR rp_Token Fx1 as2 ns2 cs2 s.2.1) ∧ Has 18 a [(0, .pointer (some ⟨brx1, 0, none⟩)), (3, .int .i64 s.1)]) (fun (y : (List Token) × Int × Int) a w' => ∃ (Fx2 : Frz) (as3 : Option Addr) (ns3 : Nat) (cs3 : Nat), Frz.le F Fx2 ∧ HS F w [brx1] Fx2 [.box brx1 62 [.slice as3 ns3 cs3, .int .i64 y.2.1, .int .i64 y.2.2]] w' ∧ (SlR rp_Token Fx2 as3 ns3 cs3 y.1) ∧ Has 18 a []) (fun _ => rfl) ?_ ?_ hm ⟨_, as1, ns1, cs1, Frz.refl _, h.pick [0] (by decide) rfl, hs1, hax4.cut (l := [0, 3]) rfl⟩
 ·clear hm; rintro ⟨f4, f5, f6⟩ a wx1 hm ⟨Fx2, as3, ns3, cs3, hF2, hx2, hs3, hax1⟩
  rw [hkont1] at hm
  replace hm := hm
  refine qw_apply (e := .exit 0) hax1 ?_
  refine q_block_hit (q_then (c_seq (c_region (r_assign rfl rfl rfl (r_nil (q_then (c_ret ?_)))))))
  refine b_ret1 rfl rfl ?_
  obtain rfl := Option.some.inj hm
  exact ⟨_, _, _, _, rfl, hx2.pick [0] (by decide) rfl, as3, ns3, cs3, rfl, rfl, rfl, hs3⟩
 ·clear hm hkont1; intro hk1 mx1 K ihx1
  rintro ⟨op1, f1, f2, f3⟩ a wx2 hm ⟨Fx1, as2, ns2, cs2, hF1, hx1, hs2, hax2⟩
  simp only [ref35_Reader_operator_L1_s] at hm
  refine cw_apply hax2 ?_
  refine c_seq (c_seq (c_region (r_move rfl rfl rfl ?_)))
  refine r_bin rfl rfl rfl rfl rfl ?_
  refine r_nil (q_then ?_)
  rcases cond_some hm with ⟨hb1, hm⟩ | ⟨hb1, hm⟩
  ·refine c_lit 5 rfl hb1 ?_
   refine c_true rfl (c_skip (q_then (c_seq (c_block (c_seq (c_region (r_move rfl rfl rfl ?_)))))))
   obtain ⟨v1, hv1, hm⟩ := bind_some hm
   refine r_callG0 ent67 rfl rfl rfl rfl hx1 (ref35_sign_ok _ _ _ hv1 hx1.sat) ?_
   rintro _ Fx3 _ wx3 hF3 hx3 ⟨rfl, rfl⟩
   refine r_str rfl rfl rfl rfl rfl ?_
   refine r_move rfl rfl rfl ?_
   obtain ⟨⟨v2, f7, f8, f9⟩, hb2, hm⟩ := bind_some hm
   refine r_mid 5 (fun a w' => ∃ (Fx4 : Frz) (as4 : Option Addr) (ns4 : Nat) (cs4 : Nat), Frz.le Fx3 Fx4 ∧ HS F w [brx1] Fx4 [.box brx1 62 [.slice as4 ns4 cs4, .int .i64 f8, .int .i64 f9]] w' ∧ (SlR rp_Token Fx4 as4 ns4 cs4 f7) ∧ Has 18 a [(0, .pointer (some ⟨brx1, 0, none⟩)), (3, .int .i64 op1), (16, .bool v2)]) ?_ ?_
   ·rintro a wx4 ⟨Fx4, as4, ns4, cs4, hF4, hx4, hs4, hax3⟩
    refine rw_apply hax3 ?_
    refine r_nil (q_then ?_)
    rcases cond_some hm with ⟨hb3, hm⟩ | ⟨hb3, hm⟩
    ·refine c_lit 16 rfl hb3 ?_
     refine c_true rfl (c_seq (c_region (r_move rfl rfl rfl (r_assign rfl rfl rfl (r_nil (q_then (c_ret (q_block_ret (q_then_ret (q_then_ret (q_block_ret (q_then_ret ?_))))))))))))
     refine b_ret1 rfl rfl ?_
     obtain rfl := Option.some.inj hm
     exact ⟨_, _, _, _, rfl, hx4.pick [0] (by decide) rfl, as4, ns4, cs4, rfl, rfl, rfl, hs4⟩
    ·refine c_lit 16 rfl hb3 ?_
     refine c_false rfl (c_skip (q_block (q_then (c_region (r_move rfl rfl rfl ?_)))))
     refine r_bin rfl rfl rfl rfl rfl ?_
     refine r_assign rfl rfl rfl (r_nil ?_)
     refine q_next (fun a ha => ihx1 ((iadd .i64 op1 1), f7, f8, f9) a _ hm ?_)
     exact ⟨_, as4, ns4, cs4, ((hF1.trans hF3).trans hF4), hx4.pick [0] (by decide) rfl, hs4, ha.cut (l := [0, 3]) rfl⟩
   ·clear hm
    rcases cond_some hb2 with ⟨hb4, hb2⟩ | ⟨hb4, hb2⟩
    ·refine r_lit 11 rfl hb4 ?_
     refine r_move rfl rfl rfl (r_move rfl rfl rfl ?_)
     obtain ⟨v3, hv2, hb2⟩ := bind_some hb2
     refine r_callG0 ent67 rfl rfl rfl rfl hx3 (ref35_sign_ok _ _ _ hv2 hx3.sat) ?_
     rintro _ Fx5 _ wx5 hF5 hx5 ⟨rfl, rfl⟩
     obtain ⟨v4, hv3, hb2⟩ := bind_some hb2
     refine r_callL ent34 rfl rfl rfl rfl hx5 (i := 0) rfl (ref35_Reader_take_ok _ _ _ _ hv3 hx5.sat ((hs2.mono hF3).mono hF5) (hx5.get (i := 0) rfl) (hx5.lendable (i := 0) rfl)) ?_
     rintro _ Fx6 _ _ wx6 hF6 hx6 ⟨as5, ns5, cs5, rfl, rfl, rfl, hs5⟩
     refine r_pick_true rfl rfl rfl rfl (r_nil ?_)
     refine q_next (fun a ha => ?_)
     cases hb2
     exact ⟨_, as5, ns5, cs5, (hF5.trans hF6), hx6.pick [0] (by decide) rfl, hs5, ha.cut (l := [0, 3, 16]) rfl⟩
    ·refine r_lit 11 rfl hb4 ?_
     refine r_off rfl (by decide) rfl (r_off rfl (by decide) rfl (r_off rfl (by decide) rfl (r_off rfl (by decide) rfl (r_pick_false rfl rfl rfl rfl (r_nil ?_)))))
     refine q_next (fun a ha => ?_)
     cases hb2
     exact ⟨_, as2, ns2, cs2, Frz.refl _, hx3.pick [0] (by decide) rfl, (hs2.mono hF3), ha.cut (l := [0, 3, 16]) rfl⟩
  ·refine c_lit 5 rfl hb1 ?_
   refine c_false rfl (c_exit (q_then_exit (q_then_exit ?_)))
   refine fun a ha => hk1 (f1, f2, f3) a _ hm ?_
   exact ⟨_, as2, ns2, cs2, hF1, hx1.pick [0] (by decide) rfl, hs2, ha.cut (l := []) rfl⟩
theorem ent59 : Ent Tryz.prog 59 := fun _ _ => by kernel_rfl
theorem ent60 : Ent Tryz.prog 60 := fun _ _ => by kernel_rfl
theorem ent31 : Ent Tryz.prog 31 := fun _ _ => by kernel_rfl
theorem ent88 : Ent Tryz.prog 88 := fun _ _ => by kernel_rfl
theorem ent89 : Ent Tryz.prog 89 := fun _ _ => by kernel_rfl
mutual
def ref35_Reader_expr : Nat → Reader → Option (Reader × Expr)
 | 0, _ => none
 | n + 1, rx1 =>
  (ref35_Reader_take n rx1 [110, 111, 116]).bind fun v1 =>
  bif v1.2 then
   (ref35_Reader_atom n v1.1).bind fun v2 =>
   some (v2.1, (⟨14, 0, [], [v2.2]⟩ : Expr))
  else
   (ref35_Reader_take n v1.1 [105, 102]).bind fun v3 =>
   bif v3.2 then
    (ref35_Reader_atom n v3.1).bind fun v4 =>
    (ref35_Reader_need n v4.1 [116, 104, 101, 110]).bind fun v5 =>
    (ref35_Reader_atom n v5).bind fun v6 =>
    (ref35_Reader_need n v6.1 [101, 108, 115, 101]).bind fun v7 =>
    (ref35_Reader_atom n v7).bind fun v8 =>
    some (v8.1, (⟨11, 0, [], [v4.2, v6.2, v8.2]⟩ : Expr))
   else
    (ref35_Reader_atom n v3.1).bind fun v9 =>
    (ref35_Reader_operator n v9.1).bind fun v10 =>
    bif decide (v10.2 < 0) then
     some (v10.1, v9.2)
    else
     (ref35_Reader_atom n v10.1).bind fun v11 =>
     some (v11.1, (⟨v10.2, 0, [], [v9.2, v11.2]⟩ : Expr))
def ref35_Reader_atom : Nat → Reader → Option (Reader × Expr)
 | 0, _ => none
 | n + 1, rx1 =>
  bif rx1.Bad != 0 then
   some (rx1, (⟨0, 0, [], []⟩ : Expr))
  else
   (ref35_Reader_take n rx1 [40]).bind fun v1 =>
   bif v1.2 then
    (ref35_Reader_expr n v1.1).bind fun v2 =>
    (ref35_Reader_need n v2.1 [41]).bind fun v3 =>
    some (v3, v2.2)
   else
    (ref35_Reader_take n v1.1 [112, 101, 114, 115, 111, 110, 115]).bind fun v4 =>
    bif v4.2 then
     some (v4.1, (⟨2, 0, [], []⟩ : Expr))
    else
     (ref35_Reader_take n v4.1 [102, 108, 97, 116, 115]).bind fun v5 =>
     bif v5.2 then
      some (v5.1, (⟨3, 0, [], []⟩ : Expr))
     else
      (ref35_Reader_take n v5.1 [108, 105, 102, 116, 115]).bind fun v6 =>
      bif v6.2 then
       (ref35_Reader_named n v6.1 1).bind fun v7 =>
       some (v7.1, v7.2)
      else
       (ref35_Reader_take n v6.1 [119, 101, 105, 103, 104, 116]).bind fun v8 =>
       bif v8.2 then
        (ref35_Reader_named n v8.1 4).bind fun v9 =>
        some (v9.1, v9.2)
       else
        (ref35_Reader_take n v8.1 [109, 105, 110]).bind fun v10 =>
        bif v10.2 then
         (ref35_Reader_pair n v10.1 9).bind fun v11 =>
         some (v11.1, v11.2)
        else
         (ref35_Reader_take n v10.1 [109, 97, 120]).bind fun v12 =>
         bif v12.2 then
          (ref35_Reader_pair n v12.1 10).bind fun v13 =>
          some (v13.1, v13.2)
         else
          (ref35_Reader_one n v12.1 1).bind fun v14 =>
          some (v14.1, (⟨0, v14.2.N, [], []⟩ : Expr))
def ref35_Reader_pair : Nat → Reader → Int → Option (Reader × Expr)
 | 0, _, _ => none
 | n + 1, rx1, op1 =>
  (ref35_Reader_need n rx1 [40]).bind fun v1 =>
  (ref35_Reader_expr n v1).bind fun v2 =>
  (ref35_Reader_need n v2.1 [44]).bind fun v3 =>
  (ref35_Reader_expr n v3).bind fun v4 =>
  (ref35_Reader_need n v4.1 [41]).bind fun v5 =>
  some (v5, (⟨op1, 0, [], [v2.2, v4.2]⟩ : Expr))
 end
theorem ref35_Reader_expr_s (n : Nat) (rx1 : Reader) : ref35_Reader_expr (n + 1) rx1 =
  (ref35_Reader_take n rx1 [110, 111, 116]).bind fun v1 =>
  bif v1.2 then
   (ref35_Reader_atom n v1.1).bind fun v2 =>
   some (v2.1, (⟨14, 0, [], [v2.2]⟩ : Expr))
  else
   (ref35_Reader_take n v1.1 [105, 102]).bind fun v3 =>
   bif v3.2 then
    (ref35_Reader_atom n v3.1).bind fun v4 =>
    (ref35_Reader_need n v4.1 [116, 104, 101, 110]).bind fun v5 =>
    (ref35_Reader_atom n v5).bind fun v6 =>
    (ref35_Reader_need n v6.1 [101, 108, 115, 101]).bind fun v7 =>
    (ref35_Reader_atom n v7).bind fun v8 =>
    some (v8.1, (⟨11, 0, [], [v4.2, v6.2, v8.2]⟩ : Expr))
   else
    (ref35_Reader_atom n v3.1).bind fun v9 =>
    (ref35_Reader_operator n v9.1).bind fun v10 =>
    bif decide (v10.2 < 0) then
     some (v10.1, v9.2)
    else
     (ref35_Reader_atom n v10.1).bind fun v11 =>
     some (v11.1, (⟨v10.2, 0, [], [v9.2, v11.2]⟩ : Expr)) := rfl
theorem ref35_Reader_atom_s (n : Nat) (rx1 : Reader) : ref35_Reader_atom (n + 1) rx1 =
  bif rx1.Bad != 0 then
   some (rx1, (⟨0, 0, [], []⟩ : Expr))
  else
   (ref35_Reader_take n rx1 [40]).bind fun v1 =>
   bif v1.2 then
    (ref35_Reader_expr n v1.1).bind fun v2 =>
    (ref35_Reader_need n v2.1 [41]).bind fun v3 =>
    some (v3, v2.2)
   else
    (ref35_Reader_take n v1.1 [112, 101, 114, 115, 111, 110, 115]).bind fun v4 =>
    bif v4.2 then
     some (v4.1, (⟨2, 0, [], []⟩ : Expr))
    else
     (ref35_Reader_take n v4.1 [102, 108, 97, 116, 115]).bind fun v5 =>
     bif v5.2 then
      some (v5.1, (⟨3, 0, [], []⟩ : Expr))
     else
      (ref35_Reader_take n v5.1 [108, 105, 102, 116, 115]).bind fun v6 =>
      bif v6.2 then
       (ref35_Reader_named n v6.1 1).bind fun v7 =>
       some (v7.1, v7.2)
      else
       (ref35_Reader_take n v6.1 [119, 101, 105, 103, 104, 116]).bind fun v8 =>
       bif v8.2 then
        (ref35_Reader_named n v8.1 4).bind fun v9 =>
        some (v9.1, v9.2)
       else
        (ref35_Reader_take n v8.1 [109, 105, 110]).bind fun v10 =>
        bif v10.2 then
         (ref35_Reader_pair n v10.1 9).bind fun v11 =>
         some (v11.1, v11.2)
        else
         (ref35_Reader_take n v10.1 [109, 97, 120]).bind fun v12 =>
         bif v12.2 then
          (ref35_Reader_pair n v12.1 10).bind fun v13 =>
          some (v13.1, v13.2)
         else
          (ref35_Reader_one n v12.1 1).bind fun v14 =>
          some (v14.1, (⟨0, v14.2.N, [], []⟩ : Expr)) := rfl
theorem ref35_Reader_pair_s (n : Nat) (rx1 : Reader) (op1 : Int) : ref35_Reader_pair (n + 1) rx1 op1 =
  (ref35_Reader_need n rx1 [40]).bind fun v1 =>
  (ref35_Reader_expr n v1).bind fun v2 =>
  (ref35_Reader_need n v2.1 [44]).bind fun v3 =>
  (ref35_Reader_expr n v3).bind fun v4 =>
  (ref35_Reader_need n v4.1 [41]).bind fun v5 =>
  some (v5, (⟨op1, 0, [], [v2.2, v4.2]⟩ : Expr)) := rfl
set_option maxHeartbeats 1000000 in
set_option maxRecDepth 1000000 in
theorem ref35_Reader_expr_all (n : Nat) : (∀ (rx1 : Reader) (r : (Reader × Expr)) (_ : ref35_Reader_expr n rx1 = some r) {w : World} {F : Frz} (_ : Sat F w) {as1 : Option Addr} {ns1 : Nat} {cs1 : Nat} {brx1 : Nat} (_ : SlR rp_Token F as1 ns1 cs1 rx1.L) (_ : (OE.box brx1 62 [.slice as1 ns1 cs1, .int .i64 rx1.At, .int .i64 rx1.Bad]).ok w) (_ : F brx1 = none), Calls Tryz.prog 31 #[.pointer (some ⟨brx1, 0, none⟩)] w fun e w' => ∃ v F' cs' O', e = .returned v ∧ HS F w [brx1] F' (.box brx1 62 cs' :: O') w' ∧ (∃ (al_0 : Option Addr) (nl_0 : Nat) (cl_0 : Nat) (a0_3 : Option Addr) (n0_3 : Nat) (c0_3 : Nat), v = .agg #[.int .i64 r.2.Op, .int .i64 r.2.N, vs r.2.Name, .slice a0_3 n0_3 c0_3] ∧ cs' = [.slice al_0 nl_0 cl_0, .int .i64 r.1.At, .int .i64 r.1.Bad] ∧ O' = [] ∧ SlR rp_Token F' al_0 nl_0 cl_0 r.1.L ∧ SlR rp_Expr F' a0_3 n0_3 c0_3 r.2.Args)) ∧
  (∀ (rx1 : Reader) (r : (Reader × Expr)) (_ : ref35_Reader_atom n rx1 = some r) {w : World} {F : Frz} (_ : Sat F w) {as1 : Option Addr} {ns1 : Nat} {cs1 : Nat} {brx1 : Nat} (_ : SlR rp_Token F as1 ns1 cs1 rx1.L) (_ : (OE.box brx1 62 [.slice as1 ns1 cs1, .int .i64 rx1.At, .int .i64 rx1.Bad]).ok w) (_ : F brx1 = none), Calls Tryz.prog 59 #[.pointer (some ⟨brx1, 0, none⟩)] w fun e w' => ∃ v F' cs' O', e = .returned v ∧ HS F w [brx1] F' (.box brx1 62 cs' :: O') w' ∧ (∃ (al_0 : Option Addr) (nl_0 : Nat) (cl_0 : Nat) (a0_3 : Option Addr) (n0_3 : Nat) (c0_3 : Nat), v = .agg #[.int .i64 r.2.Op, .int .i64 r.2.N, vs r.2.Name, .slice a0_3 n0_3 c0_3] ∧ cs' = [.slice al_0 nl_0 cl_0, .int .i64 r.1.At, .int .i64 r.1.Bad] ∧ O' = [] ∧ SlR rp_Token F' al_0 nl_0 cl_0 r.1.L ∧ SlR rp_Expr F' a0_3 n0_3 c0_3 r.2.Args)) ∧
  (∀ (rx1 : Reader) (op1 : Int) (r : (Reader × Expr)) (_ : ref35_Reader_pair n rx1 op1 = some r) {w : World} {F : Frz} (_ : Sat F w) {as1 : Option Addr} {ns1 : Nat} {cs1 : Nat} {brx1 : Nat} (_ : SlR rp_Token F as1 ns1 cs1 rx1.L) (_ : (OE.box brx1 62 [.slice as1 ns1 cs1, .int .i64 rx1.At, .int .i64 rx1.Bad]).ok w) (_ : F brx1 = none), Calls Tryz.prog 89 #[.pointer (some ⟨brx1, 0, none⟩), .int .i64 op1] w fun e w' => ∃ v F' cs' O', e = .returned v ∧ HS F w [brx1] F' (.box brx1 62 cs' :: O') w' ∧ (∃ (al_0 : Option Addr) (nl_0 : Nat) (cl_0 : Nat) (a0_3 : Option Addr) (n0_3 : Nat) (c0_3 : Nat), v = .agg #[.int .i64 r.2.Op, .int .i64 r.2.N, vs r.2.Name, .slice a0_3 n0_3 c0_3] ∧ cs' = [.slice al_0 nl_0 cl_0, .int .i64 r.1.At, .int .i64 r.1.Bad] ∧ O' = [] ∧ SlR rp_Token F' al_0 nl_0 cl_0 r.1.L ∧ SlR rp_Expr F' a0_3 n0_3 c0_3 r.2.Args)) := by
 induction n with
 | zero =>
  refine ⟨?_, ?_, ?_⟩
  ·intro rx1 r hm
   exact absurd (show (none : Option (Reader × Expr)) = some r from hm) (by simp)
  ·intro rx1 r hm
   exact absurd (show (none : Option (Reader × Expr)) = some r from hm) (by simp)
  ·intro rx1 op1 r hm
   exact absurd (show (none : Option (Reader × Expr)) = some r from hm) (by simp)
 | succ n ih =>
  refine ⟨?_, ?_, ?_⟩
  ·intro rx1 r hm w F hs as1 ns1 cs1 brx1 hs1 hbrx1 hfrx1
   rw [ref35_Reader_expr_s] at hm
   have h := HS.lend hs hbrx1 hfrx1
   refine calls_of 42 Tryz.func31 rfl rfl rfl ?_
   refine c_seq (c_region ?_)
   refine r_alloc ze24 rfl rfl rfl h ?_
   intro b1 wx1 hx1
   refine r_nil (q_then (c_seq (c_seq (c_region (r_move rfl rfl rfl ?_)))))
   obtain ⟨v1, hv1, hm⟩ := bind_some hm
   refine r_callL ent34 rfl rfl rfl rfl hx1 (i := 1) rfl (ref35_Reader_take_ok _ _ _ _ hv1 hx1.sat hs1 (hx1.get (i := 1) rfl) (hx1.lendable (i := 1) rfl)) ?_
   rintro _ Fx1 _ _ wx2 hF1 hx2 ⟨as2, ns2, cs2, rfl, rfl, rfl, hs2⟩
   refine r_nil (q_then ?_)
   rcases cond_some hm with ⟨hb1, hm⟩ | ⟨hb1, hm⟩
   ·refine c_lit 8 rfl hb1 ?_
    refine c_true rfl (c_seq (c_region (r_move rfl rfl rfl ?_)))
    obtain ⟨v2, hv2, hm⟩ := bind_some hm
    refine r_callL ent59 rfl rfl rfl rfl hx2 (i := 1) rfl (ih.2.1 _ _ hv2 hx2.sat hs2 (hx2.get (i := 1) rfl) (hx2.lendable (i := 1) rfl)) ?_
    rintro _ Fx2 _ _ wx3 hF2 hx3 ⟨as3, ns3, cs3, as4, ns4, cs4, rfl, rfl, rfl, hs3, hs4⟩
    refine r_buildSlice (e := 24) (cs := [.int .i64 v2.2.Op, .int .i64 v2.2.N, vs v2.2.Name, .slice as4 ns4 cs4]) (q := 4) rfl rfl hx3 rfl (fun _ => by kernel_rfl) rfl rfl ?_
    intro b2 wx4 hx4
    obtain ⟨Fx3, hF3, hx5, hsx1⟩ := freezeRowL hx4 (k := 2) rfl (i := 0) rfl (by decide) ((show RowN rp_Expr Fx2 1 [.int .i64 v2.2.Op, .int .i64 v2.2.N, vs v2.2.Name, .slice as4 ns4 cs4] [v2.2] from ⟨rfl, ⟨_, _, rfl, (expr_iff.2 ⟨as4, ns4, cs4, rfl, hs4⟩), (rfl : RowR rp_Expr _ [] [])⟩⟩))
    refine r_build (v := .agg #[.int .i64 14, .int .i64 0, vs [], .slice (some ⟨b2, 0, none⟩) 1 1]) rfl rfl rfl (fun _ => by kernel_rfl) ?_
    refine r_store sz24 rfl hx5 rfl rfl rfl rfl (i := 0) rfl rfl rfl rfl ?_
    intro wx5 hx6
    refine r_nil (q_then (c_ret (q_then_ret ?_)))
    refine b_retC rfl ag24 sz24 rfl hx6 rfl (i := 0) rfl ?_
    obtain rfl := Option.some.inj hm
    exact ⟨_, _, _, _, rfl, hx6.pick [1] (by decide) rfl, as3, ns3, cs3, (some ⟨b2, 0, none⟩), 1, 1, rfl, rfl, rfl, (hs3.mono hF3), hsx1⟩
   ·refine c_lit 8 rfl hb1 ?_
    refine c_false rfl (c_skip (q_then (c_seq (c_seq (c_region (r_move rfl rfl rfl ?_))))))
    obtain ⟨v3, hv3, hm⟩ := bind_some hm
    refine r_callL ent34 rfl rfl rfl rfl hx2 (i := 1) rfl (ref35_Reader_take_ok _ _ _ _ hv3 hx2.sat hs2 (hx2.get (i := 1) rfl) (hx2.lendable (i := 1) rfl)) ?_
    rintro _ Fx4 _ _ wx6 hF4 hx7 ⟨as5, ns5, cs5, rfl, rfl, rfl, hs5⟩
    refine r_nil (q_then ?_)
    rcases cond_some hm with ⟨hb2, hm⟩ | ⟨hb2, hm⟩
    ·refine c_lit 14 rfl hb2 ?_
     refine c_true rfl (c_seq (c_region (r_move rfl rfl rfl ?_)))
     obtain ⟨v4, hv4, hm⟩ := bind_some hm
     refine r_callL ent59 rfl rfl rfl rfl hx7 (i := 1) rfl (ih.2.1 _ _ hv4 hx7.sat hs5 (hx7.get (i := 1) rfl) (hx7.lendable (i := 1) rfl)) ?_
     rintro _ Fx5 _ _ wx7 hF5 hx8 ⟨as6, ns6, cs6, as7, ns7, cs7, rfl, rfl, rfl, hs6, hs7⟩
     refine r_alloc ze24 rfl rfl rfl hx8 ?_
     intro b3 wx8 hx9
     refine r_store sz24 rfl hx9 rfl rfl rfl rfl (i := 0) rfl rfl rfl rfl ?_
     intro wx9 hx10
     refine r_nil (q_then (c_seq (c_region (r_move rfl rfl rfl ?_))))
     obtain ⟨v5, hv5, hm⟩ := bind_some hm
     refine r_callL ent29 rfl rfl rfl rfl hx10 (i := 2) rfl (ref35_Reader_need_ok _ _ _ _ hv5 hx10.sat hs6 (hx10.get (i := 2) rfl) (hx10.lendable (i := 2) rfl)) ?_
     rintro _ Fx6 _ _ wx10 hF6 hx11 ⟨as8, ns8, cs8, rfl, rfl, rfl, hs8⟩
     refine r_nil (q_then (c_seq (c_region (r_move rfl rfl rfl ?_))))
     obtain ⟨v6, hv6, hm⟩ := bind_some hm
     refine r_callL ent59 rfl rfl rfl rfl hx11 (i := 2) rfl (ih.2.1 _ _ hv6 hx11.sat hs8 (hx11.get (i := 2) rfl) (hx11.lendable (i := 2) rfl)) ?_
     rintro _ Fx7 _ _ wx11 hF7 hx12 ⟨as9, ns9, cs9, as10, ns10, cs10, rfl, rfl, rfl, hs9, hs10⟩
     refine r_alloc ze24 rfl rfl rfl hx12 ?_
     intro b4 wx12 hx13
     refine r_store sz24 rfl hx13 rfl rfl rfl rfl (i := 0) rfl rfl rfl rfl ?_
     intro wx13 hx14
     refine r_nil (q_then (c_seq (c_region (r_move rfl rfl rfl ?_))))
     obtain ⟨v7, hv7, hm⟩ := bind_some hm
     refine r_callL ent29 rfl rfl rfl rfl hx14 (i := 3) rfl (ref35_Reader_need_ok _ _ _ _ hv7 hx14.sat hs9 (hx14.get (i := 3) rfl) (hx14.lendable (i := 3) rfl)) ?_
     rintro _ Fx8 _ _ wx14 hF8 hx15 ⟨as11, ns11, cs11, rfl, rfl, rfl, hs11⟩
     refine r_nil (q_then (c_seq ?_))
     refine c_regionH (SH Fx8 [.box b4 24 [.int .i64 v6.2.Op, .int .i64 v6.2.N, vs v6.2.Name, .slice as10 ns10 cs10], .box b3 24 [.int .i64 v4.2.Op, .int .i64 v4.2.N, vs v4.2.Name, .slice as7 ns7 cs7]]) 7 rfl (by kernel_rfl) hx15 ?_
     intro wx15 hx16
     refine d_tk 0 rfl (by kernel_rfl) rfl rfl rfl rfl (hx16.sh (Frz.refl _) [0, 1] (by decide) rfl) (fun _ _ _ _ hq => r_loadBW ag24 sz24 rfl rfl hq rfl (i := 1) rfl rfl (r_nil (qq rfl))) ?_
     refine d_tk 1 rfl (by kernel_rfl) rfl rfl rfl rfl (hx16.sh (Frz.refl _) [0, 1] (by decide) rfl) (fun _ _ _ _ hq => r_loadBW ag24 sz24 rfl rfl hq rfl (i := 0) rfl rfl (r_nil (qq rfl))) ?_
     refine d_tk 2 rfl (by kernel_rfl) rfl rfl rfl rfl (hx16.sh (Frz.refl _) [0, 1] (by decide) rfl) (fun _ _ _ _ _ => r_move rfl rfl rfl (r_nil (qq rfl))) ?_
     refine d_step 3 rfl (by kernel_rfl) ?_
     obtain ⟨v8, hv8, hm⟩ := bind_some hm
     refine r_callL ent59 rfl rfl rfl rfl hx16 (i := 3) rfl (ih.2.1 _ _ hv8 hx16.sat hs11 (hx16.get (i := 3) rfl) (hx16.lendable (i := 3) rfl)) ?_
     rintro _ Fx9 _ _ wx16 hF9 hx17 ⟨as12, ns12, cs12, as13, ns13, cs13, rfl, rfl, rfl, hs12, hs13⟩
     refine d_next (hx17.sh hF9 [0, 1] (by decide) rfl) ?_
     refine d_step 4 rfl (by kernel_rfl) ?_
     refine r_buildSlice (e := 24) (cs := [.int .i64 v4.2.Op, .int .i64 v4.2.N, vs v4.2.Name, .slice as7 ns7 cs7, .int .i64 v6.2.Op, .int .i64 v6.2.N, vs v6.2.Name, .slice as10 ns10 cs10, .int .i64 v8.2.Op, .int .i64 v8.2.N, vs v8.2.Name, .slice as13 ns13 cs13]) (q := 4) rfl rfl hx17 rfl (fun _ => by kernel_rfl) rfl rfl ?_
     intro b5 wx17 hx18
     refine d_next (hx18.sh hF9 [1, 2] (by decide) rfl) ?_
     obtain ⟨Fx10, hF10, hx19, hsx2⟩ := freezeRowL hx18 (k := 4) rfl (i := 0) rfl (by decide) ((show RowN rp_Expr Fx9 3 [.int .i64 v4.2.Op, .int .i64 v4.2.N, vs v4.2.Name, .slice as7 ns7 cs7, .int .i64 v6.2.Op, .int .i64 v6.2.N, vs v6.2.Name, .slice as10 ns10 cs10, .int .i64 v8.2.Op, .int .i64 v8.2.N, vs v8.2.Name, .slice as13 ns13 cs13] [v4.2, v6.2, v8.2] from ⟨rfl, ⟨_, _, rfl, (expr_iff.2 ⟨as7, ns7, cs7, rfl, ((((hs7.mono hF6).mono hF7).mono hF8).mono hF9)⟩), ⟨_, _, rfl, (expr_iff.2 ⟨as10, ns10, cs10, rfl, ((hs10.mono hF8).mono hF9)⟩), ⟨_, _, rfl, (expr_iff.2 ⟨as13, ns13, cs13, rfl, hs13⟩), (rfl : RowR rp_Expr _ [] [])⟩⟩⟩⟩))
     refine d_tk 5 rfl (by kernel_rfl) rfl rfl rfl rfl (hx19.sh (hF9.trans hF10) [0, 1] (by decide) rfl) (fun _ _ _ _ _ => r_build (v := .agg #[.int .i64 11, .int .i64 0, vs [], .slice (some ⟨b5, 0, none⟩) 3 3]) rfl rfl rfl (fun _ => by kernel_rfl) (r_nil (qq rfl))) ?_
     refine d_step 6 rfl (by kernel_rfl) ?_
     refine r_store sz24 rfl hx19 rfl rfl rfl rfl (i := 2) rfl rfl rfl rfl ?_
     intro wx18 hx20
     refine d_next (hx20.sh (hF9.trans hF10) [0, 1] (by decide) rfl) ?_
     refine d_done (by kernel_rfl) ?_
     refine q_then (c_ret (q_then_ret ?_))
     refine b_retC rfl ag24 sz24 rfl hx20 rfl (i := 2) rfl ?_
     obtain rfl := Option.some.inj hm
     exact ⟨_, _, _, _, rfl, hx20.pick [3] (by decide) rfl, as12, ns12, cs12, (some ⟨b5, 0, none⟩), 3, 3, rfl, rfl, rfl, (hs12.mono hF10), hsx2⟩
    ·refine c_lit 14 rfl hb2 ?_
     refine c_false rfl (c_skip (q_then (c_seq (c_region (r_move rfl rfl rfl ?_)))))
     obtain ⟨v9, hv9, hm⟩ := bind_some hm
     refine r_callL ent59 rfl rfl rfl rfl hx7 (i := 1) rfl (ih.2.1 _ _ hv9 hx7.sat hs5 (hx7.get (i := 1) rfl) (hx7.lendable (i := 1) rfl)) ?_
     rintro _ Fx11 _ _ wx19 hF11 hx21 ⟨as14, ns14, cs14, as15, ns15, cs15, rfl, rfl, rfl, hs14, hs15⟩
     refine r_alloc ze24 rfl rfl rfl hx21 ?_
     intro b6 wx20 hx22
     refine r_store sz24 rfl hx22 rfl rfl rfl rfl (i := 0) rfl rfl rfl rfl ?_
     intro wx21 hx23
     refine r_nil (q_then (c_seq (c_region (r_move rfl rfl rfl ?_))))
     obtain ⟨v10, hv10, hm⟩ := bind_some hm
     refine r_callL ent60 rfl rfl rfl rfl hx23 (i := 2) rfl (ref35_Reader_operator_ok _ _ _ hv10 hx23.sat hs14 (hx23.get (i := 2) rfl) (hx23.lendable (i := 2) rfl)) ?_
     rintro _ Fx12 _ _ wx22 hF12 hx24 ⟨as16, ns16, cs16, rfl, rfl, rfl, hs16⟩
     refine r_assign rfl rfl rfl (r_nil (q_then (c_seq (c_seq (c_region (r_move rfl rfl rfl ?_))))))
     refine r_bin rfl rfl rfl rfl rfl ?_
     refine r_nil (q_then ?_)
     rcases cond_some hm with ⟨hb3, hm⟩ | ⟨hb3, hm⟩
     ·refine c_lit 34 rfl hb3 ?_
      refine c_true rfl (c_seq (c_region ?_))
      refine r_loadBW ag24 sz24 rfl rfl hx24 rfl (i := 0) rfl rfl ?_
      refine r_store sz24 rfl hx24 rfl rfl rfl rfl (i := 1) rfl rfl rfl rfl ?_
      intro wx23 hx25
      refine r_nil (q_then (c_ret (q_then_ret ?_)))
      refine b_retC rfl ag24 sz24 rfl hx25 rfl (i := 1) rfl ?_
      obtain rfl := Option.some.inj hm
      exact ⟨_, _, _, _, rfl, hx25.pick [2] (by decide) rfl, as16, ns16, cs16, as15, ns15, cs15, rfl, rfl, rfl, hs16, (hs15.mono hF12)⟩
     ·refine c_lit 34 rfl hb3 ?_
      refine c_false rfl (c_skip (q_then (c_seq ?_)))
      refine c_regionH (SH Fx12 [.box b6 24 [.int .i64 v9.2.Op, .int .i64 v9.2.N, vs v9.2.Name, .slice as15 ns15 cs15]]) 7 rfl (by kernel_rfl) hx24 ?_
      intro wx24 hx26
      refine d_tk 0 rfl (by kernel_rfl) rfl rfl rfl rfl (hx26.sh (Frz.refl _) [0] (by decide) rfl) (fun _ _ _ _ _ => r_move rfl rfl rfl (r_nil (qq rfl))) ?_
      refine d_tk 1 rfl (by kernel_rfl) rfl rfl rfl rfl (hx26.sh (Frz.refl _) [0] (by decide) rfl) (fun _ _ _ _ hq => r_loadBW ag24 sz24 rfl rfl hq rfl (i := 0) rfl rfl (r_nil (qq rfl))) ?_
      refine d_tk 2 rfl (by kernel_rfl) rfl rfl rfl rfl (hx26.sh (Frz.refl _) [0] (by decide) rfl) (fun _ _ _ _ _ => r_move rfl rfl rfl (r_nil (qq rfl))) ?_
      refine d_step 3 rfl (by kernel_rfl) ?_
      obtain ⟨v11, hv11, hm⟩ := bind_some hm
      refine r_callL ent59 rfl rfl rfl rfl hx26 (i := 2) rfl (ih.2.1 _ _ hv11 hx26.sat hs16 (hx26.get (i := 2) rfl) (hx26.lendable (i := 2) rfl)) ?_
      rintro _ Fx13 _ _ wx25 hF13 hx27 ⟨as17, ns17, cs17, as18, ns18, cs18, rfl, rfl, rfl, hs17, hs18⟩
      refine d_next (hx27.sh hF13 [0] (by decide) rfl) ?_
      refine d_step 4 rfl (by kernel_rfl) ?_
      refine r_buildSlice (e := 24) (cs := [.int .i64 v9.2.Op, .int .i64 v9.2.N, vs v9.2.Name, .slice as15 ns15 cs15, .int .i64 v11.2.Op, .int .i64 v11.2.N, vs v11.2.Name, .slice as18 ns18 cs18]) (q := 4) rfl rfl hx27 rfl (fun _ => by kernel_rfl) rfl rfl ?_
      intro b7 wx26 hx28
      refine d_next (hx28.sh hF13 [1] (by decide) rfl) ?_
      obtain ⟨Fx14, hF14, hx29, hsx3⟩ := freezeRowL hx28 (k := 3) rfl (i := 0) rfl (by decide) ((show RowN rp_Expr Fx13 2 [.int .i64 v9.2.Op, .int .i64 v9.2.N, vs v9.2.Name, .slice as15 ns15 cs15, .int .i64 v11.2.Op, .int .i64 v11.2.N, vs v11.2.Name, .slice as18 ns18 cs18] [v9.2, v11.2] from ⟨rfl, ⟨_, _, rfl, (expr_iff.2 ⟨as15, ns15, cs15, rfl, ((hs15.mono hF12).mono hF13)⟩), ⟨_, _, rfl, (expr_iff.2 ⟨as18, ns18, cs18, rfl, hs18⟩), (rfl : RowR rp_Expr _ [] [])⟩⟩⟩))
      refine d_tk 5 rfl (by kernel_rfl) rfl rfl rfl rfl (hx29.sh (hF13.trans hF14) [0] (by decide) rfl) (fun _ _ _ _ _ => r_build (v := .agg #[.int .i64 v10.2, .int .i64 0, vs [], .slice (some ⟨b7, 0, none⟩) 2 2]) rfl rfl rfl (fun _ => by kernel_rfl) (r_nil (qq rfl))) ?_
      refine d_step 6 rfl (by kernel_rfl) ?_
      refine r_store sz24 rfl hx29 rfl rfl rfl rfl (i := 1) rfl rfl rfl rfl ?_
      intro wx27 hx30
      refine d_next (hx30.sh (hF13.trans hF14) [0] (by decide) rfl) ?_
      refine d_done (by kernel_rfl) ?_
      refine q_then (c_ret ?_)
      refine b_retC rfl ag24 sz24 rfl hx30 rfl (i := 1) rfl ?_
      obtain rfl := Option.some.inj hm
      exact ⟨_, _, _, _, rfl, hx30.pick [2] (by decide) rfl, as17, ns17, cs17, (some ⟨b7, 0, none⟩), 2, 2, rfl, rfl, rfl, (hs17.mono hF14), hsx3⟩
  ·intro rx1 r hm w F hs as1 ns1 cs1 brx1 hs1 hbrx1 hfrx1
   rw [ref35_Reader_atom_s] at hm
   have h := HS.lend hs hbrx1 hfrx1
   refine calls_of 43 Tryz.func59 rfl rfl rfl ?_
   refine c_seq (c_region ?_)
   refine r_alloc ze24 rfl rfl rfl h ?_
   intro b1 wx1 hx1
   refine r_nil (q_then (c_seq (c_seq (c_region (r_move rfl rfl rfl ?_)))))
   refine r_nilC rfl rfl rfl ?_
   refine r_fieldAddr fa62_2 rfl rfl rfl ?_
   refine r_loadB1 ag31 rfl rfl hx1 rfl (i := 1) rfl rfl ?_
   refine r_bin rfl rfl rfl rfl rfl ?_
   refine r_nil (q_then ?_)
   rcases cond_some hm with ⟨hb1, hm⟩ | ⟨hb1, hm⟩
   ·refine c_lit 8 rfl hb1 ?_
    refine c_true rfl (c_seq (c_region ?_))
    refine r_build (v := .agg #[.int .i64 0, .int .i64 0, vs [], .slice none 0 0]) rfl rfl rfl (fun _ => by kernel_rfl) ?_
    refine r_store sz24 rfl hx1 rfl rfl rfl rfl (i := 0) rfl rfl rfl rfl ?_
    intro wx2 hx2
    refine r_nil (q_then (c_ret (q_then_ret ?_)))
    refine b_retC rfl ag24 sz24 rfl hx2 rfl (i := 0) rfl ?_
    obtain rfl := Option.some.inj hm
    exact ⟨_, _, _, _, rfl, hx2.pick [1] (by decide) rfl, as1, ns1, cs1, none, 0, 0, rfl, rfl, rfl, hs1, SlR.nil _ _⟩
   ·refine c_lit 8 rfl hb1 ?_
    refine c_false rfl (c_skip (q_then (c_seq (c_seq (c_region (r_move rfl rfl rfl ?_))))))
    obtain ⟨v1, hv1, hm⟩ := bind_some hm
    refine r_callL ent34 rfl rfl rfl rfl hx1 (i := 1) rfl (ref35_Reader_take_ok _ _ _ _ hv1 hx1.sat hs1 (hx1.get (i := 1) rfl) (hx1.lendable (i := 1) rfl)) ?_
    rintro _ Fx1 _ _ wx3 hF1 hx3 ⟨as2, ns2, cs2, rfl, rfl, rfl, hs2⟩
    refine r_nil (q_then ?_)
    rcases cond_some hm with ⟨hb2, hm⟩ | ⟨hb2, hm⟩
    ·refine c_lit 11 rfl hb2 ?_
     refine c_true rfl (c_seq (c_region (r_move rfl rfl rfl ?_)))
     obtain ⟨v2, hv2, hm⟩ := bind_some hm
     refine r_callL ent31 rfl rfl rfl rfl hx3 (i := 1) rfl (ih.1 _ _ hv2 hx3.sat hs2 (hx3.get (i := 1) rfl) (hx3.lendable (i := 1) rfl)) ?_
     rintro _ Fx2 _ _ wx4 hF2 hx4 ⟨as3, ns3, cs3, as4, ns4, cs4, rfl, rfl, rfl, hs3, hs4⟩
     refine r_alloc ze24 rfl rfl rfl hx4 ?_
     intro b2 wx5 hx5
     refine r_store sz24 rfl hx5 rfl rfl rfl rfl (i := 0) rfl rfl rfl rfl ?_
     intro wx6 hx6
     refine r_nil (q_then (c_seq (c_region (r_move rfl rfl rfl ?_))))
     obtain ⟨v3, hv3, hm⟩ := bind_some hm
     refine r_callL ent29 rfl rfl rfl rfl hx6 (i := 2) rfl (ref35_Reader_need_ok _ _ _ _ hv3 hx6.sat hs3 (hx6.get (i := 2) rfl) (hx6.lendable (i := 2) rfl)) ?_
     rintro _ Fx3 _ _ wx7 hF3 hx7 ⟨as5, ns5, cs5, rfl, rfl, rfl, hs5⟩
     refine r_nil (q_then (c_seq (c_region ?_)))
     refine r_loadBW ag24 sz24 rfl rfl hx7 rfl (i := 0) rfl rfl ?_
     refine r_store sz24 rfl hx7 rfl rfl rfl rfl (i := 1) rfl rfl rfl rfl ?_
     intro wx8 hx8
     refine r_nil (q_then (c_ret (q_then_ret ?_)))
     refine b_retC rfl ag24 sz24 rfl hx8 rfl (i := 1) rfl ?_
     obtain rfl := Option.some.inj hm
     exact ⟨_, _, _, _, rfl, hx8.pick [2] (by decide) rfl, as5, ns5, cs5, as4, ns4, cs4, rfl, rfl, rfl, hs5, (hs4.mono hF3)⟩
    ·refine c_lit 11 rfl hb2 ?_
     refine c_false rfl (c_skip (q_then (c_seq (c_seq (c_region (r_move rfl rfl rfl ?_))))))
     obtain ⟨v4, hv4, hm⟩ := bind_some hm
     refine r_callL ent34 rfl rfl rfl rfl hx3 (i := 1) rfl (ref35_Reader_take_ok _ _ _ _ hv4 hx3.sat hs2 (hx3.get (i := 1) rfl) (hx3.lendable (i := 1) rfl)) ?_
     rintro _ Fx4 _ _ wx9 hF4 hx9 ⟨as6, ns6, cs6, rfl, rfl, rfl, hs6⟩
     refine r_nil (q_then ?_)
     rcases cond_some hm with ⟨hb3, hm⟩ | ⟨hb3, hm⟩
     ·refine c_lit 18 rfl hb3 ?_
      refine c_true rfl (c_seq (c_region ?_))
      refine r_build (v := .agg #[.int .i64 2, .int .i64 0, vs [], .slice none 0 0]) rfl rfl rfl (fun _ => by kernel_rfl) ?_
      refine r_store sz24 rfl hx9 rfl rfl rfl rfl (i := 0) rfl rfl rfl rfl ?_
      intro wx10 hx10
      refine r_nil (q_then (c_ret (q_then_ret ?_)))
      refine b_retC rfl ag24 sz24 rfl hx10 rfl (i := 0) rfl ?_
      obtain rfl := Option.some.inj hm
      exact ⟨_, _, _, _, rfl, hx10.pick [1] (by decide) rfl, as6, ns6, cs6, none, 0, 0, rfl, rfl, rfl, hs6, SlR.nil _ _⟩
     ·refine c_lit 18 rfl hb3 ?_
      refine c_false rfl (c_skip (q_then (c_seq (c_seq (c_region (r_move rfl rfl rfl ?_))))))
      obtain ⟨v5, hv5, hm⟩ := bind_some hm
      refine r_callL ent34 rfl rfl rfl rfl hx9 (i := 1) rfl (ref35_Reader_take_ok _ _ _ _ hv5 hx9.sat hs6 (hx9.get (i := 1) rfl) (hx9.lendable (i := 1) rfl)) ?_
      rintro _ Fx5 _ _ wx11 hF5 hx11 ⟨as7, ns7, cs7, rfl, rfl, rfl, hs7⟩
      refine r_nil (q_then ?_)
      rcases cond_some hm with ⟨hb4, hm⟩ | ⟨hb4, hm⟩
      ·refine c_lit 21 rfl hb4 ?_
       refine c_true rfl (c_seq (c_region ?_))
       refine r_build (v := .agg #[.int .i64 3, .int .i64 0, vs [], .slice none 0 0]) rfl rfl rfl (fun _ => by kernel_rfl) ?_
       refine r_store sz24 rfl hx11 rfl rfl rfl rfl (i := 0) rfl rfl rfl rfl ?_
       intro wx12 hx12
       refine r_nil (q_then (c_ret (q_then_ret ?_)))
       refine b_retC rfl ag24 sz24 rfl hx12 rfl (i := 0) rfl ?_
       obtain rfl := Option.some.inj hm
       exact ⟨_, _, _, _, rfl, hx12.pick [1] (by decide) rfl, as7, ns7, cs7, none, 0, 0, rfl, rfl, rfl, hs7, SlR.nil _ _⟩
      ·refine c_lit 21 rfl hb4 ?_
       refine c_false rfl (c_skip (q_then (c_seq (c_seq (c_region (r_move rfl rfl rfl ?_))))))
       obtain ⟨v6, hv6, hm⟩ := bind_some hm
       refine r_callL ent34 rfl rfl rfl rfl hx11 (i := 1) rfl (ref35_Reader_take_ok _ _ _ _ hv6 hx11.sat hs7 (hx11.get (i := 1) rfl) (hx11.lendable (i := 1) rfl)) ?_
       rintro _ Fx6 _ _ wx13 hF6 hx13 ⟨as8, ns8, cs8, rfl, rfl, rfl, hs8⟩
       refine r_nil (q_then ?_)
       rcases cond_some hm with ⟨hb5, hm⟩ | ⟨hb5, hm⟩
       ·refine c_lit 24 rfl hb5 ?_
        refine c_true rfl (c_seq (c_region (r_move rfl rfl rfl ?_)))
        obtain ⟨v7, hv7, hm⟩ := bind_some hm
        refine r_callL ent88 rfl rfl rfl rfl hx13 (i := 1) rfl (ref35_Reader_named_ok _ _ _ _ hv7 hx13.sat hs8 (hx13.get (i := 1) rfl) (hx13.lendable (i := 1) rfl)) ?_
        rintro _ Fx7 _ _ wx14 hF7 hx14 ⟨as9, ns9, cs9, as10, ns10, cs10, rfl, rfl, rfl, hs9, hs10⟩
        refine r_store sz24 rfl hx14 rfl rfl rfl rfl (i := 0) rfl rfl rfl rfl ?_
        intro wx15 hx15
        refine r_nil (q_then (c_ret (q_then_ret ?_)))
        refine b_retC rfl ag24 sz24 rfl hx15 rfl (i := 0) rfl ?_
        obtain rfl := Option.some.inj hm
        exact ⟨_, _, _, _, rfl, hx15.pick [1] (by decide) rfl, as9, ns9, cs9, as10, ns10, cs10, rfl, rfl, rfl, hs9, hs10⟩
       ·refine c_lit 24 rfl hb5 ?_
        refine c_false rfl (c_skip (q_then (c_seq (c_seq (c_region (r_move rfl rfl rfl ?_))))))
        obtain ⟨v8, hv8, hm⟩ := bind_some hm
        refine r_callL ent34 rfl rfl rfl rfl hx13 (i := 1) rfl (ref35_Reader_take_ok _ _ _ _ hv8 hx13.sat hs8 (hx13.get (i := 1) rfl) (hx13.lendable (i := 1) rfl)) ?_
        rintro _ Fx8 _ _ wx16 hF8 hx16 ⟨as11, ns11, cs11, rfl, rfl, rfl, hs11⟩
        refine r_nil (q_then ?_)
        rcases cond_some hm with ⟨hb6, hm⟩ | ⟨hb6, hm⟩
        ·refine c_lit 28 rfl hb6 ?_
         refine c_true rfl (c_seq (c_region (r_move rfl rfl rfl ?_)))
         obtain ⟨v9, hv9, hm⟩ := bind_some hm
         refine r_callL ent88 rfl rfl rfl rfl hx16 (i := 1) rfl (ref35_Reader_named_ok _ _ _ _ hv9 hx16.sat hs11 (hx16.get (i := 1) rfl) (hx16.lendable (i := 1) rfl)) ?_
         rintro _ Fx9 _ _ wx17 hF9 hx17 ⟨as12, ns12, cs12, as13, ns13, cs13, rfl, rfl, rfl, hs12, hs13⟩
         refine r_store sz24 rfl hx17 rfl rfl rfl rfl (i := 0) rfl rfl rfl rfl ?_
         intro wx18 hx18
         refine r_nil (q_then (c_ret (q_then_ret ?_)))
         refine b_retC rfl ag24 sz24 rfl hx18 rfl (i := 0) rfl ?_
         obtain rfl := Option.some.inj hm
         exact ⟨_, _, _, _, rfl, hx18.pick [1] (by decide) rfl, as12, ns12, cs12, as13, ns13, cs13, rfl, rfl, rfl, hs12, hs13⟩
        ·refine c_lit 28 rfl hb6 ?_
         refine c_false rfl (c_skip (q_then (c_seq (c_seq (c_region (r_move rfl rfl rfl ?_))))))
         obtain ⟨v10, hv10, hm⟩ := bind_some hm
         refine r_callL ent34 rfl rfl rfl rfl hx16 (i := 1) rfl (ref35_Reader_take_ok _ _ _ _ hv10 hx16.sat hs11 (hx16.get (i := 1) rfl) (hx16.lendable (i := 1) rfl)) ?_
         rintro _ Fx10 _ _ wx19 hF10 hx19 ⟨as14, ns14, cs14, rfl, rfl, rfl, hs14⟩
         refine r_nil (q_then ?_)
         rcases cond_some hm with ⟨hb7, hm⟩ | ⟨hb7, hm⟩
         ·refine c_lit 32 rfl hb7 ?_
          refine c_true rfl (c_seq (c_region (r_move rfl rfl rfl ?_)))
          obtain ⟨v11, hv11, hm⟩ := bind_some hm
          refine r_callL ent89 rfl rfl rfl rfl hx19 (i := 1) rfl (ih.2.2 _ _ _ hv11 hx19.sat hs14 (hx19.get (i := 1) rfl) (hx19.lendable (i := 1) rfl)) ?_
          rintro _ Fx11 _ _ wx20 hF11 hx20 ⟨as15, ns15, cs15, as16, ns16, cs16, rfl, rfl, rfl, hs15, hs16⟩
          refine r_store sz24 rfl hx20 rfl rfl rfl rfl (i := 0) rfl rfl rfl rfl ?_
          intro wx21 hx21
          refine r_nil (q_then (c_ret (q_then_ret ?_)))
          refine b_retC rfl ag24 sz24 rfl hx21 rfl (i := 0) rfl ?_
          obtain rfl := Option.some.inj hm
          exact ⟨_, _, _, _, rfl, hx21.pick [1] (by decide) rfl, as15, ns15, cs15, as16, ns16, cs16, rfl, rfl, rfl, hs15, hs16⟩
         ·refine c_lit 32 rfl hb7 ?_
          refine c_false rfl (c_skip (q_then (c_seq (c_seq (c_region (r_move rfl rfl rfl ?_))))))
          obtain ⟨v12, hv12, hm⟩ := bind_some hm
          refine r_callL ent34 rfl rfl rfl rfl hx19 (i := 1) rfl (ref35_Reader_take_ok _ _ _ _ hv12 hx19.sat hs14 (hx19.get (i := 1) rfl) (hx19.lendable (i := 1) rfl)) ?_
          rintro _ Fx12 _ _ wx22 hF12 hx22 ⟨as17, ns17, cs17, rfl, rfl, rfl, hs17⟩
          refine r_nil (q_then ?_)
          rcases cond_some hm with ⟨hb8, hm⟩ | ⟨hb8, hm⟩
          ·refine c_lit 36 rfl hb8 ?_
           refine c_true rfl (c_seq (c_region (r_move rfl rfl rfl ?_)))
           obtain ⟨v13, hv13, hm⟩ := bind_some hm
           refine r_callL ent89 rfl rfl rfl rfl hx22 (i := 1) rfl (ih.2.2 _ _ _ hv13 hx22.sat hs17 (hx22.get (i := 1) rfl) (hx22.lendable (i := 1) rfl)) ?_
           rintro _ Fx13 _ _ wx23 hF13 hx23 ⟨as18, ns18, cs18, as19, ns19, cs19, rfl, rfl, rfl, hs18, hs19⟩
           refine r_store sz24 rfl hx23 rfl rfl rfl rfl (i := 0) rfl rfl rfl rfl ?_
           intro wx24 hx24
           refine r_nil (q_then (c_ret (q_then_ret ?_)))
           refine b_retC rfl ag24 sz24 rfl hx24 rfl (i := 0) rfl ?_
           obtain rfl := Option.some.inj hm
           exact ⟨_, _, _, _, rfl, hx24.pick [1] (by decide) rfl, as18, ns18, cs18, as19, ns19, cs19, rfl, rfl, rfl, hs18, hs19⟩
          ·refine c_lit 36 rfl hb8 ?_
           refine c_false rfl (c_skip (q_then (c_seq (c_region (r_move rfl rfl rfl ?_)))))
           obtain ⟨v14, hv14, hm⟩ := bind_some hm
           refine r_callL ent30 rfl rfl rfl rfl hx22 (i := 1) rfl (ref35_Reader_one_ok _ _ _ _ hv14 hx22.sat hs17 (hx22.get (i := 1) rfl) (hx22.lendable (i := 1) rfl)) ?_
           rintro _ Fx14 _ _ wx25 hF14 hx25 ⟨as20, ns20, cs20, rfl, rfl, rfl, hs20⟩
           refine r_field (v := .agg #[.int .i64 v14.2.Kind, vs v14.2.Text, .int .i64 v14.2.N, .int .i64 v14.2.Pos]) (u := .int .i64 v14.2.N) (fun _ => by kernel_rfl) rfl rfl rfl ?_
           refine r_build (v := .agg #[.int .i64 0, .int .i64 v14.2.N, vs [], .slice none 0 0]) rfl rfl rfl (fun _ => by kernel_rfl) ?_
           refine r_store sz24 rfl hx25 rfl rfl rfl rfl (i := 0) rfl rfl rfl rfl ?_
           intro wx26 hx26
           refine r_nil (q_then (c_ret ?_))
           refine b_retC rfl ag24 sz24 rfl hx26 rfl (i := 0) rfl ?_
           obtain rfl := Option.some.inj hm
           exact ⟨_, _, _, _, rfl, hx26.pick [1] (by decide) rfl, as20, ns20, cs20, none, 0, 0, rfl, rfl, rfl, hs20, SlR.nil _ _⟩
  ·intro rx1 op1 r hm w F hs as1 ns1 cs1 brx1 hs1 hbrx1 hfrx1
   rw [ref35_Reader_pair_s] at hm
   have h := HS.lend hs hbrx1 hfrx1
   refine calls_of 22 Tryz.func89 rfl rfl rfl ?_
   refine c_seq (c_region ?_)
   refine r_alloc ze24 rfl rfl rfl h ?_
   intro b1 wx1 hx1
   refine r_nil (q_then (c_seq (c_region (r_move rfl rfl rfl ?_))))
   obtain ⟨v1, hv1, hm⟩ := bind_some hm
   refine r_callL ent29 rfl rfl rfl rfl hx1 (i := 1) rfl (ref35_Reader_need_ok _ _ _ _ hv1 hx1.sat hs1 (hx1.get (i := 1) rfl) (hx1.lendable (i := 1) rfl)) ?_
   rintro _ Fx1 _ _ wx2 hF1 hx2 ⟨as2, ns2, cs2, rfl, rfl, rfl, hs2⟩
   refine r_nil (q_then (c_seq (c_region (r_move rfl rfl rfl ?_))))
   obtain ⟨v2, hv2, hm⟩ := bind_some hm
   refine r_callL ent31 rfl rfl rfl rfl hx2 (i := 1) rfl (ih.1 _ _ hv2 hx2.sat hs2 (hx2.get (i := 1) rfl) (hx2.lendable (i := 1) rfl)) ?_
   rintro _ Fx2 _ _ wx3 hF2 hx3 ⟨as3, ns3, cs3, as4, ns4, cs4, rfl, rfl, rfl, hs3, hs4⟩
   refine r_alloc ze24 rfl rfl rfl hx3 ?_
   intro b2 wx4 hx4
   refine r_store sz24 rfl hx4 rfl rfl rfl rfl (i := 0) rfl rfl rfl rfl ?_
   intro wx5 hx5
   refine r_nil (q_then (c_seq (c_region (r_move rfl rfl rfl ?_))))
   obtain ⟨v3, hv3, hm⟩ := bind_some hm
   refine r_callL ent29 rfl rfl rfl rfl hx5 (i := 2) rfl (ref35_Reader_need_ok _ _ _ _ hv3 hx5.sat hs3 (hx5.get (i := 2) rfl) (hx5.lendable (i := 2) rfl)) ?_
   rintro _ Fx3 _ _ wx6 hF3 hx6 ⟨as5, ns5, cs5, rfl, rfl, rfl, hs5⟩
   refine r_nil (q_then (c_seq (c_region (r_move rfl rfl rfl ?_))))
   obtain ⟨v4, hv4, hm⟩ := bind_some hm
   refine r_callL ent31 rfl rfl rfl rfl hx6 (i := 2) rfl (ih.1 _ _ hv4 hx6.sat hs5 (hx6.get (i := 2) rfl) (hx6.lendable (i := 2) rfl)) ?_
   rintro _ Fx4 _ _ wx7 hF4 hx7 ⟨as6, ns6, cs6, as7, ns7, cs7, rfl, rfl, rfl, hs6, hs7⟩
   refine r_alloc ze24 rfl rfl rfl hx7 ?_
   intro b3 wx8 hx8
   refine r_store sz24 rfl hx8 rfl rfl rfl rfl (i := 0) rfl rfl rfl rfl ?_
   intro wx9 hx9
   refine r_nil (q_then (c_seq (c_region (r_move rfl rfl rfl ?_))))
   obtain ⟨v5, hv5, hm⟩ := bind_some hm
   refine r_callL ent29 rfl rfl rfl rfl hx9 (i := 3) rfl (ref35_Reader_need_ok _ _ _ _ hv5 hx9.sat hs6 (hx9.get (i := 3) rfl) (hx9.lendable (i := 3) rfl)) ?_
   rintro _ Fx5 _ _ wx10 hF5 hx10 ⟨as8, ns8, cs8, rfl, rfl, rfl, hs8⟩
   refine r_nil (q_then (c_seq (c_region (r_move rfl rfl rfl ?_))))
   refine r_loadBW ag24 sz24 rfl rfl hx10 rfl (i := 1) rfl rfl ?_
   refine r_loadBW ag24 sz24 rfl rfl hx10 rfl (i := 0) rfl rfl ?_
   refine r_buildSlice (e := 24) (cs := [.int .i64 v2.2.Op, .int .i64 v2.2.N, vs v2.2.Name, .slice as4 ns4 cs4, .int .i64 v4.2.Op, .int .i64 v4.2.N, vs v4.2.Name, .slice as7 ns7 cs7]) (q := 4) rfl rfl hx10 rfl (fun _ => by kernel_rfl) rfl rfl ?_
   intro b4 wx11 hx11
   obtain ⟨Fx6, hF6, hx12, hsx1⟩ := freezeRowL hx11 (k := 4) rfl (i := 0) rfl (by decide) ((show RowN rp_Expr Fx5 2 [.int .i64 v2.2.Op, .int .i64 v2.2.N, vs v2.2.Name, .slice as4 ns4 cs4, .int .i64 v4.2.Op, .int .i64 v4.2.N, vs v4.2.Name, .slice as7 ns7 cs7] [v2.2, v4.2] from ⟨rfl, ⟨_, _, rfl, (expr_iff.2 ⟨as4, ns4, cs4, rfl, (((hs4.mono hF3).mono hF4).mono hF5)⟩), ⟨_, _, rfl, (expr_iff.2 ⟨as7, ns7, cs7, rfl, (hs7.mono hF5)⟩), (rfl : RowR rp_Expr _ [] [])⟩⟩⟩))
   refine r_build (v := .agg #[.int .i64 op1, .int .i64 0, vs [], .slice (some ⟨b4, 0, none⟩) 2 2]) rfl rfl rfl (fun _ => by kernel_rfl) ?_
   refine r_store sz24 rfl hx12 rfl rfl rfl rfl (i := 2) rfl rfl rfl rfl ?_
   intro wx12 hx13
   refine r_nil (q_then (c_ret ?_))
   refine b_retC rfl ag24 sz24 rfl hx13 rfl (i := 2) rfl ?_
   obtain rfl := Option.some.inj hm
   exact ⟨_, _, _, _, rfl, hx13.pick [3] (by decide) rfl, as8, ns8, cs8, (some ⟨b4, 0, none⟩), 2, 2, rfl, rfl, rfl, (hs8.mono hF6), hsx1⟩
theorem ref35_Reader_expr_ok (n : Nat) (rx1 : Reader) (r : (Reader × Expr)) (hm : ref35_Reader_expr n rx1 = some r) {w : World} {F : Frz} (hs : Sat F w) {as1 : Option Addr} {ns1 : Nat} {cs1 : Nat} {brx1 : Nat} (hs1 : SlR rp_Token F as1 ns1 cs1 rx1.L) (hbrx1 : (OE.box brx1 62 [.slice as1 ns1 cs1, .int .i64 rx1.At, .int .i64 rx1.Bad]).ok w) (hfrx1 : F brx1 = none) :
  Calls Tryz.prog 31 #[.pointer (some ⟨brx1, 0, none⟩)] w fun e w' => ∃ v F' cs' O', e = .returned v ∧ HS F w [brx1] F' (.box brx1 62 cs' :: O') w' ∧ (∃ (al_0 : Option Addr) (nl_0 : Nat) (cl_0 : Nat) (a0_3 : Option Addr) (n0_3 : Nat) (c0_3 : Nat), v = .agg #[.int .i64 r.2.Op, .int .i64 r.2.N, vs r.2.Name, .slice a0_3 n0_3 c0_3] ∧ cs' = [.slice al_0 nl_0 cl_0, .int .i64 r.1.At, .int .i64 r.1.Bad] ∧ O' = [] ∧ SlR rp_Token F' al_0 nl_0 cl_0 r.1.L ∧ SlR rp_Expr F' a0_3 n0_3 c0_3 r.2.Args) :=
 (ref35_Reader_expr_all n).1 rx1 r hm hs hs1 hbrx1 hfrx1
theorem ent28 : Ent Tryz.prog 28 := fun _ _ => by kernel_rfl
def ref35_Parse (n : Nat) (s1 : Bs) : Option (Tariff × Int × Int) :=
 (ref06_Scan n s1).bind fun v1 =>
 bif v1.2.2 != 0 then
  some ((⟨[], (⟨0, 0, [], []⟩ : Expr), 0⟩ : Tariff), v1.2.1, v1.2.2)
 else
  (ref35_Reader_need n (⟨v1.1, 0, 0⟩ : Reader) [116, 97, 114, 105, 102, 102]).bind fun v2 =>
  (ref35_Reader_one n v2 0).bind fun v3 =>
  (ref35_Reader_need n v3.1 [123]).bind fun v4 =>
  (ref35_Reader_need n v4 [102, 101, 101]).bind fun v5 =>
  (ref35_Reader_need n v5 [61]).bind fun v6 =>
  (ref35_Reader_expr n v6).bind fun v7 =>
  (ref35_Reader_is n v7.1 [59]).bind fun v8 =>
  (bif v8.2 then
   (ref35_Few n v7.2 100 10).bind fun v18 =>
   some (!v18)
  else
   some false).bind fun v9 =>
  (bif v9 then
   (ref35_Reader_fail n v8.1 6).bind fun v17 =>
   some (v17.L, v17.At, v17.Bad)
  else
   some (v8.1.L, v8.1.At, v8.1.Bad)).bind fun (f1, f2, f3) =>
  (ref35_Reader_need n (⟨f1, f2, f3⟩ : Reader) [59]).bind fun v10 =>
  (ref35_Reader_take n v10 [99, 97, 112]).bind fun v11 =>
  (bif v11.2 then
   (ref35_Reader_need n v11.1 [61]).bind fun v14 =>
   (ref35_Reader_one n v14 1).bind fun v15 =>
   (ref35_Reader_need n v15.1 [59]).bind fun v16 =>
   some (v15.2.N, v16.L, v16.At, v16.Bad)
  else
   some ((-1), v11.1.L, v11.1.At, v11.1.Bad)).bind fun (f4, f5, f6, f7) =>
  (ref35_Reader_need n (⟨f5, f6, f7⟩ : Reader) [125]).bind fun v12 =>
  (bif decide (v12.At < (v12.L.length : Int)) then
   (ref35_Reader_fail n v12 12).bind fun v13 =>
   some (v13.L, v13.At, v13.Bad)
  else
   some (v12.L, v12.At, v12.Bad)).bind fun (f8, f9, f10) =>
  bif f10 == 0 then
   some ((⟨v3.2.Text, v7.2, f4⟩ : Tariff), 0, 0)
  else
   bif decide (f9 < (f8.length : Int)) then
    (ix f8 f9).bind fun ex1 =>
    some ((⟨[], (⟨0, 0, [], []⟩ : Expr), 0⟩ : Tariff), ex1.Pos, f10)
   else
    some ((⟨[], (⟨0, 0, [], []⟩ : Expr), 0⟩ : Tariff), (s1.length : Int), f10)
set_option maxHeartbeats 1000000 in
set_option maxRecDepth 1000000 in
theorem ref35_Parse_ok (n : Nat) (s1 : Bs) (r : (Tariff × Int × Int)) (hm : ref35_Parse n s1 = some r) {w : World} {F : Frz} (hs : Sat F w)  :
  Calls Tryz.prog 8 #[vs s1] w fun e w' => ∃ v F' O', e = .returned v ∧ HS F w [] F' O' w' ∧ (∃ (a0_4 : Option Addr) (n0_4 : Nat) (c0_4 : Nat), v = .tuple #[.agg #[vs r.1.Name, .int .i64 r.1.Fee.Op, .int .i64 r.1.Fee.N, vs r.1.Fee.Name, .slice a0_4 n0_4 c0_4, .int .i64 r.1.Cap], .int .i64 r.2.1, .int .i64 r.2.2] ∧ O' = [] ∧ SlR rp_Expr F' a0_4 n0_4 c0_4 r.1.Fee.Args) := by
 unfold ref35_Parse at hm
 have h := HS.init hs
 refine calls_of 114 Tryz.func8 rfl rfl rfl ?_
 refine c_seq (c_region ?_)
 refine r_alloc ze26 rfl rfl rfl h ?_
 intro b1 wx1 hx1
 refine r_assign rfl rfl rfl (r_assign rfl rfl rfl (r_nil (q_then (c_seq (c_region (r_move rfl rfl rfl ?_))))))
 obtain ⟨v1, hv1, hm⟩ := bind_some hm
 refine r_callG0 ent28 rfl rfl rfl rfl hx1 (ref06_Scan_ok _ _ _ hv1 hx1.sat) ?_
 rintro _ Fx1 _ wx2 hF1 hx2 ⟨as2, ns2, cs2, rfl, rfl, hs2⟩
 refine r_move rfl rfl rfl (r_extract rfl rfl rfl rfl (r_extract rfl rfl rfl rfl (r_extract rfl rfl rfl rfl (r_assign rfl rfl rfl (r_assign rfl rfl rfl (r_assign rfl rfl rfl (r_nil (q_then (c_seq (c_seq (c_region (r_move rfl rfl rfl ?_))))))))))))
 refine r_bin rfl rfl rfl rfl rfl ?_
 refine r_nil (q_then ?_)
 rcases cond_some hm with ⟨hb1, hm⟩ | ⟨hb1, hm⟩
 ·refine c_lit 17 rfl hb1 ?_
  refine c_true rfl (c_seq (c_region ?_))
  refine r_build (v := .agg #[vs [], .int .i64 0, .int .i64 0, vs [], .slice none 0 0, .int .i64 0]) rfl rfl rfl (fun _ => by kernel_rfl) ?_
  refine r_move rfl rfl rfl (r_move rfl rfl rfl ?_)
  refine r_store sz26 rfl hx2 rfl rfl rfl rfl (i := 0) rfl rfl rfl rfl ?_
  intro wx3 hx3
  refine r_assign rfl rfl rfl (r_assign rfl rfl rfl (r_nil (q_then (c_ret (q_then_ret ?_)))))
  refine b_retA (vl := [.agg #[vs [], .int .i64 0, .int .i64 0, vs [], .slice none 0 0, .int .i64 0], .int .i64 v1.2.1, .int .i64 v1.2.2]) rfl ⟨v_cell ag26 sz26 rfl hx3 rfl (i := 0) rfl, v_tmp rfl, v_tmp rfl, trivial⟩ (by simp) ?_
  obtain rfl := Option.some.inj hm
  exact ⟨_, _, _, rfl, hx3.pick [] (by decide) rfl, none, 0, 0, rfl, rfl, SlR.nil _ _⟩
 ·refine c_lit 17 rfl hb1 ?_
  refine c_false rfl (c_skip (q_then (c_seq (c_region (r_move rfl rfl rfl ?_)))))
  refine r_build (v := .agg #[.slice as2 ns2 cs2, .int .i64 0, .int .i64 0]) rfl rfl rfl (fun _ => by kernel_rfl) ?_
  refine r_box rfl rfl rfl rfl hx2 ?_
  intro b2 wx4 hx4
  refine r_assign rfl rfl rfl (r_nil (q_then (c_seq (c_region (r_move rfl rfl rfl ?_)))))
  obtain ⟨v2, hv2, hm⟩ := bind_some hm
  refine r_callL ent29 rfl rfl rfl rfl hx4 (i := 0) rfl (ref35_Reader_need_ok _ _ _ _ hv2 hx4.sat hs2 (hx4.get (i := 0) rfl) (hx4.lendable (i := 0) rfl)) ?_
  rintro _ Fx2 _ _ wx5 hF2 hx5 ⟨as3, ns3, cs3, rfl, rfl, rfl, hs3⟩
  refine r_nil (q_then (c_seq (c_region (r_move rfl rfl rfl ?_))))
  obtain ⟨v3, hv3, hm⟩ := bind_some hm
  refine r_callL ent30 rfl rfl rfl rfl hx5 (i := 0) rfl (ref35_Reader_one_ok _ _ _ _ hv3 hx5.sat hs3 (hx5.get (i := 0) rfl) (hx5.lendable (i := 0) rfl)) ?_
  rintro _ Fx3 _ _ wx6 hF3 hx6 ⟨as4, ns4, cs4, rfl, rfl, rfl, hs4⟩
  refine r_field (v := .agg #[.int .i64 v3.2.Kind, vs v3.2.Text, .int .i64 v3.2.N, .int .i64 v3.2.Pos]) (u := vs v3.2.Text) (fun _ => by kernel_rfl) rfl rfl rfl ?_
  refine r_build (v := .agg #[vs v3.2.Text, .int .i64 0, .int .i64 0, vs [], .slice none 0 0, .int .i64 (-1)]) rfl rfl rfl (fun _ => by kernel_rfl) ?_
  refine r_alloc ze26 rfl rfl rfl hx6 ?_
  intro b3 wx7 hx7
  refine r_store sz26 rfl hx7 rfl rfl rfl rfl (i := 0) rfl rfl rfl rfl ?_
  intro wx8 hx8
  refine r_nil (q_then (c_seq (c_region (r_move rfl rfl rfl ?_))))
  obtain ⟨v4, hv4, hm⟩ := bind_some hm
  refine r_callL ent29 rfl rfl rfl rfl hx8 (i := 1) rfl (ref35_Reader_need_ok _ _ _ _ hv4 hx8.sat hs4 (hx8.get (i := 1) rfl) (hx8.lendable (i := 1) rfl)) ?_
  rintro _ Fx4 _ _ wx9 hF4 hx9 ⟨as5, ns5, cs5, rfl, rfl, rfl, hs5⟩
  refine r_nil (q_then (c_seq (c_region (r_move rfl rfl rfl ?_))))
  obtain ⟨v5, hv5, hm⟩ := bind_some hm
  refine r_callL ent29 rfl rfl rfl rfl hx9 (i := 1) rfl (ref35_Reader_need_ok _ _ _ _ hv5 hx9.sat hs5 (hx9.get (i := 1) rfl) (hx9.lendable (i := 1) rfl)) ?_
  rintro _ Fx5 _ _ wx10 hF5 hx10 ⟨as6, ns6, cs6, rfl, rfl, rfl, hs6⟩
  refine r_nil (q_then (c_seq (c_region (r_move rfl rfl rfl ?_))))
  obtain ⟨v6, hv6, hm⟩ := bind_some hm
  refine r_callL ent29 rfl rfl rfl rfl hx10 (i := 1) rfl (ref35_Reader_need_ok _ _ _ _ hv6 hx10.sat hs6 (hx10.get (i := 1) rfl) (hx10.lendable (i := 1) rfl)) ?_
  rintro _ Fx6 _ _ wx11 hF6 hx11 ⟨as7, ns7, cs7, rfl, rfl, rfl, hs7⟩
  refine r_nil (q_then (c_seq (c_region (r_move rfl rfl rfl ?_))))
  obtain ⟨v7, hv7, hm⟩ := bind_some hm
  refine r_callL ent31 rfl rfl rfl rfl hx11 (i := 1) rfl (ref35_Reader_expr_ok _ _ _ hv7 hx11.sat hs7 (hx11.get (i := 1) rfl) (hx11.lendable (i := 1) rfl)) ?_
  rintro _ Fx7 _ _ wx12 hF7 hx12 ⟨as8, ns8, cs8, as9, ns9, cs9, rfl, rfl, rfl, hs8, hs9⟩
  refine r_fieldAddr fa26_1 rfl rfl rfl ?_
  refine r_store sz24 rfl hx12 rfl rfl rfl rfl (i := 0) rfl rfl rfl rfl ?_
  intro wx13 hx13
  refine r_nil (q_then (c_seq (c_seq (c_region (r_move rfl rfl rfl ?_)))))
  obtain ⟨v8, hv8, hm⟩ := bind_some hm
  refine r_callL ent32 rfl rfl rfl rfl hx13 (i := 1) rfl (ref35_Reader_is_ok _ _ _ _ hv8 hx13.sat hs8 (hx13.get (i := 1) rfl) (hx13.lendable (i := 1) rfl)) ?_
  rintro _ Fx8 _ _ wx14 hF8 hx14 ⟨as10, ns10, cs10, rfl, rfl, rfl, hs10⟩
  refine r_move rfl rfl rfl ?_
  obtain ⟨v9, hb2, hm⟩ := bind_some hm
  refine r_mid 5 (fun a w' => ∃ (Fx9 : Frz), Frz.le Fx8 Fx9 ∧ HS F w [] Fx9 [.box b3 26 [vs v3.2.Text, .int .i64 v7.2.Op, .int .i64 v7.2.N, vs v7.2.Name, .slice as9 ns9 cs9, .int .i64 (-1)], .box b2 62 [.slice as10 ns10 cs10, .int .i64 v8.1.At, .int .i64 v8.1.Bad], .box b1 26 [vs [], .int .i64 0, .int .i64 0, vs [], .slice none 0 0, .int .i64 0]] w' ∧ Has 114 a [(0, vs s1), (2, .pointer (some ⟨b1, 0, none⟩)), (8, .pointer (some ⟨b2, 0, none⟩)), (9, .pointer (some ⟨b3, 0, none⟩)), (46, .bool v9)]) ?_ ?_
  ·rintro a wx15 ⟨Fx9, hF9, hx15, hax1⟩
   refine rw_apply hax1 ?_
   refine r_nil (q_then ?_)
   obtain ⟨⟨f1, f2, f3⟩, hb3, hm⟩ := bind_some hm
   refine c_midT (fun a w' => ∃ (Fx10 : Frz) (as11 : Option Addr) (ns11 : Nat) (cs11 : Nat), Frz.le Fx9 Fx10 ∧ HS F w [] Fx10 [.box b3 26 [vs v3.2.Text, .int .i64 v7.2.Op, .int .i64 v7.2.N, vs v7.2.Name, .slice as9 ns9 cs9, .int .i64 (-1)], .box b2 62 [.slice as11 ns11 cs11, .int .i64 f2, .int .i64 f3], .box b1 26 [vs [], .int .i64 0, .int .i64 0, vs [], .slice none 0 0, .int .i64 0]] w' ∧ (SlR rp_Token Fx10 as11 ns11 cs11 f1) ∧ Has 114 a [(0, vs s1), (2, .pointer (some ⟨b1, 0, none⟩)), (8, .pointer (some ⟨b2, 0, none⟩)), (9, .pointer (some ⟨b3, 0, none⟩))]) ?_ ?_
   ·rintro a wx16 ⟨Fx10, as11, ns11, cs11, hF10, hx16, hs11, hax2⟩
    refine cw_apply hax2 ?_
    refine c_seq (c_region (r_move rfl rfl rfl ?_))
    obtain ⟨v10, hv9, hm⟩ := bind_some hm
    refine r_callL ent29 rfl rfl rfl rfl hx16 (i := 1) rfl (ref35_Reader_need_ok _ _ _ _ hv9 hx16.sat hs11 (hx16.get (i := 1) rfl) (hx16.lendable (i := 1) rfl)) ?_
    rintro _ Fx11 _ _ wx17 hF11 hx17 ⟨as12, ns12, cs12, rfl, rfl, rfl, hs12⟩
    refine r_nil (q_then (c_seq (c_seq (c_region (r_move rfl rfl rfl ?_)))))
    obtain ⟨v11, hv10, hm⟩ := bind_some hm
    refine r_callL ent34 rfl rfl rfl rfl hx17 (i := 1) rfl (ref35_Reader_take_ok _ _ _ _ hv10 hx17.sat hs12 (hx17.get (i := 1) rfl) (hx17.lendable (i := 1) rfl)) ?_
    rintro _ Fx12 _ _ wx18 hF12 hx18 ⟨as13, ns13, cs13, rfl, rfl, rfl, hs13⟩
    refine r_nil (q_then ?_)
    obtain ⟨⟨f4, f5, f6, f7⟩, hb4, hm⟩ := bind_some hm
    refine c_midT (fun a w' => ∃ (Fx13 : Frz) (as14 : Option Addr) (ns14 : Nat) (cs14 : Nat), Frz.le Fx12 Fx13 ∧ HS F w [] Fx13 [.box b3 26 [vs v3.2.Text, .int .i64 v7.2.Op, .int .i64 v7.2.N, vs v7.2.Name, .slice as9 ns9 cs9, .int .i64 f4], .box b2 62 [.slice as14 ns14 cs14, .int .i64 f6, .int .i64 f7], .box b1 26 [vs [], .int .i64 0, .int .i64 0, vs [], .slice none 0 0, .int .i64 0]] w' ∧ (SlR rp_Token Fx13 as14 ns14 cs14 f5) ∧ Has 114 a [(0, vs s1), (2, .pointer (some ⟨b1, 0, none⟩)), (8, .pointer (some ⟨b2, 0, none⟩)), (9, .pointer (some ⟨b3, 0, none⟩))]) ?_ ?_
    ·rintro a wx19 ⟨Fx13, as14, ns14, cs14, hF13, hx19, hs14, hax3⟩
     refine cw_apply hax3 ?_
     refine c_seq (c_region (r_move rfl rfl rfl ?_))
     obtain ⟨v12, hv11, hm⟩ := bind_some hm
     refine r_callL ent29 rfl rfl rfl rfl hx19 (i := 1) rfl (ref35_Reader_need_ok _ _ _ _ hv11 hx19.sat hs14 (hx19.get (i := 1) rfl) (hx19.lendable (i := 1) rfl)) ?_
     rintro _ Fx14 _ _ wx20 hF14 hx20 ⟨as15, ns15, cs15, rfl, rfl, rfl, hs15⟩
     refine r_nil (q_then (c_seq (c_seq ?_)))
     refine c_regionD (by kernel_rfl) (by kernel_rfl) hx20 ?_
     refine q_stp rfl rfl rfl rfl (fun _ _ _ _ => r_move rfl rfl rfl (r_nil (qq rfl))) ?_
     refine q_nilC rfl rfl rfl ?_
     refine q_stp rfl rfl rfl rfl (fun _ _ _ _ => r_fieldAddr fa62_1 rfl rfl rfl (r_nil (qq rfl))) ?_
     refine q_stp rfl rfl rfl rfl (fun _ _ _ hq => r_loadB1 ag3 rfl rfl hq rfl (i := 1) rfl rfl (r_nil (qq rfl))) ?_
     refine q_stp rfl rfl rfl rfl (fun _ _ _ _ => r_move rfl rfl rfl (r_nil (qq rfl))) ?_
     refine q_nilC rfl rfl rfl ?_
     refine q_stp rfl rfl rfl rfl (fun _ _ _ _ => r_fieldAddr fa62_0 rfl rfl rfl (r_nil (qq rfl))) ?_
     refine q_stp rfl rfl rfl rfl (fun _ _ _ hq => r_loadB1 ag45 rfl rfl hq rfl (i := 1) rfl rfl (r_nil (qq rfl))) ?_
     refine q_stp rfl rfl rfl rfl (fun _ _ _ _ => r_lenS hs15.len u45 rfl rfl rfl (r_nil (qq rfl))) ?_
     refine q_stp rfl rfl rfl rfl (fun _ _ _ _ => r_bin rfl rfl rfl rfl rfl (r_nil (qq rfl))) ?_
     refine q_end ?_
     rintro wx21 ⟨Fx15, hF15, hx21⟩
     refine q_then ?_
     obtain ⟨⟨f8, f9, f10⟩, hb5, hm⟩ := bind_some hm
     refine c_midT (fun a w' => ∃ (Fx16 : Frz) (as16 : Option Addr) (ns16 : Nat) (cs16 : Nat), Frz.le Fx15 Fx16 ∧ HS F w [] Fx16 [.box b3 26 [vs v3.2.Text, .int .i64 v7.2.Op, .int .i64 v7.2.N, vs v7.2.Name, .slice as9 ns9 cs9, .int .i64 f4], .box b2 62 [.slice as16 ns16 cs16, .int .i64 f9, .int .i64 f10], .box b1 26 [vs [], .int .i64 0, .int .i64 0, vs [], .slice none 0 0, .int .i64 0]] w' ∧ (SlR rp_Token Fx16 as16 ns16 cs16 f8) ∧ Has 114 a [(0, vs s1), (2, .pointer (some ⟨b1, 0, none⟩)), (8, .pointer (some ⟨b2, 0, none⟩)), (9, .pointer (some ⟨b3, 0, none⟩))]) ?_ ?_
     ·rintro a wx22 ⟨Fx16, as16, ns16, cs16, hF16, hx22, hs16, hax4⟩
      refine cw_apply hax4 ?_
      refine c_seq (c_seq (c_region (r_move rfl rfl rfl ?_)))
      refine r_nilC rfl rfl rfl ?_
      refine r_fieldAddr fa62_2 rfl rfl rfl ?_
      refine r_loadB1 ag31 rfl rfl hx22 rfl (i := 1) rfl rfl ?_
      refine r_bin rfl rfl rfl rfl rfl ?_
      refine r_nil (q_then ?_)
      rcases cond_some hm with ⟨hb6, hm⟩ | ⟨hb6, hm⟩
      ·refine c_lit 79 rfl hb6 ?_
       refine c_true rfl (c_seq (c_region ?_))
       refine r_loadBW ag26 sz26 rfl rfl hx22 rfl (i := 0) rfl rfl ?_
       refine r_store sz26 rfl hx22 rfl rfl rfl rfl (i := 2) rfl rfl rfl rfl ?_
       intro wx23 hx23
       refine r_assign rfl rfl rfl (r_assign rfl rfl rfl (r_nil (q_then (c_ret (q_then_ret ?_)))))
       refine b_retA (vl := [.agg #[vs v3.2.Text, .int .i64 v7.2.Op, .int .i64 v7.2.N, vs v7.2.Name, .slice as9 ns9 cs9, .int .i64 f4], .int .i64 0, .int .i64 0]) rfl ⟨v_cell ag26 sz26 rfl hx23 rfl (i := 2) rfl, v_tmp rfl, v_tmp rfl, trivial⟩ (by simp) ?_
       obtain rfl := Option.some.inj hm
       exact ⟨_, _, _, rfl, hx23.pick [] (by decide) rfl, as9, ns9, cs9, rfl, rfl, (((((((((hs9.mono hF8).mono hF9).mono hF10).mono hF11).mono hF12).mono hF13).mono hF14).mono hF15).mono hF16)⟩
      ·refine c_lit 79 rfl hb6 ?_
       refine c_false rfl (c_skip (q_then (c_seq (c_seq ?_))))
       refine c_regionD (by kernel_rfl) (by kernel_rfl) hx22 ?_
       refine q_stp rfl rfl rfl rfl (fun _ _ _ _ => r_move rfl rfl rfl (r_nil (qq rfl))) ?_
       refine q_nilC rfl rfl rfl ?_
       refine q_stp rfl rfl rfl rfl (fun _ _ _ _ => r_fieldAddr fa62_1 rfl rfl rfl (r_nil (qq rfl))) ?_
       refine q_stp rfl rfl rfl rfl (fun _ _ _ hq => r_loadB1 ag3 rfl rfl hq rfl (i := 1) rfl rfl (r_nil (qq rfl))) ?_
       refine q_stp rfl rfl rfl rfl (fun _ _ _ _ => r_move rfl rfl rfl (r_nil (qq rfl))) ?_
       refine q_nilC rfl rfl rfl ?_
       refine q_stp rfl rfl rfl rfl (fun _ _ _ _ => r_fieldAddr fa62_0 rfl rfl rfl (r_nil (qq rfl))) ?_
       refine q_stp rfl rfl rfl rfl (fun _ _ _ hq => r_loadB1 ag45 rfl rfl hq rfl (i := 1) rfl rfl (r_nil (qq rfl))) ?_
       refine q_stp rfl rfl rfl rfl (fun _ _ _ _ => r_lenS hs16.len u45 rfl rfl rfl (r_nil (qq rfl))) ?_
       refine q_stp rfl rfl rfl rfl (fun _ _ _ _ => r_bin rfl rfl rfl rfl rfl (r_nil (qq rfl))) ?_
       refine q_end ?_
       rintro wx24 ⟨Fx17, hF17, hx24⟩
       refine q_then ?_
       rcases cond_some hm with ⟨hb7, hm⟩ | ⟨hb7, hm⟩
       ·refine c_lit 90 rfl hb7 ?_
        refine c_true rfl (c_seq ?_)
        refine c_regionH (SH Fx17 [.box b3 26 [vs v3.2.Text, .int .i64 v7.2.Op, .int .i64 v7.2.N, vs v7.2.Name, .slice as9 ns9 cs9, .int .i64 f4], .box b2 62 [.slice as16 ns16 cs16, .int .i64 f9, .int .i64 f10], .box b1 26 [vs [], .int .i64 0, .int .i64 0, vs [], .slice none 0 0, .int .i64 0]]) 19 rfl (by kernel_rfl) hx24 ?_
        intro wx25 hx25
        refine d_tk 0 rfl (by kernel_rfl) rfl rfl rfl rfl (hx25.sh (Frz.refl _) [0, 1, 2] (by decide) rfl) (fun _ _ _ _ _ => r_build (v := .agg #[vs [], .int .i64 0, .int .i64 0, vs [], .slice none 0 0, .int .i64 0]) rfl rfl rfl (fun _ => by kernel_rfl) (r_nil (qq rfl))) ?_
        refine d_tk 1 rfl (by kernel_rfl) rfl rfl rfl rfl (hx25.sh (Frz.refl _) [0, 1, 2] (by decide) rfl) (fun _ _ _ _ _ => r_move rfl rfl rfl (r_nil (qq rfl))) ?_
        refine d_nilC 2 rfl (by kernel_rfl) (by kernel_rfl) (by kernel_rfl) rfl rfl rfl (hx25.sh (Frz.refl _) [0, 1, 2] (by decide) rfl) ?_
        refine d_tk 3 rfl (by kernel_rfl) rfl rfl rfl rfl (hx25.sh (Frz.refl _) [0, 1, 2] (by decide) rfl) (fun _ _ _ _ _ => r_fieldAddr fa62_0 rfl rfl rfl (r_nil (qq rfl))) ?_
        refine d_tk 4 rfl (by kernel_rfl) rfl rfl rfl rfl (hx25.sh (Frz.refl _) [0, 1, 2] (by decide) rfl) (fun _ _ _ _ hq => r_loadB1 ag45 rfl rfl hq rfl (i := 1) rfl rfl (r_nil (qq rfl))) ?_
        refine d_tk 5 rfl (by kernel_rfl) rfl rfl rfl rfl (hx25.sh (Frz.refl _) [0, 1, 2] (by decide) rfl) (fun _ _ _ _ _ => r_move rfl rfl rfl (r_nil (qq rfl))) ?_
        refine d_nilC 6 rfl (by kernel_rfl) (by kernel_rfl) (by kernel_rfl) rfl rfl rfl (hx25.sh (Frz.refl _) [0, 1, 2] (by decide) rfl) ?_
        refine d_tk 7 rfl (by kernel_rfl) rfl rfl rfl rfl (hx25.sh (Frz.refl _) [0, 1, 2] (by decide) rfl) (fun _ _ _ _ _ => r_fieldAddr fa62_1 rfl rfl rfl (r_nil (qq rfl))) ?_
        refine d_tk 8 rfl (by kernel_rfl) rfl rfl rfl rfl (hx25.sh (Frz.refl _) [0, 1, 2] (by decide) rfl) (fun _ _ _ _ hq => r_loadB1 ag3 rfl rfl hq rfl (i := 1) rfl rfl (r_nil (qq rfl))) ?_
        obtain ⟨ex1, he1, hm⟩ := bind_some hm
        obtain ⟨b4, o1, cs1, hf1, hr1, hrun1⟩ := findex_ex (P := Tryz.prog) (r := rp_Token) u45 sz53 (hs16.mono hF17) he1
        have hc1 : cs1 = [.int .i64 ex1.Kind, vs ex1.Text, .int .i64 ex1.N, .int .i64 ex1.Pos] := hr1
        subst hc1
        refine d_findex 9 rfl (by kernel_rfl) (by kernel_rfl) (by kernel_rfl) rfl rfl rfl rfl hrun1 (hx25.sh (Frz.refl _) [0, 1, 2] (by decide) rfl) ?_
        refine d_tk 10 rfl (by kernel_rfl) rfl rfl rfl rfl (hx25.sh (Frz.refl _) [0, 1, 2] (by decide) rfl) (fun _ _ _ _ _ => r_fieldAddr fa53_3 rfl rfl rfl (r_nil (qq rfl))) ?_
        refine d_tk 11 rfl (by kernel_rfl) rfl rfl rfl rfl (hx25.sh (Frz.refl _) [0, 1, 2] (by decide) rfl) (fun _ _ _ hleq hq => r_loadF1 (j := 3) ag3 rfl rfl hq (hf1.mono hleq) rfl rfl (r_nil (qq rfl))) ?_
        refine d_tk 12 rfl (by kernel_rfl) rfl rfl rfl rfl (hx25.sh (Frz.refl _) [0, 1, 2] (by decide) rfl) (fun _ _ _ _ _ => r_move rfl rfl rfl (r_nil (qq rfl))) ?_
        refine d_nilC 13 rfl (by kernel_rfl) (by kernel_rfl) (by kernel_rfl) rfl rfl rfl (hx25.sh (Frz.refl _) [0, 1, 2] (by decide) rfl) ?_
        refine d_tk 14 rfl (by kernel_rfl) rfl rfl rfl rfl (hx25.sh (Frz.refl _) [0, 1, 2] (by decide) rfl) (fun _ _ _ _ _ => r_fieldAddr fa62_2 rfl rfl rfl (r_nil (qq rfl))) ?_
        refine d_tk 15 rfl (by kernel_rfl) rfl rfl rfl rfl (hx25.sh (Frz.refl _) [0, 1, 2] (by decide) rfl) (fun _ _ _ _ hq => r_loadB1 ag31 rfl rfl hq rfl (i := 1) rfl rfl (r_nil (qq rfl))) ?_
        refine d_step 16 rfl (by kernel_rfl) ?_
        refine r_store sz26 rfl hx25 rfl rfl rfl rfl (i := 2) rfl rfl rfl rfl ?_
        intro wx26 hx26
        refine d_next (hx26.sh (Frz.refl _) [0, 1, 2] (by decide) rfl) ?_
        refine d_tk 17 rfl (by kernel_rfl) rfl rfl rfl rfl (hx26.sh (Frz.refl _) [0, 1, 2] (by decide) rfl) (fun _ _ _ _ _ => r_assign rfl rfl rfl (r_nil (qq rfl))) ?_
        refine d_tk 18 rfl (by kernel_rfl) rfl rfl rfl rfl (hx26.sh (Frz.refl _) [0, 1, 2] (by decide) rfl) (fun _ _ _ _ _ => r_assign rfl rfl rfl (r_nil (qq rfl))) ?_
        refine d_done (by kernel_rfl) ?_
        refine q_then (c_ret (q_then_ret ?_))
        refine b_retA (vl := [.agg #[vs [], .int .i64 0, .int .i64 0, vs [], .slice none 0 0, .int .i64 0], .int .i64 ex1.Pos, .int .i64 f10]) rfl ⟨v_cell ag26 sz26 rfl hx26 rfl (i := 2) rfl, v_tmp rfl, v_tmp rfl, trivial⟩ (by simp) ?_
        obtain rfl := Option.some.inj hm
        exact ⟨_, _, _, rfl, hx26.pick [] (by decide) rfl, none, 0, 0, rfl, rfl, SlR.nil _ _⟩
       ·refine c_lit 90 rfl hb7 ?_
        refine c_false rfl (c_skip (q_then (c_seq ?_)))
        refine c_regionH (SH Fx17 [.box b3 26 [vs v3.2.Text, .int .i64 v7.2.Op, .int .i64 v7.2.N, vs v7.2.Name, .slice as9 ns9 cs9, .int .i64 f4], .box b2 62 [.slice as16 ns16 cs16, .int .i64 f9, .int .i64 f10], .box b1 26 [vs [], .int .i64 0, .int .i64 0, vs [], .slice none 0 0, .int .i64 0]]) 10 rfl (by kernel_rfl) hx24 ?_
        intro wx27 hx27
        refine d_tk 0 rfl (by kernel_rfl) rfl rfl rfl rfl (hx27.sh (Frz.refl _) [0, 1, 2] (by decide) rfl) (fun _ _ _ _ _ => r_build (v := .agg #[vs [], .int .i64 0, .int .i64 0, vs [], .slice none 0 0, .int .i64 0]) rfl rfl rfl (fun _ => by kernel_rfl) (r_nil (qq rfl))) ?_
        refine d_tk 1 rfl (by kernel_rfl) rfl rfl rfl rfl (hx27.sh (Frz.refl _) [0, 1, 2] (by decide) rfl) (fun _ _ _ _ _ => r_move rfl rfl rfl (r_nil (qq rfl))) ?_
        refine d_tk 2 rfl (by kernel_rfl) rfl rfl rfl rfl (hx27.sh (Frz.refl _) [0, 1, 2] (by decide) rfl) (fun _ _ _ _ _ => r_slen u9 rfl rfl rfl (r_nil (qq rfl))) ?_
        refine d_tk 3 rfl (by kernel_rfl) rfl rfl rfl rfl (hx27.sh (Frz.refl _) [0, 1, 2] (by decide) rfl) (fun _ _ _ _ _ => r_move rfl rfl rfl (r_nil (qq rfl))) ?_
        refine d_nilC 4 rfl (by kernel_rfl) (by kernel_rfl) (by kernel_rfl) rfl rfl rfl (hx27.sh (Frz.refl _) [0, 1, 2] (by decide) rfl) ?_
        refine d_tk 5 rfl (by kernel_rfl) rfl rfl rfl rfl (hx27.sh (Frz.refl _) [0, 1, 2] (by decide) rfl) (fun _ _ _ _ _ => r_fieldAddr fa62_2 rfl rfl rfl (r_nil (qq rfl))) ?_
        refine d_tk 6 rfl (by kernel_rfl) rfl rfl rfl rfl (hx27.sh (Frz.refl _) [0, 1, 2] (by decide) rfl) (fun _ _ _ _ hq => r_loadB1 ag31 rfl rfl hq rfl (i := 1) rfl rfl (r_nil (qq rfl))) ?_
        refine d_step 7 rfl (by kernel_rfl) ?_
        refine r_store sz26 rfl hx27 rfl rfl rfl rfl (i := 2) rfl rfl rfl rfl ?_
        intro wx28 hx28
        refine d_next (hx28.sh (Frz.refl _) [0, 1, 2] (by decide) rfl) ?_
        refine d_tk 8 rfl (by kernel_rfl) rfl rfl rfl rfl (hx28.sh (Frz.refl _) [0, 1, 2] (by decide) rfl) (fun _ _ _ _ _ => r_assign rfl rfl rfl (r_nil (qq rfl))) ?_
        refine d_tk 9 rfl (by kernel_rfl) rfl rfl rfl rfl (hx28.sh (Frz.refl _) [0, 1, 2] (by decide) rfl) (fun _ _ _ _ _ => r_assign rfl rfl rfl (r_nil (qq rfl))) ?_
        refine d_done (by kernel_rfl) ?_
        refine q_then (c_ret ?_)
        refine b_retA (vl := [.agg #[vs [], .int .i64 0, .int .i64 0, vs [], .slice none 0 0, .int .i64 0], .int .i64 (s1.length : Int), .int .i64 f10]) rfl ⟨v_cell ag26 sz26 rfl hx28 rfl (i := 2) rfl, v_tmp rfl, v_tmp rfl, trivial⟩ (by simp) ?_
        obtain rfl := Option.some.inj hm
        exact ⟨_, _, _, rfl, hx28.pick [] (by decide) rfl, none, 0, 0, rfl, rfl, SlR.nil _ _⟩
     ·clear hm
      rcases cond_some hb5 with ⟨hb8, hb5⟩ | ⟨hb8, hb5⟩
      ·refine c_lit 72 rfl hb8 ?_
       refine c_true rfl (c_region (r_move rfl rfl rfl ?_))
       obtain ⟨v13, hv12, hb5⟩ := bind_some hb5
       refine r_callL ent33 rfl rfl rfl rfl hx21 (i := 1) rfl (ref35_Reader_fail_ok _ _ _ _ hv12 hx21.sat (hs15.mono hF15) (hx21.get (i := 1) rfl) (hx21.lendable (i := 1) rfl)) ?_
       rintro _ Fx18 _ _ wx29 hF18 hx29 ⟨as17, ns17, cs17, rfl, rfl, rfl, hs17⟩
       refine r_nil ?_
       refine q_next (fun a ha => ?_)
       cases hb5
       exact ⟨_, as17, ns17, cs17, hF18, hx29.pick [0, 1, 2] (by decide) rfl, hs17, ha.cut (l := [0, 2, 8, 9]) rfl⟩
      ·refine c_lit 72 rfl hb8 ?_
       refine c_false rfl (c_skip ?_)
       refine q_next (fun a ha => ?_)
       cases hb5
       exact ⟨_, as15, ns15, cs15, Frz.refl _, hx21.pick [0, 1, 2] (by decide) rfl, (hs15.mono hF15), ha.cut (l := [0, 2, 8, 9]) rfl⟩
    ·clear hm
     rcases cond_some hb4 with ⟨hb9, hb4⟩ | ⟨hb9, hb4⟩
     ·refine c_lit 52 rfl hb9 ?_
      refine c_true rfl (c_seq (c_region (r_move rfl rfl rfl ?_)))
      obtain ⟨v14, hv13, hb4⟩ := bind_some hb4
      refine r_callL ent29 rfl rfl rfl rfl hx18 (i := 1) rfl (ref35_Reader_need_ok _ _ _ _ hv13 hx18.sat hs13 (hx18.get (i := 1) rfl) (hx18.lendable (i := 1) rfl)) ?_
      rintro _ Fx19 _ _ wx30 hF19 hx30 ⟨as18, ns18, cs18, rfl, rfl, rfl, hs18⟩
      refine r_nil (q_then (c_seq (c_region (r_move rfl rfl rfl ?_))))
      obtain ⟨v15, hv14, hb4⟩ := bind_some hb4
      refine r_callL ent30 rfl rfl rfl rfl hx30 (i := 1) rfl (ref35_Reader_one_ok _ _ _ _ hv14 hx30.sat hs18 (hx30.get (i := 1) rfl) (hx30.lendable (i := 1) rfl)) ?_
      rintro _ Fx20 _ _ wx31 hF20 hx31 ⟨as19, ns19, cs19, rfl, rfl, rfl, hs19⟩
      refine r_field (v := .agg #[.int .i64 v15.2.Kind, vs v15.2.Text, .int .i64 v15.2.N, .int .i64 v15.2.Pos]) (u := .int .i64 v15.2.N) (fun _ => by kernel_rfl) rfl rfl rfl ?_
      refine r_fieldAddr fa26_2 rfl rfl rfl ?_
      refine r_store sz3 rfl hx31 rfl rfl rfl rfl (i := 0) rfl rfl rfl rfl ?_
      intro wx32 hx32
      refine r_nil (q_then (c_region (r_move rfl rfl rfl ?_)))
      obtain ⟨v16, hv15, hb4⟩ := bind_some hb4
      refine r_callL ent29 rfl rfl rfl rfl hx32 (i := 1) rfl (ref35_Reader_need_ok _ _ _ _ hv15 hx32.sat hs19 (hx32.get (i := 1) rfl) (hx32.lendable (i := 1) rfl)) ?_
      rintro _ Fx21 _ _ wx33 hF21 hx33 ⟨as20, ns20, cs20, rfl, rfl, rfl, hs20⟩
      refine r_nil ?_
      refine q_next (fun a ha => ?_)
      cases hb4
      exact ⟨_, as20, ns20, cs20, ((hF19.trans hF20).trans hF21), hx33.pick [0, 1, 2] (by decide) rfl, hs20, ha.cut (l := [0, 2, 8, 9]) rfl⟩
     ·refine c_lit 52 rfl hb9 ?_
      refine c_false rfl (c_skip ?_)
      refine q_next (fun a ha => ?_)
      cases hb4
      exact ⟨_, as13, ns13, cs13, Frz.refl _, hx18.pick [0, 1, 2] (by decide) rfl, hs13, ha.cut (l := [0, 2, 8, 9]) rfl⟩
   ·clear hm
    rcases cond_some hb3 with ⟨hb10, hb3⟩ | ⟨hb10, hb3⟩
    ·refine c_lit 46 rfl hb10 ?_
     refine c_true rfl (c_region (r_move rfl rfl rfl ?_))
     obtain ⟨v17, hv16, hb3⟩ := bind_some hb3
     refine r_callL ent33 rfl rfl rfl rfl hx15 (i := 1) rfl (ref35_Reader_fail_ok _ _ _ _ hv16 hx15.sat (hs10.mono hF9) (hx15.get (i := 1) rfl) (hx15.lendable (i := 1) rfl)) ?_
     rintro _ Fx22 _ _ wx34 hF22 hx34 ⟨as21, ns21, cs21, rfl, rfl, rfl, hs21⟩
     refine r_nil ?_
     refine q_next (fun a ha => ?_)
     cases hb3
     exact ⟨_, as21, ns21, cs21, hF22, hx34.pick [0, 1, 2] (by decide) rfl, hs21, ha.cut (l := [0, 2, 8, 9]) rfl⟩
    ·refine c_lit 46 rfl hb10 ?_
     refine c_false rfl (c_skip ?_)
     refine q_next (fun a ha => ?_)
     cases hb3
     exact ⟨_, as10, ns10, cs10, Frz.refl _, hx15.pick [0, 1, 2] (by decide) rfl, (hs10.mono hF9), ha.cut (l := [0, 2, 8, 9]) rfl⟩
  ·clear hm
   rcases cond_some hb2 with ⟨hb11, hb2⟩ | ⟨hb11, hb2⟩
   ·refine r_lit 41 rfl hb11 ?_
    refine r_fieldAddr fa26_1 rfl rfl rfl ?_
    refine r_loadBA (cs' := [.int .i64 v7.2.Op, .int .i64 v7.2.N, vs v7.2.Name, .slice as9 ns9 cs9]) ag24 sz24 rfl rfl hx14 rfl (i := 0) rfl rfl rfl ?_
    obtain ⟨v18, hv17, hb2⟩ := bind_some hb2
    refine r_callG0 ent18 rfl rfl rfl rfl hx14 (ref35_Few_ok _ _ _ _ _ hv17 hx14.sat (hs9.mono hF8)) ?_
    rintro _ Fx23 _ wx35 hF23 hx35 ⟨rfl, rfl⟩
    refine r_not rfl rfl rfl (r_pick_true rfl rfl rfl rfl (r_nil ?_))
    refine q_next (fun a ha => ?_)
    cases hb2
    exact ⟨_, hF23, hx35.pick [0, 1, 2] (by decide) rfl, ha.cut (l := [0, 2, 8, 9, 46]) rfl⟩
   ·refine r_lit 41 rfl hb11 ?_
    refine r_off rfl (by decide) rfl (r_off rfl (by decide) rfl (r_off rfl (by decide) rfl (r_off rfl (by decide) rfl (r_pick_false rfl rfl rfl rfl (r_nil ?_)))))
    refine q_next (fun a ha => ?_)
    cases hb2
    exact ⟨_, Frz.refl _, hx14.pick [0, 1, 2] (by decide) rfl, ha.cut (l := [0, 2, 8, 9, 46]) rfl⟩
end Go.Proofs.YtpihabofmnnbbaaGreatDoor.M

