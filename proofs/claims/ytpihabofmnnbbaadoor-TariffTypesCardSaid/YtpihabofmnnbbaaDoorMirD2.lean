/-
  THE MIRRORS of the tariff's and the lexer's functions, of the references and the laws, and that each call returns what its mirror says. Printed by gen.py.
-/
import Derived.Test.YtpihabofmnnbbaaDoorRows
import Derived.Test.YtpihabofmnnbbaaDoorRtZ
import Derived.Test.YtpihabofmnnbbaaDoorExpr
import Derived.Test.YtpihabofmnnbbaaDoorExtT
import Derived.Test.YtpihabofmnnbbaaDoorMirS
namespace Go.Proofs.YtpihabofmnnbbaaDoor.M
open Go Go.RowKit Rt

theorem ent15 : Ent Tryd.prog 15 := fun _ _ => by kernel_rfl

def law35_occurs_L1 (n : Nat) (rec_law35_occurs : Expr → Int → Bs → Option Bool) (x1 : Expr) (op1 : Int) (name1 : Bs) (kont1 : Option Bool) : Nat → Int → Option Bool
 | 0, _ => none
 | mx1 + 1, i1 =>
  bif decide (i1 < (x1.Args.length : Int)) then
   (ix x1.Args i1).bind fun ex1 =>
   (rec_law35_occurs ex1 op1 name1).bind fun v2 =>
   bif v2 then
    some true
   else
    law35_occurs_L1 n rec_law35_occurs x1 op1 name1 kont1 mx1 (iadd .i64 i1 1)
  else
   kont1

theorem law35_occurs_L1_s (n : Nat) (rec_law35_occurs : Expr → Int → Bs → Option Bool) (x1 : Expr) (op1 : Int) (name1 : Bs) (kont1 : Option Bool) (mx1 : Nat) (i1 : Int) : law35_occurs_L1 n rec_law35_occurs x1 op1 name1 kont1 (mx1 + 1) i1 =
  bif decide (i1 < (x1.Args.length : Int)) then
   (ix x1.Args i1).bind fun ex1 =>
   (rec_law35_occurs ex1 op1 name1).bind fun v2 =>
   bif v2 then
    some true
   else
    law35_occurs_L1 n rec_law35_occurs x1 op1 name1 kont1 mx1 (iadd .i64 i1 1)
  else
   kont1 := rfl

def law35_occurs : Nat → Expr → Int → Bs → Option Bool
 | 0, _, _, _ => none
 | n + 1, x1, op1, name1 =>
  (bif x1.Op == op1 then
   (bif name1 == [] then
    some true
   else
    some (x1.Name == name1)).bind fun v3 =>
   some v3
  else
   some false).bind fun v1 =>
  bif v1 then
   some true
  else
   law35_occurs_L1 n (law35_occurs n) x1 op1 name1 (
    some false) n 0

theorem law35_occurs_s (n : Nat) (x1 : Expr) (op1 : Int) (name1 : Bs) : law35_occurs (n + 1) x1 op1 name1 =
  (bif x1.Op == op1 then
   (bif name1 == [] then
    some true
   else
    some (x1.Name == name1)).bind fun v3 =>
   some v3
  else
   some false).bind fun v1 =>
  bif v1 then
   some true
  else
   law35_occurs_L1 n (law35_occurs n) x1 op1 name1 (
    some false) n 0 := rfl

set_option maxHeartbeats 1000000 in
set_option maxRecDepth 1000000 in
theorem law35_occurs_all (n : Nat) : (∀ (x1 : Expr) (op1 : Int) (name1 : Bs) (r : Bool) (_ : law35_occurs n x1 op1 name1 = some r) {w : World} {F : Frz} (_ : Sat F w) {as1 : Option Addr} {ns1 : Nat} {cs1 : Nat} (_ : SlR rp_Expr F as1 ns1 cs1 x1.Args), Calls Tryd.prog 15 #[.agg #[.int .i64 x1.Op, .int .i64 x1.N, vs x1.Name, .slice as1 ns1 cs1], .int .i64 op1, vs name1] w fun e w' => ∃ v F' O', e = .returned v ∧ HS F w [] F' O' w' ∧ (v = .bool r ∧ O' = [])) := by
 induction n with
 | zero =>
  ·intro x1 op1 name1 r hm
   exact absurd (show (none : Option Bool) = some r from hm) (by simp)
 | succ n ih =>
  ·intro x1 op1 name1 r hm w F hs as1 ns1 cs1 hs1
   rw [law35_occurs_s] at hm
   have h := HS.init hs
   refine calls_of 37 Tryd.func15 rfl rfl rfl ?_
   refine c_seq (c_region ?_)
   refine r_box rfl rfl rfl rfl h ?_
   intro b1 wx1 hx1
   refine r_assign rfl rfl rfl (r_nil (q_then (c_seq (c_seq (c_region ?_)))))
   refine r_fieldAddr fa24_0 rfl rfl rfl ?_
   refine r_loadB1 ag3 rfl rfl hx1 rfl (i := 0) rfl rfl ?_
   refine r_move rfl rfl rfl ?_
   refine r_bin rfl rfl rfl rfl rfl ?_
   refine r_move rfl rfl rfl ?_
   obtain ⟨v1, hb1, hm⟩ := bind_some hm
   refine r_mid 9 (fun a w' => wx1 = w' ∧ Has 37 a [(1, .int .i64 op1), (2, vs name1), (3, .pointer (some ⟨b1, 0, none⟩)), (21, .bool v1)]) ?_ ?_
   ·rintro a wx2 ⟨rfl, hax1⟩
    refine rw_apply hax1 ?_
    refine r_nil (q_then ?_)
    rcases cond_some hm with ⟨hb2, hm⟩ | ⟨hb2, hm⟩
    ·refine c_lit 21 rfl hb2 ?_
     refine c_true rfl (c_seq (c_region (r_assign rfl rfl rfl (r_nil (q_then (c_ret (q_then_ret ?_)))))))
     refine b_ret1 rfl rfl ?_
     obtain rfl := Option.some.inj hm
     exact ⟨_, _, _, rfl, hx1.pick [] (by decide) rfl, rfl, rfl⟩
    ·refine c_lit 21 rfl hb2 ?_
     refine c_false rfl (c_skip (q_then (c_seq (c_seq (c_region (r_assign rfl rfl rfl (r_nil (q_then (c_block ?_)))))))))
     intro a hax4
     obtain ⟨kont1, hkont1⟩ : ∃ kont1 : Option Bool, kont1 = (
       some false) := ⟨_, rfl⟩
     replace hm : (fun m (s : Int) => law35_occurs_L1 n (law35_occurs n) x1 op1 name1 kont1 m s) n 0 = some r := by rw [hkont1]; exact hm
     refine loopX (id := 0) (fun m (s : Int) => law35_occurs_L1 n (law35_occurs n) x1 op1 name1 kont1 m s) (fun (y : Unit) => kont1) r (fun (s : Int) a w' => ∃ (Fx1 : Frz), Frz.le F Fx1 ∧ HS F w [] Fx1 [.box b1 24 [.int .i64 x1.Op, .int .i64 x1.N, vs x1.Name, .slice as1 ns1 cs1]] w' ∧ Has 37 a [(1, .int .i64 op1), (2, vs name1), (3, .pointer (some ⟨b1, 0, none⟩)), (7, .int .i64 s)]) (fun (y : Unit) a w' => ∃ (Fx2 : Frz), Frz.le F Fx2 ∧ HS F w [] Fx2 [] w' ∧ Has 37 a []) (fun _ => rfl) ?_ ?_ hm ⟨_, Frz.refl _, hx1.pick [0] (by decide) rfl, hax4.cut (l := [1, 2, 3, 7]) rfl⟩
     ·clear hm; rintro _u a wx3 hm ⟨Fx2, hF2, hx3, hax2⟩
      rw [hkont1] at hm
      refine qw_apply (e := .exit 0) hax2 ?_
      refine q_block_hit (q_then (c_seq (c_region (r_assign rfl rfl rfl (r_nil (q_then (c_ret ?_)))))))
      refine b_ret1 rfl rfl ?_
      obtain rfl := Option.some.inj hm
      exact ⟨_, _, _, rfl, hx3.pick [] (by decide) rfl, rfl, rfl⟩
     ·clear hm hkont1; intro hk1 mx1 K ihx1
      rintro i1 a wx4 hm ⟨Fx1, hF1, hx2, hax3⟩
      simp only [law35_occurs_L1_s] at hm
      refine cw_apply hax3 ?_
      refine c_seq (c_seq (c_region (r_move rfl rfl rfl ?_)))
      refine r_fieldAddr fa24_3 rfl rfl rfl ?_
      refine r_loadB1 ag22 rfl rfl hx2 rfl (i := 0) rfl rfl ?_
      refine r_lenS hs1.len u22 rfl rfl rfl ?_
      refine r_bin rfl rfl rfl rfl rfl ?_
      refine r_nil (q_then ?_)
      rcases cond_some hm with ⟨hb3, hm⟩ | ⟨hb3, hm⟩
      ·refine c_lit 26 rfl hb3 ?_
       refine c_true rfl (c_skip (q_then (c_seq (c_block (c_seq (c_region ?_))))))
       refine r_fieldAddr fa24_3 rfl rfl rfl ?_
       refine r_loadB1 ag22 rfl rfl hx2 rfl (i := 0) rfl rfl ?_
       refine r_move rfl rfl rfl ?_
       obtain ⟨ex1, he1, hm⟩ := bind_some hm
       refine r_findex (r := rp_Expr) u22 sz24 rfl rfl rfl rfl (hs1.mono hF1) he1 ?_
       intro b2 o1 cs1 hf1 hr1
       obtain ⟨as2, ns2, cs2, hc1, hs2⟩ := expr_iff.1 hr1
       subst hc1
       refine r_loadFW ag24 sz24 rfl rfl hx2 hf1 rfl rfl ?_
       refine r_move rfl rfl rfl (r_move rfl rfl rfl ?_)
       obtain ⟨v2, hv1, hm⟩ := bind_some hm
       refine r_callG0 ent15 rfl rfl rfl rfl hx2 (ih _ _ _ _ hv1 hx2.sat hs2) ?_
       rintro _ Fx3 _ wx5 hF3 hx4 ⟨rfl, rfl⟩
       refine r_nil (q_then ?_)
       rcases cond_some hm with ⟨hb4, hm⟩ | ⟨hb4, hm⟩
       ·refine c_lit 36 rfl hb4 ?_
        refine c_true rfl (c_seq (c_region (r_assign rfl rfl rfl (r_nil (q_then (c_ret (q_block_ret (q_then_ret (q_then_ret (q_block_ret (q_then_ret ?_)))))))))))
        refine b_ret1 rfl rfl ?_
        obtain rfl := Option.some.inj hm
        exact ⟨_, _, _, rfl, hx4.pick [] (by decide) rfl, rfl, rfl⟩
       ·refine c_lit 36 rfl hb4 ?_
        refine c_false rfl (c_skip (q_block (q_then (c_region (r_move rfl rfl rfl ?_)))))
        refine r_bin rfl rfl rfl rfl rfl ?_
        refine r_assign rfl rfl rfl (r_nil ?_)
        refine q_next (fun a ha => ihx1 (iadd .i64 i1 1) a _ hm ?_)
        exact ⟨_, (hF1.trans hF3), hx4.pick [0] (by decide) rfl, ha.cut (l := [1, 2, 3, 7]) rfl⟩
      ·refine c_lit 26 rfl hb3 ?_
       refine c_false rfl (c_exit (q_then_exit (q_then_exit ?_)))
       refine fun a ha => hk1 () a _ hm ?_
       exact ⟨_, hF1, hx2.pick [] (by decide) rfl, ha.cut (l := []) rfl⟩
   ·clear hm
    rcases cond_some hb1 with ⟨hb5, hb1⟩ | ⟨hb5, hb1⟩
    ·refine r_lit 12 rfl hb5 ?_
     refine r_move rfl rfl rfl ?_
     refine r_str rfl rfl rfl rfl rfl ?_
     refine r_move rfl rfl rfl ?_
     obtain ⟨v3, hb6, hb1⟩ := bind_some hb1
     refine r_mid 5 (fun a w' => wx1 = w' ∧ Has 37 a [(1, .int .i64 op1), (2, vs name1), (3, .pointer (some ⟨b1, 0, none⟩)), (12, .bool true), (20, .bool v3)]) ?_ ?_
     ·rintro a wx6 ⟨rfl, hax5⟩
      refine rw_apply hax5 ?_
      refine r_pick_true rfl rfl rfl rfl (r_nil ?_)
      refine q_next (fun a ha => ?_)
      cases hb1
      exact ⟨rfl, ha.cut (l := [1, 2, 3, 21]) rfl⟩
     ·clear hb1
      rcases cond_some hb6 with ⟨hb7, hb6⟩ | ⟨hb7, hb6⟩
      ·refine r_lit 15 rfl hb7 ?_
       refine r_off rfl (by decide) rfl (r_off rfl (by decide) rfl (r_off rfl (by decide) rfl (r_off rfl (by decide) rfl (r_pick_true rfl rfl rfl rfl (r_nil ?_)))))
       refine q_next (fun a ha => ?_)
       cases hb6
       exact ⟨rfl, ha.cut (l := [1, 2, 3, 12, 20]) rfl⟩
      ·refine r_lit 15 rfl hb7 ?_
       refine r_fieldAddr fa24_2 rfl rfl rfl ?_
       refine r_loadB1 ag9 rfl rfl hx1 rfl (i := 0) rfl rfl ?_
       refine r_move rfl rfl rfl ?_
       refine r_str rfl rfl rfl rfl rfl ?_
       refine r_pick_false rfl rfl rfl rfl (r_nil ?_)
       refine q_next (fun a ha => ?_)
       cases hb6
       exact ⟨rfl, ha.cut (l := [1, 2, 3, 12, 20]) rfl⟩
    ·refine r_lit 12 rfl hb5 ?_
     refine r_off rfl (by decide) rfl (r_off rfl (by decide) rfl (r_off rfl (by decide) rfl (r_off rfl (by decide) rfl (r_off rfl (by decide) rfl (r_off rfl (by decide) rfl (r_off rfl (by decide) rfl (r_off rfl (by decide) rfl (r_pick_false rfl rfl rfl rfl (r_nil ?_)))))))))
     refine q_next (fun a ha => ?_)
     cases hb1
     exact ⟨rfl, ha.cut (l := [1, 2, 3, 21]) rfl⟩

theorem law35_occurs_ok (n : Nat) (x1 : Expr) (op1 : Int) (name1 : Bs) (r : Bool) (hm : law35_occurs n x1 op1 name1 = some r) {w : World} {F : Frz} (hs : Sat F w) {as1 : Option Addr} {ns1 : Nat} {cs1 : Nat} (hs1 : SlR rp_Expr F as1 ns1 cs1 x1.Args) :
  Calls Tryd.prog 15 #[.agg #[.int .i64 x1.Op, .int .i64 x1.N, vs x1.Name, .slice as1 ns1 cs1], .int .i64 op1, vs name1] w fun e w' => ∃ v F' O', e = .returned v ∧ HS F w [] F' O' w' ∧ (v = .bool r ∧ O' = []) :=
 (law35_occurs_all n) x1 op1 name1 r hm hs hs1


theorem ent7 : Ent Tryd.prog 7 := fun _ _ => by kernel_rfl

theorem ent8 : Ent Tryd.prog 8 := fun _ _ => by kernel_rfl

theorem u4 : Tryd.prog.underlying 4 = some .bool := by kernel_rfl

theorem ap36 : AppIs Tryd.prog 36 9 1 16 := AppIs.of (z := vs []) (by kernel_rfl) (by kernel_rfl) rfl (by decide) (by decide)

theorem ent12 : Ent Tryd.prog 12 := fun _ _ => by kernel_rfl

def law35_TariffTypes_L1 (n : Nat) (t1 : Tariff) (names1 : (List Bs)) (kont1 : Option Bool) : Nat → Int → Option Bool
 | 0, _ => none
 | mx1 + 1, i1 =>
  bif decide (i1 < (names1.length : Int)) then
   (lsl names1 0 i1).bind fun l1 =>
   (lsl names1 (iadd .i64 i1 1) names1.length).bind fun l2 =>
   (app 16 [] l1).bind fun l3 =>
   (app 16 l3 l2).bind fun l4 =>
   (tariff_Type n t1.Fee l4).bind fun v16 =>
   (ix names1 i1).bind fun ex1 =>
   (law35_occurs n t1.Fee 4 ex1).bind fun v17 =>
   (bif v17 then
    some true
   else
    (ix names1 i1).bind fun ex2 =>
    (law35_occurs n t1.Fee 1 ex2).bind fun v21 =>
    some v21).bind fun v18 =>
   (bif !(v18 == (v16.2 == 11)) then
    some true
   else
    (bif !v18 then
     some (v16.2 != 0)
    else
     some false).bind fun v20 =>
    some v20).bind fun v19 =>
   bif v19 then
    some false
   else
    law35_TariffTypes_L1 n t1 names1 kont1 mx1 (iadd .i64 i1 1)
  else
   kont1

theorem law35_TariffTypes_L1_s (n : Nat) (t1 : Tariff) (names1 : (List Bs)) (kont1 : Option Bool) (mx1 : Nat) (i1 : Int) : law35_TariffTypes_L1 n t1 names1 kont1 (mx1 + 1) i1 =
  bif decide (i1 < (names1.length : Int)) then
   (lsl names1 0 i1).bind fun l1 =>
   (lsl names1 (iadd .i64 i1 1) names1.length).bind fun l2 =>
   (app 16 [] l1).bind fun l3 =>
   (app 16 l3 l2).bind fun l4 =>
   (tariff_Type n t1.Fee l4).bind fun v16 =>
   (ix names1 i1).bind fun ex1 =>
   (law35_occurs n t1.Fee 4 ex1).bind fun v17 =>
   (bif v17 then
    some true
   else
    (ix names1 i1).bind fun ex2 =>
    (law35_occurs n t1.Fee 1 ex2).bind fun v21 =>
    some v21).bind fun v18 =>
   (bif !(v18 == (v16.2 == 11)) then
    some true
   else
    (bif !v18 then
     some (v16.2 != 0)
    else
     some false).bind fun v20 =>
    some v20).bind fun v19 =>
   bif v19 then
    some false
   else
    law35_TariffTypes_L1 n t1 names1 kont1 mx1 (iadd .i64 i1 1)
  else
   kont1 := rfl

def law35_TariffTypes (n : Nat) (t1 : Tariff) (names1 : (List Bs)) (more1 : Bs) : Option Bool :=
 (law35_small n).bind fun v1 =>
 (law35_limited n t1).bind fun v2 =>
 (bif !v2 then
  some true
 else
  (law35_few n names1).bind fun v27 =>
  some (!v27)).bind fun v3 =>
 (bif v3 then
  some true
 else
  some (decide (60 < (more1.length : Int)))).bind fun v4 =>
 bif v4 then
  some v1
 else
  (tariff_Type n t1.Fee names1).bind fun v5 =>
  (tariff_Print n t1).bind fun v6 =>
  bif v5.2 != 0 then
   (bif v1 then
    some (v5.1 == 0)
   else
    some false).bind fun v7 =>
   (bif v7 then
    (tariff_Check n t1 names1).bind fun v9 =>
    some (v9 != 0)
   else
    some false).bind fun v8 =>
   some v8
  else
   (bif v5.1 != 0 then
    (law35_occurs n t1.Fee 4 []).bind fun v26 =>
    some v26
   else
    some false).bind fun v10 =>
   (bif !((v5.1 == 2) == v10) then
    some true
   else
    some (decide (v5.1 < 0))).bind fun v11 =>
   (bif v11 then
    some true
   else
    some (decide (3 ≤ v5.1))).bind fun v12 =>
   (bif v12 then
    some true
   else
    (tariff_Check n t1 names1).bind fun v24 =>
    (bif v6.2 then
     some (v5.1 != 0)
    else
     some false).bind fun v25 =>
    some (!((v24 == 0) == v25))).bind fun v13 =>
   bif v13 then
    some false
   else
    ((app 16 [] names1).bind fun l5 =>
    (app 16 l5 [more1]).bind fun l6 =>
    (tariff_Type n t1.Fee l6).bind fun v23 =>
    some (v23.1, v23.2)).bind fun (nx1, f1) =>
    (bif f1 == 0 then
     some (nx1 != v5.1)
    else
     some false).bind fun v14 =>
    (bif v14 then
     some true
    else
     (bif f1 != 0 then
      some (f1 != 1)
     else
      some false).bind fun v22 =>
     some v22).bind fun v15 =>
    bif v15 then
     some false
    else
     law35_TariffTypes_L1 n t1 names1 (
      some v1) n 0

set_option maxHeartbeats 1000000 in
set_option maxRecDepth 1000000 in
theorem law35_TariffTypes_ok (n : Nat) (t1 : Tariff) (names1 : (List Bs)) (more1 : Bs) (r : Bool) (hm : law35_TariffTypes n t1 names1 more1 = some r) {w : World} {F : Frz} (hs : Sat F w) {as1 : Option Addr} {ns1 : Nat} {cs1 : Nat} {as2 : Option Addr} {ns2 : Nat} {cs2 : Nat} (hs1 : SlR rp_Expr F as1 ns1 cs1 t1.Fee.Args) (hs2 : SlR Rp.str F as2 ns2 cs2 names1) (hg0 : FX F 0 [.int .u8 40, .int .u8 41, .int .u8 44, .int .u8 59, .int .u8 58, .int .u8 61, .int .u8 60, .int .u8 43, .int .u8 45, .int .u8 42, .int .u8 47, .int .u8 123, .int .u8 125]) (hg1 : FX F 1 (Lib.pow10Tab.map (Value.int .u64))) :
  Calls Tryd.prog 4 #[.agg #[vs t1.Name, .int .i64 t1.Fee.Op, .int .i64 t1.Fee.N, vs t1.Fee.Name, .slice as1 ns1 cs1, .int .i64 t1.Cap], .slice as2 ns2 cs2, vs more1] w fun e w' => ∃ v F' O', e = .returned v ∧ HS F w [] F' O' w' ∧ (v = .bool r ∧ O' = []) := by
 unfold law35_TariffTypes at hm
 have h := HS.init hs
 refine calls_of 166 Tryd.func4 rfl rfl rfl ?_
 refine c_seq (c_region ?_)
 refine r_box rfl rfl rfl rfl h ?_
 intro b1 wx1 hx1
 refine r_assign rfl rfl rfl (r_nil (q_then (c_seq (c_region ?_))))
 obtain ⟨v1, hv1, hm⟩ := bind_some hm
 refine r_callG0 ent7 rfl rfl rfl rfl hx1 (law35_small_ok _ _ hv1 hx1.sat hg0 hg1) ?_
 rintro _ Fx1 _ wx2 hF1 hx2 ⟨rfl, rfl⟩
 refine r_assign rfl rfl rfl (r_nil (q_then (c_seq (c_seq (c_region ?_)))))
 refine r_loadBW ag26 sz26 rfl rfl hx2 rfl (i := 0) rfl rfl ?_
 obtain ⟨v2, hv2, hm⟩ := bind_some hm
 refine r_callG0 ent8 rfl rfl rfl rfl hx2 (law35_limited_ok _ _ _ hv2 hx2.sat (hs1.mono hF1)) ?_
 rintro _ Fx2 _ wx3 hF2 hx3 ⟨rfl, rfl⟩
 refine r_not rfl rfl rfl (r_move rfl rfl rfl ?_)
 obtain ⟨v3, hb1, hm⟩ := bind_some hm
 refine r_mid 4 (fun a w' => wx3 = w' ∧ Has 166 a [(1, .slice as2 ns2 cs2), (2, vs more1), (3, .pointer (some ⟨b1, 0, none⟩)), (7, .bool v1), (26, .bool v3)]) ?_ ?_
 ·rintro a wx4 ⟨rfl, hax1⟩
  refine rw_apply hax1 ?_
  refine r_move rfl rfl rfl ?_
  obtain ⟨v4, hb2, hm⟩ := bind_some hm
  refine r_mid 4 (fun a w' => wx3 = w' ∧ Has 166 a [(1, .slice as2 ns2 cs2), (2, vs more1), (3, .pointer (some ⟨b1, 0, none⟩)), (7, .bool v1), (31, .bool v4)]) ?_ ?_
  ·rintro a wx5 ⟨rfl, hax2⟩
   refine rw_apply hax2 ?_
   refine r_nil (q_then ?_)
   rcases cond_some hm with ⟨hb3, hm⟩ | ⟨hb3, hm⟩
   ·refine c_lit 31 rfl hb3 ?_
    refine c_true rfl (c_seq (c_region (r_move rfl rfl rfl (r_assign rfl rfl rfl (r_nil (q_then (c_ret (q_then_ret ?_))))))))
    refine b_ret1 rfl rfl ?_
    obtain rfl := Option.some.inj hm
    exact ⟨_, _, _, rfl, hx3.pick [] (by decide) rfl, rfl, rfl⟩
   ·refine c_lit 31 rfl hb3 ?_
    refine c_false rfl (c_skip (q_then (c_seq (c_region ?_))))
    refine r_fieldAddr fa26_1 rfl rfl rfl ?_
    refine r_loadBA (cs' := [.int .i64 t1.Fee.Op, .int .i64 t1.Fee.N, vs t1.Fee.Name, .slice as1 ns1 cs1]) ag24 sz24 rfl rfl hx3 rfl (i := 0) rfl rfl rfl ?_
    refine r_move rfl rfl rfl ?_
    obtain ⟨v5, hv3, hm⟩ := bind_some hm
    refine r_callG0 ent13 rfl rfl rfl rfl hx3 (tariff_Type_ok _ _ _ _ hv3 hx3.sat ((hs1.mono hF1).mono hF2) ((hs2.mono hF1).mono hF2)) ?_
    rintro _ Fx3 _ wx6 hF3 hx4 ⟨rfl, rfl⟩
    refine r_move rfl rfl rfl (r_extract rfl rfl rfl rfl (r_extract rfl rfl rfl rfl (r_assign rfl rfl rfl (r_assign rfl rfl rfl (r_nil (q_then (c_seq (c_region ?_))))))))
    refine r_loadBW ag26 sz26 rfl rfl hx4 rfl (i := 0) rfl rfl ?_
    obtain ⟨v6, hv4, hm⟩ := bind_some hm
    refine r_callG0 ent9 rfl rfl rfl rfl hx4 (tariff_Print_ok _ _ _ hv4 hx4.sat (((hs1.mono hF1).mono hF2).mono hF3) (((hg1.mono hF1).mono hF2).mono hF3)) ?_
    rintro _ Fx4 _ wx7 hF4 hx5 ⟨rfl, rfl⟩
    refine r_move rfl rfl rfl (r_extract rfl rfl rfl rfl (r_extract rfl rfl rfl rfl (r_assign rfl rfl rfl (r_assign rfl rfl rfl (r_nil (q_then (c_seq (c_seq (c_region (r_move rfl rfl rfl ?_))))))))))
    refine r_bin rfl rfl rfl rfl rfl ?_
    refine r_nil (q_then ?_)
    rcases cond_some hm with ⟨hb4, hm⟩ | ⟨hb4, hm⟩
    ·refine c_lit 46 rfl hb4 ?_
     refine c_true rfl (c_seq (c_region (r_move rfl rfl rfl (r_move rfl rfl rfl ?_))))
     obtain ⟨v7, hb5, hm⟩ := bind_some hm
     refine r_mid 3 (fun a w' => wx7 = w' ∧ Has 166 a [(1, .slice as2 ns2 cs2), (3, .pointer (some ⟨b1, 0, none⟩)), (51, .bool v7)]) ?_ ?_
     ·rintro a wx8 ⟨rfl, hax3⟩
      refine rw_apply hax3 ?_
      refine r_move rfl rfl rfl ?_
      obtain ⟨v8, hb6, hm⟩ := bind_some hm
      refine r_mid 5 (fun a w' => ∃ (Fx5 : Frz), Frz.le Fx4 Fx5 ∧ HS F w [] Fx5 [.box b1 26 [vs t1.Name, .int .i64 t1.Fee.Op, .int .i64 t1.Fee.N, vs t1.Fee.Name, .slice as1 ns1 cs1, .int .i64 t1.Cap]] w' ∧ Has 166 a [(57, .bool v8)]) ?_ ?_
      ·rintro a wx9 ⟨Fx5, hF5, hx6, hax4⟩
       refine rw_apply hax4 ?_
       refine r_assign rfl rfl rfl (r_nil (q_then (c_ret (q_then_ret ?_))))
       refine b_ret1 rfl rfl ?_
       obtain rfl := Option.some.inj hm
       exact ⟨_, _, _, rfl, hx6.pick [] (by decide) rfl, rfl, rfl⟩
      ·clear hm
       rcases cond_some hb6 with ⟨hb7, hb6⟩ | ⟨hb7, hb6⟩
       ·refine r_lit 52 rfl hb7 ?_
        refine r_loadBW ag26 sz26 rfl rfl hx5 rfl (i := 0) rfl rfl ?_
        refine r_move rfl rfl rfl ?_
        have hG1 := ((hF1.trans hF2).trans hF3).trans hF4
        obtain ⟨v9, hv5, hb6⟩ := bind_some hb6
        refine r_callG0 ent14 rfl rfl rfl rfl hx5 (tariff_Check_ok _ _ _ _ hv5 hx5.sat (hs1.mono hG1) (hs2.mono hG1)) ?_
        rintro _ Fx6 _ wx10 hF6 hx7 ⟨rfl, rfl⟩
        refine r_bin rfl rfl rfl rfl rfl ?_
        refine r_pick_true rfl rfl rfl rfl (r_nil ?_)
        refine q_next (fun a ha => ?_)
        cases hb6
        exact ⟨_, hF6, hx7.pick [0] (by decide) rfl, ha.cut (l := [57]) rfl⟩
       ·refine r_lit 52 rfl hb7 ?_
        refine r_off rfl (by decide) rfl (r_off rfl (by decide) rfl (r_off rfl (by decide) rfl (r_off rfl (by decide) rfl (r_pick_false rfl rfl rfl rfl (r_nil ?_)))))
        refine q_next (fun a ha => ?_)
        cases hb6
        exact ⟨_, Frz.refl _, hx5.pick [0] (by decide) rfl, ha.cut (l := [57]) rfl⟩
     ·clear hm
      rcases cond_some hb5 with ⟨hb8, hb5⟩ | ⟨hb8, hb5⟩
      ·refine r_lit 48 rfl hb8 ?_
       refine r_move rfl rfl rfl ?_
       refine r_bin rfl rfl rfl rfl rfl ?_
       refine r_pick_true rfl rfl rfl rfl (r_nil ?_)
       refine q_next (fun a ha => ?_)
       cases hb5
       exact ⟨rfl, ha.cut (l := [1, 3, 51]) rfl⟩
      ·refine r_lit 48 rfl hb8 ?_
       refine r_off rfl (by decide) rfl (r_off rfl (by decide) rfl (r_pick_false rfl rfl rfl rfl (r_nil ?_)))
       refine q_next (fun a ha => ?_)
       cases hb5
       exact ⟨rfl, ha.cut (l := [1, 3, 51]) rfl⟩
    ·refine c_lit 46 rfl hb4 ?_
     refine c_false rfl (c_skip (q_then (c_seq (c_seq (c_region (r_move rfl rfl rfl ?_))))))
     refine r_bin rfl rfl rfl rfl rfl ?_
     refine r_move rfl rfl rfl ?_
     refine r_bin rfl rfl rfl rfl rfl ?_
     refine r_move rfl rfl rfl ?_
     obtain ⟨v10, hb9, hm⟩ := bind_some hm
     refine r_mid 4 (fun a w' => ∃ (Fx7 : Frz), Frz.le Fx4 Fx7 ∧ HS F w [] Fx7 [.box b1 26 [vs t1.Name, .int .i64 t1.Fee.Op, .int .i64 t1.Fee.N, vs t1.Fee.Name, .slice as1 ns1 cs1, .int .i64 t1.Cap]] w' ∧ Has 166 a [(1, .slice as2 ns2 cs2), (2, vs more1), (3, .pointer (some ⟨b1, 0, none⟩)), (7, .bool v1), (8, .int .i64 v5.1), (11, .bool v6.2), (59, .bool (v5.1 == 2)), (66, .bool v10)]) ?_ ?_
     ·rintro a wx11 ⟨Fx7, hF7, hx8, hax5⟩
      refine rw_apply hax5 ?_
      refine r_bne u4 rfl rfl rfl rfl ?_
      refine r_move rfl rfl rfl ?_
      obtain ⟨v11, hb10, hm⟩ := bind_some hm
      refine r_mid 3 (fun a w' => wx11 = w' ∧ Has 166 a [(1, .slice as2 ns2 cs2), (2, vs more1), (3, .pointer (some ⟨b1, 0, none⟩)), (7, .bool v1), (8, .int .i64 v5.1), (11, .bool v6.2), (71, .bool v11)]) ?_ ?_
      ·rintro a wx12 ⟨rfl, hax6⟩
       refine rw_apply hax6 ?_
       refine r_move rfl rfl rfl ?_
       obtain ⟨v12, hb11, hm⟩ := bind_some hm
       refine r_mid 3 (fun a w' => wx11 = w' ∧ Has 166 a [(1, .slice as2 ns2 cs2), (2, vs more1), (3, .pointer (some ⟨b1, 0, none⟩)), (7, .bool v1), (8, .int .i64 v5.1), (11, .bool v6.2), (75, .bool v12)]) ?_ ?_
       ·rintro a wx13 ⟨rfl, hax7⟩
        refine rw_apply hax7 ?_
        refine r_move rfl rfl rfl ?_
        obtain ⟨v13, hb12, hm⟩ := bind_some hm
        refine r_mid 11 (fun a w' => ∃ (Fx8 : Frz), Frz.le Fx7 Fx8 ∧ HS F w [] Fx8 [.box b1 26 [vs t1.Name, .int .i64 t1.Fee.Op, .int .i64 t1.Fee.N, vs t1.Fee.Name, .slice as1 ns1 cs1, .int .i64 t1.Cap]] w' ∧ Has 166 a [(1, .slice as2 ns2 cs2), (2, vs more1), (3, .pointer (some ⟨b1, 0, none⟩)), (7, .bool v1), (8, .int .i64 v5.1), (87, .bool v13)]) ?_ ?_
        ·rintro a wx14 ⟨Fx8, hF8, hx9, hax8⟩
         refine rw_apply hax8 ?_
         refine r_nil (q_then ?_)
         rcases cond_some hm with ⟨hb13, hm⟩ | ⟨hb13, hm⟩
         ·refine c_lit 87 rfl hb13 ?_
          refine c_true rfl (c_seq (c_region (r_assign rfl rfl rfl (r_nil (q_then (c_ret (q_then_ret ?_)))))))
          refine b_ret1 rfl rfl ?_
          obtain rfl := Option.some.inj hm
          exact ⟨_, _, _, rfl, hx9.pick [] (by decide) rfl, rfl, rfl⟩
         ·refine c_lit 87 rfl hb13 ?_
          refine c_false rfl (c_skip (q_then ?_))
          obtain ⟨⟨nx1, f1⟩, hb14, hm⟩ := bind_some hm
          refine c_mid (fun a w' => ∃ (Fx9 : Frz), Frz.le Fx8 Fx9 ∧ HS F w [] Fx9 [.box b1 26 [vs t1.Name, .int .i64 t1.Fee.Op, .int .i64 t1.Fee.N, vs t1.Fee.Name, .slice as1 ns1 cs1, .int .i64 t1.Cap]] w' ∧ Has 166 a [(1, .slice as2 ns2 cs2), (3, .pointer (some ⟨b1, 0, none⟩)), (7, .bool v1), (8, .int .i64 v5.1), (12, .int .i64 nx1), (13, .int .i64 f1)]) ?_ ?_
          ·rintro a wx15 ⟨Fx9, hF9, hx10, hax9⟩
           refine cw_apply hax9 ?_
           refine c_seq (c_seq (c_region (r_move rfl rfl rfl ?_)))
           refine r_bin rfl rfl rfl rfl rfl ?_
           refine r_move rfl rfl rfl ?_
           obtain ⟨v14, hb15, hm⟩ := bind_some hm
           refine r_mid 4 (fun a w' => wx15 = w' ∧ Has 166 a [(1, .slice as2 ns2 cs2), (3, .pointer (some ⟨b1, 0, none⟩)), (7, .bool v1), (13, .int .i64 f1), (106, .bool v14)]) ?_ ?_
           ·rintro a wx16 ⟨rfl, hax10⟩
            refine rw_apply hax10 ?_
            refine r_move rfl rfl rfl ?_
            obtain ⟨v15, hb16, hm⟩ := bind_some hm
            refine r_mid 7 (fun a w' => wx15 = w' ∧ Has 166 a [(1, .slice as2 ns2 cs2), (3, .pointer (some ⟨b1, 0, none⟩)), (7, .bool v1), (114, .bool v15)]) ?_ ?_
            ·rintro a wx17 ⟨rfl, hax11⟩
             refine rw_apply hax11 ?_
             refine r_nil (q_then ?_)
             rcases cond_some hm with ⟨hb17, hm⟩ | ⟨hb17, hm⟩
             ·refine c_lit 114 rfl hb17 ?_
              refine c_true rfl (c_seq (c_region (r_assign rfl rfl rfl (r_nil (q_then (c_ret (q_then_ret ?_)))))))
              refine b_ret1 rfl rfl ?_
              obtain rfl := Option.some.inj hm
              exact ⟨_, _, _, rfl, hx10.pick [] (by decide) rfl, rfl, rfl⟩
             ·refine c_lit 114 rfl hb17 ?_
              refine c_false rfl (c_skip (q_then (c_seq (c_seq (c_region (r_assign rfl rfl rfl (r_nil (q_then (c_block ?_)))))))))
              intro a hax17
              obtain ⟨kont1, hkont1⟩ : ∃ kont1 : Option Bool, kont1 = (
       some v1) := ⟨_, rfl⟩
              replace hm : (fun m (s : Int) => law35_TariffTypes_L1 n t1 names1 kont1 m s) n 0 = some r := by rw [hkont1]; exact hm
              refine loopX (id := 0) (fun m (s : Int) => law35_TariffTypes_L1 n t1 names1 kont1 m s) (fun (y : Unit) => kont1) r (fun (s : Int) a w' => ∃ (Fx10 : Frz), Frz.le Fx9 Fx10 ∧ HS F w [] Fx10 [.box b1 26 [vs t1.Name, .int .i64 t1.Fee.Op, .int .i64 t1.Fee.N, vs t1.Fee.Name, .slice as1 ns1 cs1, .int .i64 t1.Cap]] w' ∧ Has 166 a [(1, .slice as2 ns2 cs2), (3, .pointer (some ⟨b1, 0, none⟩)), (7, .bool v1), (14, .int .i64 s)]) (fun (y : Unit) a w' => ∃ (Fx11 : Frz), Frz.le Fx9 Fx11 ∧ HS F w [] Fx11 [] w' ∧ Has 166 a [(7, .bool v1)]) (fun _ => rfl) ?_ ?_ hm ⟨_, Frz.refl _, hx10.pick [0] (by decide) rfl, hax17.cut (l := [1, 3, 7, 14]) rfl⟩
              ·clear hm; rintro _u a wx18 hm ⟨Fx11, hF11, hx12, hax12⟩
               rw [hkont1] at hm
               refine qw_apply (e := .exit 0) hax12 ?_
               refine q_block_hit (q_then (c_seq (c_region (r_move rfl rfl rfl (r_assign rfl rfl rfl (r_nil (q_then (c_ret ?_))))))))
               refine b_ret1 rfl rfl ?_
               obtain rfl := Option.some.inj hm
               exact ⟨_, _, _, rfl, hx12.pick [] (by decide) rfl, rfl, rfl⟩
              ·clear hm hkont1; intro hk1 mx1 K ihx1
               rintro i1 a wx19 hm ⟨Fx10, hF10, hx11, hax13⟩
               simp only [law35_TariffTypes_L1_s] at hm
               refine cw_apply hax13 ?_
               refine c_seq (c_seq (c_region (r_move rfl rfl rfl (r_move rfl rfl rfl ?_))))
               refine r_lenS hs2.len u36 rfl rfl rfl ?_
               refine r_bin rfl rfl rfl rfl rfl ?_
               refine r_nil (q_then ?_)
               rcases cond_some hm with ⟨hb18, hm⟩ | ⟨hb18, hm⟩
               ·refine c_lit 118 rfl hb18 ?_
                refine c_true rfl (c_skip (q_then (c_seq (c_block (c_seq ?_)))))
                refine c_regionH (SH Fx10 [.box b1 26 [vs t1.Name, .int .i64 t1.Fee.Op, .int .i64 t1.Fee.N, vs t1.Fee.Name, .slice as1 ns1 cs1, .int .i64 t1.Cap]]) 18 rfl (by kernel_rfl) hx11 ?_
                intro wx20 hx13
                refine d_tk 0 rfl (by kernel_rfl) rfl rfl rfl rfl (hx13.sh (Frz.refl _) [0] (by decide) rfl) (fun _ _ _ _ _ => r_fieldAddr fa26_1 rfl rfl rfl (r_nil (qq rfl))) ?_
                refine d_tk 1 rfl (by kernel_rfl) rfl rfl rfl rfl (hx13.sh (Frz.refl _) [0] (by decide) rfl) (fun _ _ _ _ hq => r_loadBA (cs' := [.int .i64 t1.Fee.Op, .int .i64 t1.Fee.N, vs t1.Fee.Name, .slice as1 ns1 cs1]) ag24 sz24 rfl rfl hq rfl (i := 0) rfl rfl rfl (r_nil (qq rfl))) ?_
                refine d_tk 3 rfl (by kernel_rfl) rfl rfl rfl rfl (hx13.sh (Frz.refl _) [0] (by decide) rfl) (fun _ _ _ _ _ => r_move rfl rfl rfl (r_nil (qq rfl))) ?_
                refine d_tk 4 rfl (by kernel_rfl) rfl rfl rfl rfl (hx13.sh (Frz.refl _) [0] (by decide) rfl) (fun _ _ _ _ _ => r_move rfl rfl rfl (r_nil (qq rfl))) ?_
                obtain ⟨l1, hc1, hm⟩ := bind_some hm
                obtain ⟨as3, ns3, cs3, hrun1, hs3⟩ := run_fslA (P := Tryd.prog) (r := Rp.str) u36 sz9 ((((((((hs2.mono hF1).mono hF2).mono hF3).mono hF4).mono hF7).mono hF8).mono hF9).mono hF10) hc1 (.inr ⟨rfl, rfl⟩) (.inl rfl)
                refine d_fsl_h 5 rfl (by kernel_rfl) (by kernel_rfl) (by kernel_rfl) rfl rfl rfl rfl hrun1 (hx13.sh (Frz.refl _) [0] (by decide) rfl) ?_
                refine d_tk 7 rfl (by kernel_rfl) rfl rfl rfl rfl (hx13.sh (Frz.refl _) [0] (by decide) rfl) (fun _ _ _ _ _ => r_move rfl rfl rfl (r_nil (qq rfl))) ?_
                refine d_tk 8 rfl (by kernel_rfl) rfl rfl rfl rfl (hx13.sh (Frz.refl _) [0] (by decide) rfl) (fun _ _ _ _ _ => r_move rfl rfl rfl (r_nil (qq rfl))) ?_
                refine d_tk 9 rfl (by kernel_rfl) rfl rfl rfl rfl (hx13.sh (Frz.refl _) [0] (by decide) rfl) (fun _ _ _ _ _ => r_bin rfl rfl rfl rfl rfl (r_nil (qq rfl))) ?_
                obtain ⟨l2, hc2, hm⟩ := bind_some hm
                obtain ⟨as4, ns4, cs4, hrun2, hs4⟩ := run_fslA (P := Tryd.prog) (r := Rp.str) u36 sz9 ((((((((hs2.mono hF1).mono hF2).mono hF3).mono hF4).mono hF7).mono hF8).mono hF9).mono hF10) hc2 (.inl rfl) (.inr ⟨rfl, rfl⟩)
                refine d_fsl_l 10 rfl (by kernel_rfl) (by kernel_rfl) (by kernel_rfl) rfl rfl rfl rfl hrun2 (hx13.sh (Frz.refl _) [0] (by decide) rfl) ?_
                refine d_step 2 rfl (by kernel_rfl) ?_
                refine r_buildSlice (e := 9) (cs := []) (q := 1) rfl rfl hx13 rfl (fun _ => by kernel_rfl) rfl rfl ?_
                intro b2 wx21 hx14
                refine d_next (hx14.sh (Frz.refl _) [1] (by decide) rfl) ?_
                refine d_step 6 rfl (by kernel_rfl) ?_
                obtain ⟨l3, hr1, hm⟩ := bind_some hm
                refine r_appendF (r := Rp.str) ap36 rfl rfl rfl hx14 rfl rfl (i := 0) rfl ((show RowN Rp.str Fx10 0 [] [] from ⟨rfl, (rfl : RowR Rp.str _ [] [])⟩)) hs3 hr1 ?_
                intro as5 cs5 wx22 xss5 hx15 hs5
                refine d_next (hx15.sh (Frz.refl _) [1] (by decide) rfl) ?_
                refine d_step 11 rfl (by kernel_rfl) ?_
                obtain ⟨l4, hr2, hm⟩ := bind_some hm
                refine r_appendF (r := Rp.str) ap36 rfl rfl rfl hx15 rfl rfl (i := 0) rfl hs5 hs4 hr2 ?_
                intro as6 cs6 wx23 xss6 hx16 hs6
                refine d_next (hx16.sh (Frz.refl _) [1] (by decide) rfl) ?_
                refine d_step 12 rfl (by kernel_rfl) ?_
                obtain ⟨Fx12, hF12, hx17, hsx1⟩ := freezeRow hx16 (i := 0) rfl hs6
                have hG2 := (((((((hF1.trans hF2).trans hF3).trans hF4).trans hF7).trans hF8).trans hF9).trans hF10).trans hF12
                obtain ⟨v16, hv6, hm⟩ := bind_some hm
                refine r_callG0 ent13 rfl rfl rfl rfl hx17 (tariff_Type_ok _ _ _ _ hv6 hx17.sat (hs1.mono hG2) hsx1) ?_
                rintro _ Fx13 _ wx24 hF13 hx18 ⟨rfl, rfl⟩
                refine d_next (hx18.sh (hF12.trans hF13) [0] (by decide) rfl) ?_
                refine d_tk 13 rfl (by kernel_rfl) rfl rfl rfl rfl (hx18.sh (hF12.trans hF13) [0] (by decide) rfl) (fun _ _ _ _ _ => r_move rfl rfl rfl (r_nil (qq rfl))) ?_
                refine d_tk 14 rfl (by kernel_rfl) rfl rfl rfl rfl (hx18.sh (hF12.trans hF13) [0] (by decide) rfl) (fun _ _ _ _ _ => r_extract rfl rfl rfl rfl (r_nil (qq rfl))) ?_
                refine d_tk 15 rfl (by kernel_rfl) rfl rfl rfl rfl (hx18.sh (hF12.trans hF13) [0] (by decide) rfl) (fun _ _ _ _ _ => r_extract rfl rfl rfl rfl (r_nil (qq rfl))) ?_
                refine d_tk 16 rfl (by kernel_rfl) rfl rfl rfl rfl (hx18.sh (hF12.trans hF13) [0] (by decide) rfl) (fun _ _ _ _ _ => r_assign rfl rfl rfl (r_nil (qq rfl))) ?_
                refine d_tk 17 rfl (by kernel_rfl) rfl rfl rfl rfl (hx18.sh (hF12.trans hF13) [0] (by decide) rfl) (fun _ _ _ _ _ => r_assign rfl rfl rfl (r_nil (qq rfl))) ?_
                refine d_done (by kernel_rfl) ?_
                refine q_then (c_seq ?_)
                refine c_regionD (by kernel_rfl) (by kernel_rfl) hx18 ?_
                refine q_stp rfl rfl rfl rfl (fun _ _ _ _ => r_fieldAddr fa26_1 rfl rfl rfl (r_nil (qq rfl))) ?_
                refine q_stp rfl rfl rfl rfl (fun _ _ _ hq => r_loadBA (cs' := [.int .i64 t1.Fee.Op, .int .i64 t1.Fee.N, vs t1.Fee.Name, .slice as1 ns1 cs1]) ag24 sz24 rfl rfl hq rfl (i := 0) rfl rfl rfl (r_nil (qq rfl))) ?_
                refine q_stp rfl rfl rfl rfl (fun _ _ _ _ => r_move rfl rfl rfl (r_nil (qq rfl))) ?_
                refine q_stp rfl rfl rfl rfl (fun _ _ _ _ => r_move rfl rfl rfl (r_nil (qq rfl))) ?_
                obtain ⟨ex1, he1, hm⟩ := bind_some hm
                obtain ⟨b3, o1, cs1, hf1, hr3, hrun3⟩ := findex_ex (P := Tryd.prog) (r := Rp.str) u36 sz9 ((hs2.mono hG2).mono hF13) he1
                have hc3 : cs1 = [vs ex1] := hr3
                subst hc3
                refine q_findex rfl rfl rfl rfl hrun3 ?_
                refine q_stp rfl rfl rfl rfl (fun _ _ hleq hq => r_loadF1 (j := 0) ag9 rfl rfl hq (hf1.mono hleq) rfl rfl (r_nil (qq rfl))) ?_
                obtain ⟨v17, hv7, hm⟩ := bind_some hm
                refine q_callG0 ent15 rfl rfl rfl rfl (fun _ _ hleq hq => law35_occurs_ok _ _ _ _ _ hv7 hq.sat (((hs1.mono hG2).mono hF13).mono hleq)) ?_
                refine q_stp rfl rfl rfl rfl (fun _ _ _ _ => r_move rfl rfl rfl (r_nil (qq rfl))) ?_
                obtain ⟨v18, hb19, hm⟩ := bind_some hm
                refine q_mid 8 (fun a => Has 166 a [(1, .slice as2 ns2 cs2), (3, .pointer (some ⟨b1, 0, none⟩)), (7, .bool v1), (14, .int .i64 i1), (16, .int .i64 v16.2), (152, .bool v18)]) ?_ ?_
                ·intro a hax14
                 refine qr_apply hax14 ?_
                 refine q_stp rfl rfl rfl rfl (fun _ _ _ _ => r_assign rfl rfl rfl (r_nil (qq rfl))) ?_
                 refine q_end ?_
                 rintro wx26 ⟨Fx14, hF14, hx19⟩
                 refine q_then (c_seq (c_region (r_move rfl rfl rfl (r_move rfl rfl rfl ?_))))
                 refine r_bin rfl rfl rfl rfl rfl ?_
                 refine r_bne u4 rfl rfl rfl rfl ?_
                 refine r_move rfl rfl rfl ?_
                 obtain ⟨v19, hb20, hm⟩ := bind_some hm
                 refine r_mid 7 (fun a w' => wx26 = w' ∧ Has 166 a [(1, .slice as2 ns2 cs2), (3, .pointer (some ⟨b1, 0, none⟩)), (7, .bool v1), (14, .int .i64 i1), (164, .bool v19)]) ?_ ?_
                 ·rintro a wx27 ⟨rfl, hax15⟩
                  refine rw_apply hax15 ?_
                  refine r_nil (q_then ?_)
                  rcases cond_some hm with ⟨hb21, hm⟩ | ⟨hb21, hm⟩
                  ·refine c_lit 164 rfl hb21 ?_
                   refine c_true rfl (c_seq (c_region (r_assign rfl rfl rfl (r_nil (q_then (c_ret (q_block_ret (q_then_ret (q_then_ret (q_block_ret (q_then_ret ?_)))))))))))
                   refine b_ret1 rfl rfl ?_
                   obtain rfl := Option.some.inj hm
                   exact ⟨_, _, _, rfl, hx19.pick [] (by decide) rfl, rfl, rfl⟩
                  ·refine c_lit 164 rfl hb21 ?_
                   refine c_false rfl (c_skip (q_block (q_then (c_region (r_move rfl rfl rfl ?_)))))
                   refine r_bin rfl rfl rfl rfl rfl ?_
                   refine r_assign rfl rfl rfl (r_nil ?_)
                   refine q_next (fun a ha => ihx1 (iadd .i64 i1 1) a _ hm ?_)
                   exact ⟨_, (((hF10.trans hF12).trans hF13).trans hF14), hx19.pick [0] (by decide) rfl, ha.cut (l := [1, 3, 7, 14]) rfl⟩
                 ·clear hm
                  rcases cond_some hb20 with ⟨hb22, hb20⟩ | ⟨hb22, hb20⟩
                  ·refine r_lit 157 rfl hb22 ?_
                   refine r_off rfl (by decide) rfl (r_off rfl (by decide) rfl (r_off rfl (by decide) rfl (r_off rfl (by decide) rfl (r_off rfl (by decide) rfl (r_off rfl (by decide) rfl (r_pick_true rfl rfl rfl rfl (r_nil ?_)))))))
                   refine q_next (fun a ha => ?_)
                   cases hb20
                   exact ⟨rfl, ha.cut (l := [1, 3, 7, 14, 164]) rfl⟩
                  ·refine r_lit 157 rfl hb22 ?_
                   refine r_move rfl rfl rfl (r_not rfl rfl rfl (r_move rfl rfl rfl ?_))
                   obtain ⟨v20, hb23, hb20⟩ := bind_some hb20
                   refine r_mid 3 (fun a w' => wx26 = w' ∧ Has 166 a [(1, .slice as2 ns2 cs2), (3, .pointer (some ⟨b1, 0, none⟩)), (7, .bool v1), (14, .int .i64 i1), (157, .bool false), (163, .bool v20)]) ?_ ?_
                   ·rintro a wx28 ⟨rfl, hax16⟩
                    refine rw_apply hax16 ?_
                    refine r_pick_false rfl rfl rfl rfl (r_nil ?_)
                    refine q_next (fun a ha => ?_)
                    cases hb20
                    exact ⟨rfl, ha.cut (l := [1, 3, 7, 14, 164]) rfl⟩
                   ·clear hb20
                    rcases cond_some hb23 with ⟨hb24, hb23⟩ | ⟨hb24, hb23⟩
                    ·refine r_lit 160 rfl hb24 ?_
                     refine r_move rfl rfl rfl ?_
                     refine r_bin rfl rfl rfl rfl rfl ?_
                     refine r_pick_true rfl rfl rfl rfl (r_nil ?_)
                     refine q_next (fun a ha => ?_)
                     cases hb23
                     exact ⟨rfl, ha.cut (l := [1, 3, 7, 14, 157, 163]) rfl⟩
                    ·refine r_lit 160 rfl hb24 ?_
                     refine r_off rfl (by decide) rfl (r_off rfl (by decide) rfl (r_pick_false rfl rfl rfl rfl (r_nil ?_)))
                     refine q_next (fun a ha => ?_)
                     cases hb23
                     exact ⟨rfl, ha.cut (l := [1, 3, 7, 14, 157, 163]) rfl⟩
                ·clear hm
                 rcases cond_some hb19 with ⟨hb25, hb19⟩ | ⟨hb25, hb19⟩
                 ·refine q_lit 144 rfl hb25 ?_
                  refine q_off rfl rfl rfl (q_off rfl rfl rfl (q_off rfl rfl rfl (q_off rfl rfl rfl (q_off rfl rfl rfl (q_off rfl rfl rfl (q_off rfl rfl rfl ?_))))))
                  refine q_stp rfl rfl rfl rfl (fun _ _ _ _ => r_pick_true rfl rfl rfl rfl (r_nil (qq rfl))) ?_
                  refine q_nil (fun a ha => ?_)
                  cases hb19
                  exact ha.cut (l := [1, 3, 7, 14, 16, 152]) rfl
                 ·refine q_lit 144 rfl hb25 ?_
                  refine q_stp rfl rfl rfl rfl (fun _ _ _ _ => r_fieldAddr fa26_1 rfl rfl rfl (r_nil (qq rfl))) ?_
                  refine q_stp rfl rfl rfl rfl (fun _ _ _ hq => r_loadBA (cs' := [.int .i64 t1.Fee.Op, .int .i64 t1.Fee.N, vs t1.Fee.Name, .slice as1 ns1 cs1]) ag24 sz24 rfl rfl hq rfl (i := 0) rfl rfl rfl (r_nil (qq rfl))) ?_
                  refine q_stp rfl rfl rfl rfl (fun _ _ _ _ => r_move rfl rfl rfl (r_nil (qq rfl))) ?_
                  refine q_stp rfl rfl rfl rfl (fun _ _ _ _ => r_move rfl rfl rfl (r_nil (qq rfl))) ?_
                  obtain ⟨ex2, he2, hb19⟩ := bind_some hb19
                  obtain ⟨b4, o2, cs2, hf2, hr4, hrun4⟩ := findex_ex (P := Tryd.prog) (r := Rp.str) u36 sz9 ((hs2.mono hG2).mono hF13) he2
                  have hc4 : cs2 = [vs ex2] := hr4
                  subst hc4
                  refine q_findex rfl rfl rfl rfl hrun4 ?_
                  refine q_stp rfl rfl rfl rfl (fun _ _ hleq hq => r_loadF1 (j := 0) ag9 rfl rfl hq (hf2.mono hleq) rfl rfl (r_nil (qq rfl))) ?_
                  obtain ⟨v21, hv8, hb19⟩ := bind_some hb19
                  refine q_callG0 ent15 rfl rfl rfl rfl (fun _ _ hleq hq => law35_occurs_ok _ _ _ _ _ hv8 hq.sat (((hs1.mono hG2).mono hF13).mono hleq)) ?_
                  refine q_stp rfl rfl rfl rfl (fun _ _ _ _ => r_pick_false rfl rfl rfl rfl (r_nil (qq rfl))) ?_
                  refine q_nil (fun a ha => ?_)
                  cases hb19
                  exact ha.cut (l := [1, 3, 7, 14, 16, 152]) rfl
               ·refine c_lit 118 rfl hb18 ?_
                refine c_false rfl (c_exit (q_then_exit (q_then_exit ?_)))
                refine fun a ha => hk1 () a _ hm ?_
                exact ⟨_, hF10, hx11.pick [] (by decide) rfl, ha.cut (l := [7]) rfl⟩
            ·clear hm
             rcases cond_some hb16 with ⟨hb26, hb16⟩ | ⟨hb26, hb16⟩
             ·refine r_lit 107 rfl hb26 ?_
              refine r_off rfl (by decide) rfl (r_off rfl (by decide) rfl (r_off rfl (by decide) rfl (r_off rfl (by decide) rfl (r_off rfl (by decide) rfl (r_off rfl (by decide) rfl (r_pick_true rfl rfl rfl rfl (r_nil ?_)))))))
              refine q_next (fun a ha => ?_)
              cases hb16
              exact ⟨rfl, ha.cut (l := [1, 3, 7, 114]) rfl⟩
             ·refine r_lit 107 rfl hb26 ?_
              refine r_move rfl rfl rfl ?_
              refine r_bin rfl rfl rfl rfl rfl ?_
              refine r_move rfl rfl rfl ?_
              obtain ⟨v22, hb27, hb16⟩ := bind_some hb16
              refine r_mid 3 (fun a w' => wx15 = w' ∧ Has 166 a [(1, .slice as2 ns2 cs2), (3, .pointer (some ⟨b1, 0, none⟩)), (7, .bool v1), (107, .bool false), (113, .bool v22)]) ?_ ?_
              ·rintro a wx29 ⟨rfl, hax18⟩
               refine rw_apply hax18 ?_
               refine r_pick_false rfl rfl rfl rfl (r_nil ?_)
               refine q_next (fun a ha => ?_)
               cases hb16
               exact ⟨rfl, ha.cut (l := [1, 3, 7, 114]) rfl⟩
              ·clear hb16
               rcases cond_some hb27 with ⟨hb28, hb27⟩ | ⟨hb28, hb27⟩
               ·refine r_lit 110 rfl hb28 ?_
                refine r_move rfl rfl rfl ?_
                refine r_bin rfl rfl rfl rfl rfl ?_
                refine r_pick_true rfl rfl rfl rfl (r_nil ?_)
                refine q_next (fun a ha => ?_)
                cases hb27
                exact ⟨rfl, ha.cut (l := [1, 3, 7, 107, 113]) rfl⟩
               ·refine r_lit 110 rfl hb28 ?_
                refine r_off rfl (by decide) rfl (r_off rfl (by decide) rfl (r_pick_false rfl rfl rfl rfl (r_nil ?_)))
                refine q_next (fun a ha => ?_)
                cases hb27
                exact ⟨rfl, ha.cut (l := [1, 3, 7, 107, 113]) rfl⟩
           ·clear hm
            rcases cond_some hb15 with ⟨hb29, hb15⟩ | ⟨hb29, hb15⟩
            ·refine r_lit 102 rfl hb29 ?_
             refine r_move rfl rfl rfl (r_move rfl rfl rfl ?_)
             refine r_bin rfl rfl rfl rfl rfl ?_
             refine r_pick_true rfl rfl rfl rfl (r_nil ?_)
             refine q_next (fun a ha => ?_)
             cases hb15
             exact ⟨rfl, ha.cut (l := [1, 3, 7, 13, 106]) rfl⟩
            ·refine r_lit 102 rfl hb29 ?_
             refine r_off rfl (by decide) rfl (r_off rfl (by decide) rfl (r_off rfl (by decide) rfl (r_pick_false rfl rfl rfl rfl (r_nil ?_))))
             refine q_next (fun a ha => ?_)
             cases hb15
             exact ⟨rfl, ha.cut (l := [1, 3, 7, 13, 106]) rfl⟩
          ·clear hm
           refine c_regionH (SH Fx8 [.box b1 26 [vs t1.Name, .int .i64 t1.Fee.Op, .int .i64 t1.Fee.N, vs t1.Fee.Name, .slice as1 ns1 cs1, .int .i64 t1.Cap]]) 14 rfl (by kernel_rfl) hx9 ?_
           intro wx30 hx20
           refine d_tk 0 rfl (by kernel_rfl) rfl rfl rfl rfl (hx20.sh (Frz.refl _) [0] (by decide) rfl) (fun _ _ _ _ _ => r_fieldAddr fa26_1 rfl rfl rfl (r_nil (qq rfl))) ?_
           refine d_tk 1 rfl (by kernel_rfl) rfl rfl rfl rfl (hx20.sh (Frz.refl _) [0] (by decide) rfl) (fun _ _ _ _ hq => r_loadBA (cs' := [.int .i64 t1.Fee.Op, .int .i64 t1.Fee.N, vs t1.Fee.Name, .slice as1 ns1 cs1]) ag24 sz24 rfl rfl hq rfl (i := 0) rfl rfl rfl (r_nil (qq rfl))) ?_
           refine d_tk 3 rfl (by kernel_rfl) rfl rfl rfl rfl (hx20.sh (Frz.refl _) [0] (by decide) rfl) (fun _ _ _ _ _ => r_move rfl rfl rfl (r_nil (qq rfl))) ?_
           refine d_tk 5 rfl (by kernel_rfl) rfl rfl rfl rfl (hx20.sh (Frz.refl _) [0] (by decide) rfl) (fun _ _ _ _ _ => r_move rfl rfl rfl (r_nil (qq rfl))) ?_
           refine d_two 2 6 rfl rfl (by kernel_rfl) ?_ ?_
           ·refine r_buildSlice (e := 9) (cs := []) (q := 1) rfl rfl hx20 rfl (fun _ => by kernel_rfl) rfl rfl ?_
            intro b5 wx31 hx21
            refine d_next (hx21.sh (Frz.refl _) [1] (by decide) rfl) ?_
            refine d_two 4 6 rfl rfl (by kernel_rfl) ?_ ?_
            ·obtain ⟨l5, hr5, hb14⟩ := bind_some hb14
             refine r_appendF (r := Rp.str) ap36 rfl rfl rfl hx21 rfl rfl (i := 0) rfl ((show RowN Rp.str Fx8 0 [] [] from ⟨rfl, (rfl : RowR Rp.str _ [] [])⟩)) ((((((hs2.mono hF1).mono hF2).mono hF3).mono hF4).mono hF7).mono hF8) hr5 ?_
             intro as7 cs7 wx32 xss7 hx22 hs7
             refine d_next (hx22.sh (Frz.refl _) [1] (by decide) rfl) ?_
             refine d_step 6 rfl (by kernel_rfl) ?_
             refine r_buildSlice (e := 9) (cs := [vs more1]) (q := 1) rfl rfl hx22 rfl (fun _ => by kernel_rfl) rfl rfl ?_
             intro b6 wx33 hx23
             refine d_next (hx23.sh (Frz.refl _) [2] (by decide) rfl) ?_
             refine d_step 7 rfl (by kernel_rfl) ?_
             obtain ⟨l6, hr6, hb14⟩ := bind_some hb14
             refine r_appendN (r := Rp.str) ap36 rfl rfl hx23 rfl rfl (i := 1) (j := 0) rfl rfl hs7 ((show RowN Rp.str Fx8 1 [vs more1] [more1] from ⟨rfl, ⟨_, _, rfl, rfl, (rfl : RowR Rp.str _ [] [])⟩⟩)) hr6 ?_
             intro as8 cs8 wx34 hx24 hs8
             refine d_next (hx24.sh (Frz.refl _) [2] (by decide) rfl) ?_
             refine d_step 8 rfl (by kernel_rfl) ?_
             obtain ⟨Fx15, hF15, hx25, hsx2⟩ := freezeRow hx24 (i := 1) rfl hs8
             have hG3 := (((((hF1.trans hF2).trans hF3).trans hF4).trans hF7).trans hF8).trans hF15
             obtain ⟨v23, hv9, hb14⟩ := bind_some hb14
             refine r_callG0 ent13 rfl rfl rfl rfl hx25 (tariff_Type_ok _ _ _ _ hv9 hx25.sat (hs1.mono hG3) hsx2) ?_
             rintro _ Fx16 _ wx35 hF16 hx26 ⟨rfl, rfl⟩
             refine d_next (hx26.sh (hF15.trans hF16) [1] (by decide) rfl) ?_
             refine d_tk 9 rfl (by kernel_rfl) rfl rfl rfl rfl (hx26.sh (hF15.trans hF16) [1] (by decide) rfl) (fun _ _ _ _ _ => r_move rfl rfl rfl (r_nil (qq rfl))) ?_
             refine d_tk 10 rfl (by kernel_rfl) rfl rfl rfl rfl (hx26.sh (hF15.trans hF16) [1] (by decide) rfl) (fun _ _ _ _ _ => r_extract rfl rfl rfl rfl (r_nil (qq rfl))) ?_
             refine d_tk 11 rfl (by kernel_rfl) rfl rfl rfl rfl (hx26.sh (hF15.trans hF16) [1] (by decide) rfl) (fun _ _ _ _ _ => r_extract rfl rfl rfl rfl (r_nil (qq rfl))) ?_
             refine d_tk 12 rfl (by kernel_rfl) rfl rfl rfl rfl (hx26.sh (hF15.trans hF16) [1] (by decide) rfl) (fun _ _ _ _ _ => r_assign rfl rfl rfl (r_nil (qq rfl))) ?_
             refine d_tk 13 rfl (by kernel_rfl) rfl rfl rfl rfl (hx26.sh (hF15.trans hF16) [1] (by decide) rfl) (fun _ _ _ _ _ => r_assign rfl rfl rfl (r_nil (qq rfl))) ?_
             refine d_done (by kernel_rfl) ?_
             refine q_next (fun a ha => ?_)
             cases hb14
             exact ⟨_, (hF15.trans hF16), hx26.pick [1] (by decide) rfl, ha.cut (l := [1, 3, 7, 8, 12, 13]) rfl⟩
            ·refine r_buildSlice (e := 9) (cs := [vs more1]) (q := 1) rfl rfl hx21 rfl (fun _ => by kernel_rfl) rfl rfl ?_
             intro b6 wx32 hx22
             refine d_next (hx22.sh (Frz.refl _) [2] (by decide) rfl) ?_
             refine d_step 4 rfl (by kernel_rfl) ?_
             obtain ⟨l5, hr5, hb14⟩ := bind_some hb14
             refine r_appendF (r := Rp.str) ap36 rfl rfl rfl hx22 rfl rfl (i := 1) rfl ((show RowN Rp.str Fx8 0 [] [] from ⟨rfl, (rfl : RowR Rp.str _ [] [])⟩)) ((((((hs2.mono hF1).mono hF2).mono hF3).mono hF4).mono hF7).mono hF8) hr5 ?_
             intro as7 cs7 wx33 xss7 hx23 hs7
             refine d_next (hx23.sh (Frz.refl _) [2] (by decide) rfl) ?_
             refine d_step 7 rfl (by kernel_rfl) ?_
             obtain ⟨l6, hr6, hb14⟩ := bind_some hb14
             refine r_appendN (r := Rp.str) ap36 rfl rfl hx23 rfl rfl (i := 1) (j := 0) rfl rfl hs7 ((show RowN Rp.str Fx8 1 [vs more1] [more1] from ⟨rfl, ⟨_, _, rfl, rfl, (rfl : RowR Rp.str _ [] [])⟩⟩)) hr6 ?_
             intro as8 cs8 wx34 hx24 hs8
             refine d_next (hx24.sh (Frz.refl _) [2] (by decide) rfl) ?_
             refine d_step 8 rfl (by kernel_rfl) ?_
             obtain ⟨Fx15, hF15, hx25, hsx2⟩ := freezeRow hx24 (i := 1) rfl hs8
             have hG3 := (((((hF1.trans hF2).trans hF3).trans hF4).trans hF7).trans hF8).trans hF15
             obtain ⟨v23, hv9, hb14⟩ := bind_some hb14
             refine r_callG0 ent13 rfl rfl rfl rfl hx25 (tariff_Type_ok _ _ _ _ hv9 hx25.sat (hs1.mono hG3) hsx2) ?_
             rintro _ Fx16 _ wx35 hF16 hx26 ⟨rfl, rfl⟩
             refine d_next (hx26.sh (hF15.trans hF16) [1] (by decide) rfl) ?_
             refine d_tk 9 rfl (by kernel_rfl) rfl rfl rfl rfl (hx26.sh (hF15.trans hF16) [1] (by decide) rfl) (fun _ _ _ _ _ => r_move rfl rfl rfl (r_nil (qq rfl))) ?_
             refine d_tk 10 rfl (by kernel_rfl) rfl rfl rfl rfl (hx26.sh (hF15.trans hF16) [1] (by decide) rfl) (fun _ _ _ _ _ => r_extract rfl rfl rfl rfl (r_nil (qq rfl))) ?_
             refine d_tk 11 rfl (by kernel_rfl) rfl rfl rfl rfl (hx26.sh (hF15.trans hF16) [1] (by decide) rfl) (fun _ _ _ _ _ => r_extract rfl rfl rfl rfl (r_nil (qq rfl))) ?_
             refine d_tk 12 rfl (by kernel_rfl) rfl rfl rfl rfl (hx26.sh (hF15.trans hF16) [1] (by decide) rfl) (fun _ _ _ _ _ => r_assign rfl rfl rfl (r_nil (qq rfl))) ?_
             refine d_tk 13 rfl (by kernel_rfl) rfl rfl rfl rfl (hx26.sh (hF15.trans hF16) [1] (by decide) rfl) (fun _ _ _ _ _ => r_assign rfl rfl rfl (r_nil (qq rfl))) ?_
             refine d_done (by kernel_rfl) ?_
             refine q_next (fun a ha => ?_)
             cases hb14
             exact ⟨_, (hF15.trans hF16), hx26.pick [1] (by decide) rfl, ha.cut (l := [1, 3, 7, 8, 12, 13]) rfl⟩
           ·refine r_buildSlice (e := 9) (cs := [vs more1]) (q := 1) rfl rfl hx20 rfl (fun _ => by kernel_rfl) rfl rfl ?_
            intro b5 wx31 hx21
            refine d_next (hx21.sh (Frz.refl _) [1] (by decide) rfl) ?_
            refine d_step 2 rfl (by kernel_rfl) ?_
            refine r_buildSlice (e := 9) (cs := []) (q := 1) rfl rfl hx21 rfl (fun _ => by kernel_rfl) rfl rfl ?_
            intro b6 wx32 hx22
            refine d_next (hx22.sh (Frz.refl _) [2] (by decide) rfl) ?_
            refine d_step 4 rfl (by kernel_rfl) ?_
            obtain ⟨l5, hr5, hb14⟩ := bind_some hb14
            refine r_appendF (r := Rp.str) ap36 rfl rfl rfl hx22 rfl rfl (i := 0) rfl ((show RowN Rp.str Fx8 0 [] [] from ⟨rfl, (rfl : RowR Rp.str _ [] [])⟩)) ((((((hs2.mono hF1).mono hF2).mono hF3).mono hF4).mono hF7).mono hF8) hr5 ?_
            intro as7 cs7 wx33 xss7 hx23 hs7
            refine d_next (hx23.sh (Frz.refl _) [2] (by decide) rfl) ?_
            refine d_step 7 rfl (by kernel_rfl) ?_
            obtain ⟨l6, hr6, hb14⟩ := bind_some hb14
            refine r_appendN (r := Rp.str) ap36 rfl rfl hx23 rfl rfl (i := 0) (j := 1) rfl rfl hs7 ((show RowN Rp.str Fx8 1 [vs more1] [more1] from ⟨rfl, ⟨_, _, rfl, rfl, (rfl : RowR Rp.str _ [] [])⟩⟩)) hr6 ?_
            intro as8 cs8 wx34 hx24 hs8
            refine d_next (hx24.sh (Frz.refl _) [2] (by decide) rfl) ?_
            refine d_step 8 rfl (by kernel_rfl) ?_
            obtain ⟨Fx15, hF15, hx25, hsx2⟩ := freezeRow hx24 (i := 0) rfl hs8
            have hG3 := (((((hF1.trans hF2).trans hF3).trans hF4).trans hF7).trans hF8).trans hF15
            obtain ⟨v23, hv9, hb14⟩ := bind_some hb14
            refine r_callG0 ent13 rfl rfl rfl rfl hx25 (tariff_Type_ok _ _ _ _ hv9 hx25.sat (hs1.mono hG3) hsx2) ?_
            rintro _ Fx16 _ wx35 hF16 hx26 ⟨rfl, rfl⟩
            refine d_next (hx26.sh (hF15.trans hF16) [1] (by decide) rfl) ?_
            refine d_tk 9 rfl (by kernel_rfl) rfl rfl rfl rfl (hx26.sh (hF15.trans hF16) [1] (by decide) rfl) (fun _ _ _ _ _ => r_move rfl rfl rfl (r_nil (qq rfl))) ?_
            refine d_tk 10 rfl (by kernel_rfl) rfl rfl rfl rfl (hx26.sh (hF15.trans hF16) [1] (by decide) rfl) (fun _ _ _ _ _ => r_extract rfl rfl rfl rfl (r_nil (qq rfl))) ?_
            refine d_tk 11 rfl (by kernel_rfl) rfl rfl rfl rfl (hx26.sh (hF15.trans hF16) [1] (by decide) rfl) (fun _ _ _ _ _ => r_extract rfl rfl rfl rfl (r_nil (qq rfl))) ?_
            refine d_tk 12 rfl (by kernel_rfl) rfl rfl rfl rfl (hx26.sh (hF15.trans hF16) [1] (by decide) rfl) (fun _ _ _ _ _ => r_assign rfl rfl rfl (r_nil (qq rfl))) ?_
            refine d_tk 13 rfl (by kernel_rfl) rfl rfl rfl rfl (hx26.sh (hF15.trans hF16) [1] (by decide) rfl) (fun _ _ _ _ _ => r_assign rfl rfl rfl (r_nil (qq rfl))) ?_
            refine d_done (by kernel_rfl) ?_
            refine q_next (fun a ha => ?_)
            cases hb14
            exact ⟨_, (hF15.trans hF16), hx26.pick [1] (by decide) rfl, ha.cut (l := [1, 3, 7, 8, 12, 13]) rfl⟩
        ·clear hm
         rcases cond_some hb12 with ⟨hb30, hb12⟩ | ⟨hb30, hb12⟩
         ·refine r_lit 76 rfl hb30 ?_
          refine r_off rfl (by decide) rfl (r_off rfl (by decide) rfl (r_off rfl (by decide) rfl (r_off rfl (by decide) rfl (r_off rfl (by decide) rfl (r_off rfl (by decide) rfl (r_off rfl (by decide) rfl (r_off rfl (by decide) rfl (r_off rfl (by decide) rfl (r_off rfl (by decide) rfl (r_pick_true rfl rfl rfl rfl (r_nil ?_)))))))))))
          refine q_next (fun a ha => ?_)
          cases hb12
          exact ⟨_, Frz.refl _, hx8.pick [0] (by decide) rfl, ha.cut (l := [1, 2, 3, 7, 8, 87]) rfl⟩
         ·refine r_lit 76 rfl hb30 ?_
          refine r_loadBW ag26 sz26 rfl rfl hx8 rfl (i := 0) rfl rfl ?_
          refine r_move rfl rfl rfl ?_
          have hG4 := (((hF1.trans hF2).trans hF3).trans hF4).trans hF7
          obtain ⟨v24, hv10, hb12⟩ := bind_some hb12
          refine r_callG0 ent14 rfl rfl rfl rfl hx8 (tariff_Check_ok _ _ _ _ hv10 hx8.sat (hs1.mono hG4) (hs2.mono hG4)) ?_
          rintro _ Fx17 _ wx36 hF17 hx27 ⟨rfl, rfl⟩
          refine r_bin rfl rfl rfl rfl rfl ?_
          refine r_move rfl rfl rfl (r_move rfl rfl rfl ?_)
          obtain ⟨v25, hb31, hb12⟩ := bind_some hb12
          refine r_mid 3 (fun a w' => wx36 = w' ∧ Has 166 a [(1, .slice as2 ns2 cs2), (2, vs more1), (3, .pointer (some ⟨b1, 0, none⟩)), (7, .bool v1), (8, .int .i64 v5.1), (76, .bool false), (80, .bool (v24 == 0)), (85, .bool v25)]) ?_ ?_
          ·rintro a wx37 ⟨rfl, hax19⟩
           refine rw_apply hax19 ?_
           refine r_bne u4 rfl rfl rfl rfl ?_
           refine r_pick_false rfl rfl rfl rfl (r_nil ?_)
           refine q_next (fun a ha => ?_)
           cases hb12
           exact ⟨_, hF17, hx27.pick [0] (by decide) rfl, ha.cut (l := [1, 2, 3, 7, 8, 87]) rfl⟩
          ·clear hb12
           rcases cond_some hb31 with ⟨hb32, hb31⟩ | ⟨hb32, hb31⟩
           ·refine r_lit 82 rfl hb32 ?_
            refine r_move rfl rfl rfl ?_
            refine r_bin rfl rfl rfl rfl rfl ?_
            refine r_pick_true rfl rfl rfl rfl (r_nil ?_)
            refine q_next (fun a ha => ?_)
            cases hb31
            exact ⟨rfl, ha.cut (l := [1, 2, 3, 7, 8, 76, 80, 85]) rfl⟩
           ·refine r_lit 82 rfl hb32 ?_
            refine r_off rfl (by decide) rfl (r_off rfl (by decide) rfl (r_pick_false rfl rfl rfl rfl (r_nil ?_)))
            refine q_next (fun a ha => ?_)
            cases hb31
            exact ⟨rfl, ha.cut (l := [1, 2, 3, 7, 8, 76, 80, 85]) rfl⟩
       ·clear hm
        rcases cond_some hb11 with ⟨hb33, hb11⟩ | ⟨hb33, hb11⟩
        ·refine r_lit 72 rfl hb33 ?_
         refine r_off rfl (by decide) rfl (r_off rfl (by decide) rfl (r_pick_true rfl rfl rfl rfl (r_nil ?_)))
         refine q_next (fun a ha => ?_)
         cases hb11
         exact ⟨rfl, ha.cut (l := [1, 2, 3, 7, 8, 11, 75]) rfl⟩
        ·refine r_lit 72 rfl hb33 ?_
         refine r_move rfl rfl rfl ?_
         refine r_bin rfl rfl rfl rfl rfl ?_
         refine r_pick_false rfl rfl rfl rfl (r_nil ?_)
         refine q_next (fun a ha => ?_)
         cases hb11
         exact ⟨rfl, ha.cut (l := [1, 2, 3, 7, 8, 11, 75]) rfl⟩
      ·clear hm
       rcases cond_some hb10 with ⟨hb34, hb10⟩ | ⟨hb34, hb10⟩
       ·refine r_lit 68 rfl hb34 ?_
        refine r_off rfl (by decide) rfl (r_off rfl (by decide) rfl (r_pick_true rfl rfl rfl rfl (r_nil ?_)))
        refine q_next (fun a ha => ?_)
        cases hb10
        exact ⟨rfl, ha.cut (l := [1, 2, 3, 7, 8, 11, 71]) rfl⟩
       ·refine r_lit 68 rfl hb34 ?_
        refine r_move rfl rfl rfl ?_
        refine r_bin rfl rfl rfl rfl rfl ?_
        refine r_pick_false rfl rfl rfl rfl (r_nil ?_)
        refine q_next (fun a ha => ?_)
        cases hb10
        exact ⟨rfl, ha.cut (l := [1, 2, 3, 7, 8, 11, 71]) rfl⟩
     ·clear hm
      rcases cond_some hb9 with ⟨hb35, hb9⟩ | ⟨hb35, hb9⟩
      ·refine r_lit 62 rfl hb35 ?_
       refine r_fieldAddr fa26_1 rfl rfl rfl ?_
       refine r_loadBA (cs' := [.int .i64 t1.Fee.Op, .int .i64 t1.Fee.N, vs t1.Fee.Name, .slice as1 ns1 cs1]) ag24 sz24 rfl rfl hx5 rfl (i := 0) rfl rfl rfl ?_
       have hG5 := ((hF1.trans hF2).trans hF3).trans hF4
       obtain ⟨v26, hv11, hb9⟩ := bind_some hb9
       refine r_callG0 ent15 rfl rfl rfl rfl hx5 (law35_occurs_ok _ _ _ _ _ hv11 hx5.sat (hs1.mono hG5)) ?_
       rintro _ Fx18 _ wx38 hF18 hx28 ⟨rfl, rfl⟩
       refine r_pick_true rfl rfl rfl rfl (r_nil ?_)
       refine q_next (fun a ha => ?_)
       cases hb9
       exact ⟨_, hF18, hx28.pick [0] (by decide) rfl, ha.cut (l := [1, 2, 3, 7, 8, 11, 59, 66]) rfl⟩
      ·refine r_lit 62 rfl hb35 ?_
       refine r_off rfl (by decide) rfl (r_off rfl (by decide) rfl (r_off rfl (by decide) rfl (r_pick_false rfl rfl rfl rfl (r_nil ?_))))
       refine q_next (fun a ha => ?_)
       cases hb9
       exact ⟨_, Frz.refl _, hx5.pick [0] (by decide) rfl, ha.cut (l := [1, 2, 3, 7, 8, 11, 59, 66]) rfl⟩
  ·clear hm
   rcases cond_some hb2 with ⟨hb36, hb2⟩ | ⟨hb36, hb2⟩
   ·refine r_lit 27 rfl hb36 ?_
    refine r_off rfl (by decide) rfl (r_off rfl (by decide) rfl (r_off rfl (by decide) rfl (r_pick_true rfl rfl rfl rfl (r_nil ?_))))
    refine q_next (fun a ha => ?_)
    cases hb2
    exact ⟨rfl, ha.cut (l := [1, 2, 3, 7, 31]) rfl⟩
   ·refine r_lit 27 rfl hb36 ?_
    refine r_move rfl rfl rfl ?_
    refine r_slen u9 rfl rfl rfl ?_
    refine r_bin rfl rfl rfl rfl rfl ?_
    refine r_pick_false rfl rfl rfl rfl (r_nil ?_)
    refine q_next (fun a ha => ?_)
    cases hb2
    exact ⟨rfl, ha.cut (l := [1, 2, 3, 7, 31]) rfl⟩
 ·clear hm
  rcases cond_some hb1 with ⟨hb37, hb1⟩ | ⟨hb37, hb1⟩
  ·refine r_lit 22 rfl hb37 ?_
   refine r_off rfl (by decide) rfl (r_off rfl (by decide) rfl (r_off rfl (by decide) rfl (r_pick_true rfl rfl rfl rfl (r_nil ?_))))
   refine q_next (fun a ha => ?_)
   cases hb1
   exact ⟨rfl, ha.cut (l := [1, 2, 3, 7, 26]) rfl⟩
  ·refine r_lit 22 rfl hb37 ?_
   refine r_move rfl rfl rfl ?_
   obtain ⟨v27, hv12, hb1⟩ := bind_some hb1
   refine r_callP0 ent12 rfl rfl rfl rfl (law35_few_ok _ _ _ hv12 hx3.sat ((hs2.mono hF1).mono hF2)) ?_
   refine r_not rfl rfl rfl (r_pick_false rfl rfl rfl rfl (r_nil ?_))
   refine q_next (fun a ha => ?_)
   cases hb1
   exact ⟨rfl, ha.cut (l := [1, 2, 3, 7, 26]) rfl⟩


end Go.Proofs.YtpihabofmnnbbaaDoor.M
