/-
  THE MIRRORS of the tariff's and the lexer's functions, of the references and the laws, and that each call returns what its mirror says. Printed by gen.py.
-/
import Derived.Test.YtpihabofmnnbbaaDoorRows
import Derived.Test.YtpihabofmnnbbaaDoorRtZ
import Derived.Test.YtpihabofmnnbbaaDoorExpr
import Derived.Test.YtpihabofmnnbbaaDoorExtT
import Derived.Test.YtpihabofmnnbbaaDoorMirS
namespace Go.Proofs.YtpihabofmnnbbaaDoor.M
open Go Go.RowKit Rt

theorem ent7 : Ent Tryd.prog 7 := fun _ _ => by kernel_rfl

theorem ent12 : Ent Tryd.prog 12 := fun _ _ => by kernel_rfl

def law35_TariffParts_L1 (n : Nat) (x1 : Expr) (names1 : (List Bs)) (v5 : (Int × Int)) (kont1 : Int → Option Bool) : Nat → Int → Int → Option Bool
 | 0, _, _ => none
 | mx1 + 1, first1, i1 =>
  bif decide (i1 < (x1.Args.length : Int)) then
   (ix x1.Args i1).bind fun ex1 =>
   (tariff_Type n ex1 names1).bind fun v15 =>
   (bif v15.2 != 0 then
    some (first1 == 0)
   else
    some false).bind fun v16 =>
   (bif v16 then
    some v15.2
   else
    some first1).bind fun first3 =>
   (bif v5.2 == 0 then
    some (v15.2 != 0)
   else
    some false).bind fun v17 =>
   bif v17 then
    some false
   else
    law35_TariffParts_L1 n x1 names1 v5 kont1 mx1 first3 (iadd .i64 i1 1)
  else
   kont1 first1

theorem law35_TariffParts_L1_s (n : Nat) (x1 : Expr) (names1 : (List Bs)) (v5 : (Int × Int)) (kont1 : Int → Option Bool) (mx1 : Nat) (first1 : Int) (i1 : Int) : law35_TariffParts_L1 n x1 names1 v5 kont1 (mx1 + 1) first1 i1 =
  bif decide (i1 < (x1.Args.length : Int)) then
   (ix x1.Args i1).bind fun ex1 =>
   (tariff_Type n ex1 names1).bind fun v15 =>
   (bif v15.2 != 0 then
    some (first1 == 0)
   else
    some false).bind fun v16 =>
   (bif v16 then
    some v15.2
   else
    some first1).bind fun first3 =>
   (bif v5.2 == 0 then
    some (v15.2 != 0)
   else
    some false).bind fun v17 =>
   bif v17 then
    some false
   else
    law35_TariffParts_L1 n x1 names1 v5 kont1 mx1 first3 (iadd .i64 i1 1)
  else
   kont1 first1 := rfl

def law35_TariffParts (n : Nat) (x1 : Expr) (names1 : (List Bs)) : Option Bool :=
 (law35_small n).bind fun v1 =>
 (ref35_Few n x1 130 14).bind fun v2 =>
 (bif !v2 then
  some true
 else
  (law35_short n x1).bind fun v19 =>
  some (!v19)).bind fun v3 =>
 (bif v3 then
  some true
 else
  (law35_few n names1).bind fun v18 =>
  some (!v18)).bind fun v4 =>
 bif v4 then
  some v1
 else
  (tariff_Type n x1 names1).bind fun v5 =>
  law35_TariffParts_L1 n x1 names1 v5 (fun (first2 : Int) =>
   bif first2 != 0 then
    (bif v1 then
     (bif v5.2 == first2 then
      some true
     else
      some (v5.2 == 2)).bind fun v7 =>
     some v7
    else
     some false).bind fun v6 =>
    some v6
   else
    (bif v1 then
     (bif v5.2 == 0 then
      some true
     else
      some (v5.2 == 13)).bind fun v9 =>
     (bif v9 then
      some true
     else
      some (v5.2 == 14)).bind fun v10 =>
     (bif v10 then
      some true
     else
      some (v5.2 == 11)).bind fun v11 =>
     (bif v11 then
      some true
     else
      some (v5.2 == 2)).bind fun v12 =>
     (bif v12 then
      some true
     else
      (bif v5.2 == 1 then
       some ((x1.Args.length : Int) == 0)
      else
       some false).bind fun v14 =>
      some v14).bind fun v13 =>
     some v13
    else
     some false).bind fun v8 =>
    some v8) n 0 0

set_option maxHeartbeats 1000000 in
set_option maxRecDepth 1000000 in
theorem law35_TariffParts_ok (n : Nat) (x1 : Expr) (names1 : (List Bs)) (r : Bool) (hm : law35_TariffParts n x1 names1 = some r) {w : World} {F : Frz} (hs : Sat F w) {as1 : Option Addr} {ns1 : Nat} {cs1 : Nat} {as2 : Option Addr} {ns2 : Nat} {cs2 : Nat} (hs1 : SlR rp_Expr F as1 ns1 cs1 x1.Args) (hs2 : SlR Rp.str F as2 ns2 cs2 names1) (hg0 : FX F 0 [.int .u8 40, .int .u8 41, .int .u8 44, .int .u8 59, .int .u8 58, .int .u8 61, .int .u8 60, .int .u8 43, .int .u8 45, .int .u8 42, .int .u8 47, .int .u8 123, .int .u8 125]) (hg1 : FX F 1 (Lib.pow10Tab.map (Value.int .u64))) :
  Calls Tryd.prog 5 #[.agg #[.int .i64 x1.Op, .int .i64 x1.N, vs x1.Name, .slice as1 ns1 cs1], .slice as2 ns2 cs2] w fun e w' => ∃ v F' O', e = .returned v ∧ HS F w [] F' O' w' ∧ (v = .bool r ∧ O' = []) := by
 unfold law35_TariffParts at hm
 have h := HS.init hs
 refine calls_of 106 Tryd.func5 rfl rfl rfl ?_
 refine c_seq (c_region ?_)
 refine r_box rfl rfl rfl rfl h ?_
 intro b1 wx1 hx1
 refine r_assign rfl rfl rfl (r_nil (q_then (c_seq (c_region ?_))))
 obtain ⟨v1, hv1, hm⟩ := bind_some hm
 refine r_callG0 ent7 rfl rfl rfl rfl hx1 (law35_small_ok _ _ hv1 hx1.sat hg0 hg1) ?_
 rintro _ Fx1 _ wx2 hF1 hx2 ⟨rfl, rfl⟩
 refine r_assign rfl rfl rfl (r_nil (q_then (c_seq (c_seq (c_region ?_)))))
 refine r_loadBW ag24 sz24 rfl rfl hx2 rfl (i := 0) rfl rfl ?_
 obtain ⟨v2, hv2, hm⟩ := bind_some hm
 refine r_callG0 ent16 rfl rfl rfl rfl hx2 (ref35_Few_ok _ _ _ _ _ hv2 hx2.sat (hs1.mono hF1)) ?_
 rintro _ Fx2 _ wx3 hF2 hx3 ⟨rfl, rfl⟩
 refine r_not rfl rfl rfl (r_move rfl rfl rfl ?_)
 obtain ⟨v3, hb1, hm⟩ := bind_some hm
 refine r_mid 4 (fun a w' => ∃ (Fx3 : Frz), Frz.le Fx2 Fx3 ∧ HS F w [] Fx3 [.box b1 24 [.int .i64 x1.Op, .int .i64 x1.N, vs x1.Name, .slice as1 ns1 cs1]] w' ∧ Has 106 a [(1, .slice as2 ns2 cs2), (2, .pointer (some ⟨b1, 0, none⟩)), (5, .bool v1), (20, .bool v3)]) ?_ ?_
 ·rintro a wx4 ⟨Fx3, hF3, hx4, hax1⟩
  refine rw_apply hax1 ?_
  refine r_move rfl rfl rfl ?_
  obtain ⟨v4, hb2, hm⟩ := bind_some hm
  refine r_mid 4 (fun a w' => wx4 = w' ∧ Has 106 a [(1, .slice as2 ns2 cs2), (2, .pointer (some ⟨b1, 0, none⟩)), (5, .bool v1), (25, .bool v4)]) ?_ ?_
  ·rintro a wx5 ⟨rfl, hax2⟩
   refine rw_apply hax2 ?_
   refine r_nil (q_then ?_)
   rcases cond_some hm with ⟨hb3, hm⟩ | ⟨hb3, hm⟩
   ·refine c_lit 25 rfl hb3 ?_
    refine c_true rfl (c_seq (c_region (r_move rfl rfl rfl (r_assign rfl rfl rfl (r_nil (q_then (c_ret (q_then_ret ?_))))))))
    refine b_ret1 rfl rfl ?_
    obtain rfl := Option.some.inj hm
    exact ⟨_, _, _, rfl, hx4.pick [] (by decide) rfl, rfl, rfl⟩
   ·refine c_lit 25 rfl hb3 ?_
    refine c_false rfl (c_skip (q_then (c_seq (c_region ?_))))
    refine r_loadBW ag24 sz24 rfl rfl hx4 rfl (i := 0) rfl rfl ?_
    refine r_move rfl rfl rfl ?_
    obtain ⟨v5, hv3, hm⟩ := bind_some hm
    refine r_callG0 ent13 rfl rfl rfl rfl hx4 (tariff_Type_ok _ _ _ _ hv3 hx4.sat (((hs1.mono hF1).mono hF2).mono hF3) (((hs2.mono hF1).mono hF2).mono hF3)) ?_
    rintro _ Fx4 _ wx6 hF4 hx5 ⟨rfl, rfl⟩
    refine r_move rfl rfl rfl (r_extract rfl rfl rfl rfl (r_extract rfl rfl rfl rfl (r_assign rfl rfl rfl (r_assign rfl rfl rfl (r_nil (q_then (c_seq (c_region (r_assign rfl rfl rfl (r_nil (q_then (c_seq (c_seq (c_region (r_assign rfl rfl rfl (r_nil (q_then (c_block ?_))))))))))))))))))
    intro a hax17
    obtain ⟨kont1, hkont1⟩ : ∃ kont1 : Int → Option Bool, kont1 = (fun (first2 : Int) =>
       bif first2 != 0 then
        (bif v1 then
         (bif v5.2 == first2 then
          some true
         else
          some (v5.2 == 2)).bind fun v7 =>
         some v7
        else
         some false).bind fun v6 =>
        some v6
       else
        (bif v1 then
         (bif v5.2 == 0 then
          some true
         else
          some (v5.2 == 13)).bind fun v9 =>
         (bif v9 then
          some true
         else
          some (v5.2 == 14)).bind fun v10 =>
         (bif v10 then
          some true
         else
          some (v5.2 == 11)).bind fun v11 =>
         (bif v11 then
          some true
         else
          some (v5.2 == 2)).bind fun v12 =>
         (bif v12 then
          some true
         else
          (bif v5.2 == 1 then
           some ((x1.Args.length : Int) == 0)
          else
           some false).bind fun v14 =>
          some v14).bind fun v13 =>
         some v13
        else
         some false).bind fun v8 =>
        some v8) := ⟨_, rfl⟩
    replace hm : (fun m (s : Int × Int) => law35_TariffParts_L1 n x1 names1 v5 kont1 m s.1 s.2) n (0, 0) = some r := by rw [hkont1]; exact hm
    refine loopX (id := 0) (fun m (s : Int × Int) => law35_TariffParts_L1 n x1 names1 v5 kont1 m s.1 s.2) (fun (y : Int) => kont1 y) r (fun (s : Int × Int) a w' => ∃ (Fx5 : Frz), Frz.le Fx4 Fx5 ∧ HS F w [] Fx5 [.box b1 24 [.int .i64 x1.Op, .int .i64 x1.N, vs x1.Name, .slice as1 ns1 cs1]] w' ∧ Has 106 a [(1, .slice as2 ns2 cs2), (2, .pointer (some ⟨b1, 0, none⟩)), (5, .bool v1), (7, .int .i64 v5.2), (8, .int .i64 s.1), (9, .int .i64 s.2)]) (fun (y : Int) a w' => ∃ (Fx6 : Frz), Frz.le Fx4 Fx6 ∧ HS F w [] Fx6 [.box b1 24 [.int .i64 x1.Op, .int .i64 x1.N, vs x1.Name, .slice as1 ns1 cs1]] w' ∧ Has 106 a [(2, .pointer (some ⟨b1, 0, none⟩)), (5, .bool v1), (7, .int .i64 v5.2), (8, .int .i64 y)]) (fun _ => rfl) ?_ ?_ hm ⟨_, Frz.refl _, hx5.pick [0] (by decide) rfl, hax17.cut (l := [1, 2, 5, 7, 8, 9]) rfl⟩
    ·clear hm; rintro first2 a wx7 hm ⟨Fx6, hF6, hx7, hax3⟩
     rw [hkont1] at hm
     replace hm := hm
     refine qw_apply (e := .exit 0) hax3 ?_
     refine q_block_hit (q_then (c_seq (c_seq (c_region (r_move rfl rfl rfl ?_)))))
     refine r_bin rfl rfl rfl rfl rfl ?_
     refine r_nil (q_then ?_)
     rcases cond_some hm with ⟨hb4, hm⟩ | ⟨hb4, hm⟩
     ·refine c_lit 64 rfl hb4 ?_
      refine c_true rfl (c_seq (c_region (r_move rfl rfl rfl (r_move rfl rfl rfl ?_))))
      obtain ⟨v6, hb5, hm⟩ := bind_some hm
      refine r_mid 8 (fun a w' => wx7 = w' ∧ Has 106 a [(74, .bool v6)]) ?_ ?_
      ·rintro a wx8 ⟨rfl, hax4⟩
       refine rw_apply hax4 ?_
       refine r_assign rfl rfl rfl (r_nil (q_then (c_ret (q_then_ret ?_))))
       refine b_ret1 rfl rfl ?_
       obtain rfl := Option.some.inj hm
       exact ⟨_, _, _, rfl, hx7.pick [] (by decide) rfl, rfl, rfl⟩
      ·clear hm
       rcases cond_some hb5 with ⟨hb6, hb5⟩ | ⟨hb6, hb5⟩
       ·refine r_lit 66 rfl hb6 ?_
        refine r_move rfl rfl rfl (r_move rfl rfl rfl ?_)
        refine r_bin rfl rfl rfl rfl rfl ?_
        refine r_move rfl rfl rfl ?_
        obtain ⟨v7, hb7, hb5⟩ := bind_some hb5
        refine r_mid 3 (fun a w' => wx7 = w' ∧ Has 106 a [(66, .bool true), (73, .bool v7)]) ?_ ?_
        ·rintro a wx9 ⟨rfl, hax5⟩
         refine rw_apply hax5 ?_
         refine r_pick_true rfl rfl rfl rfl (r_nil ?_)
         refine q_next (fun a ha => ?_)
         cases hb5
         exact ⟨rfl, ha.cut (l := [74]) rfl⟩
        ·clear hb5
         rcases cond_some hb7 with ⟨hb8, hb7⟩ | ⟨hb8, hb7⟩
         ·refine r_lit 70 rfl hb8 ?_
          refine r_off rfl (by decide) rfl (r_off rfl (by decide) rfl (r_pick_true rfl rfl rfl rfl (r_nil ?_)))
          refine q_next (fun a ha => ?_)
          cases hb7
          exact ⟨rfl, ha.cut (l := [66, 73]) rfl⟩
         ·refine r_lit 70 rfl hb8 ?_
          refine r_move rfl rfl rfl ?_
          refine r_bin rfl rfl rfl rfl rfl ?_
          refine r_pick_false rfl rfl rfl rfl (r_nil ?_)
          refine q_next (fun a ha => ?_)
          cases hb7
          exact ⟨rfl, ha.cut (l := [66, 73]) rfl⟩
       ·refine r_lit 66 rfl hb6 ?_
        refine r_off rfl (by decide) rfl (r_off rfl (by decide) rfl (r_off rfl (by decide) rfl (r_off rfl (by decide) rfl (r_off rfl (by decide) rfl (r_off rfl (by decide) rfl (r_off rfl (by decide) rfl (r_pick_false rfl rfl rfl rfl (r_nil ?_))))))))
        refine q_next (fun a ha => ?_)
        cases hb5
        exact ⟨rfl, ha.cut (l := [74]) rfl⟩
     ·refine c_lit 64 rfl hb4 ?_
      refine c_false rfl (c_skip (q_then (c_seq (c_region (r_move rfl rfl rfl (r_move rfl rfl rfl ?_))))))
      obtain ⟨v8, hb9, hm⟩ := bind_some hm
      refine r_mid 29 (fun a w' => wx7 = w' ∧ Has 106 a [(105, .bool v8)]) ?_ ?_
      ·rintro a wx10 ⟨rfl, hax6⟩
       refine rw_apply hax6 ?_
       refine r_assign rfl rfl rfl (r_nil (q_then (c_ret ?_)))
       refine b_ret1 rfl rfl ?_
       obtain rfl := Option.some.inj hm
       exact ⟨_, _, _, rfl, hx7.pick [] (by decide) rfl, rfl, rfl⟩
      ·clear hm
       rcases cond_some hb9 with ⟨hb10, hb9⟩ | ⟨hb10, hb9⟩
       ·refine r_lit 76 rfl hb10 ?_
        refine r_move rfl rfl rfl ?_
        refine r_bin rfl rfl rfl rfl rfl ?_
        refine r_move rfl rfl rfl ?_
        obtain ⟨v9, hb11, hb9⟩ := bind_some hb9
        refine r_mid 3 (fun a w' => wx7 = w' ∧ Has 106 a [(2, .pointer (some ⟨b1, 0, none⟩)), (7, .int .i64 v5.2), (76, .bool true), (82, .bool v9)]) ?_ ?_
        ·rintro a wx11 ⟨rfl, hax7⟩
         refine rw_apply hax7 ?_
         refine r_move rfl rfl rfl ?_
         obtain ⟨v10, hb12, hb9⟩ := bind_some hb9
         refine r_mid 3 (fun a w' => wx7 = w' ∧ Has 106 a [(2, .pointer (some ⟨b1, 0, none⟩)), (7, .int .i64 v5.2), (76, .bool true), (86, .bool v10)]) ?_ ?_
         ·rintro a wx12 ⟨rfl, hax8⟩
          refine rw_apply hax8 ?_
          refine r_move rfl rfl rfl ?_
          obtain ⟨v11, hb13, hb9⟩ := bind_some hb9
          refine r_mid 3 (fun a w' => wx7 = w' ∧ Has 106 a [(2, .pointer (some ⟨b1, 0, none⟩)), (7, .int .i64 v5.2), (76, .bool true), (90, .bool v11)]) ?_ ?_
          ·rintro a wx13 ⟨rfl, hax9⟩
           refine rw_apply hax9 ?_
           refine r_move rfl rfl rfl ?_
           obtain ⟨v12, hb14, hb9⟩ := bind_some hb9
           refine r_mid 3 (fun a w' => wx7 = w' ∧ Has 106 a [(2, .pointer (some ⟨b1, 0, none⟩)), (7, .int .i64 v5.2), (76, .bool true), (94, .bool v12)]) ?_ ?_
           ·rintro a wx14 ⟨rfl, hax10⟩
            refine rw_apply hax10 ?_
            refine r_move rfl rfl rfl ?_
            obtain ⟨v13, hb15, hb9⟩ := bind_some hb9
            refine r_mid 9 (fun a w' => wx7 = w' ∧ Has 106 a [(76, .bool true), (104, .bool v13)]) ?_ ?_
            ·rintro a wx15 ⟨rfl, hax11⟩
             refine rw_apply hax11 ?_
             refine r_pick_true rfl rfl rfl rfl (r_nil ?_)
             refine q_next (fun a ha => ?_)
             cases hb9
             exact ⟨rfl, ha.cut (l := [105]) rfl⟩
            ·clear hb9
             rcases cond_some hb15 with ⟨hb16, hb15⟩ | ⟨hb16, hb15⟩
             ·refine r_lit 95 rfl hb16 ?_
              refine r_off rfl (by decide) rfl (r_off rfl (by decide) rfl (r_off rfl (by decide) rfl (r_off rfl (by decide) rfl (r_off rfl (by decide) rfl (r_off rfl (by decide) rfl (r_off rfl (by decide) rfl (r_off rfl (by decide) rfl (r_pick_true rfl rfl rfl rfl (r_nil ?_)))))))))
              refine q_next (fun a ha => ?_)
              cases hb15
              exact ⟨rfl, ha.cut (l := [76, 104]) rfl⟩
             ·refine r_lit 95 rfl hb16 ?_
              refine r_move rfl rfl rfl ?_
              refine r_bin rfl rfl rfl rfl rfl ?_
              refine r_move rfl rfl rfl ?_
              obtain ⟨v14, hb17, hb15⟩ := bind_some hb15
              refine r_mid 5 (fun a w' => wx7 = w' ∧ Has 106 a [(76, .bool true), (95, .bool false), (103, .bool v14)]) ?_ ?_
              ·rintro a wx16 ⟨rfl, hax12⟩
               refine rw_apply hax12 ?_
               refine r_pick_false rfl rfl rfl rfl (r_nil ?_)
               refine q_next (fun a ha => ?_)
               cases hb15
               exact ⟨rfl, ha.cut (l := [76, 104]) rfl⟩
              ·clear hb15
               rcases cond_some hb17 with ⟨hb18, hb17⟩ | ⟨hb18, hb17⟩
               ·refine r_lit 98 rfl hb18 ?_
                refine r_fieldAddr fa24_3 rfl rfl rfl ?_
                refine r_loadB1 ag22 rfl rfl hx7 rfl (i := 0) rfl rfl ?_
                refine r_lenS hs1.len u22 rfl rfl rfl ?_
                refine r_bin rfl rfl rfl rfl rfl ?_
                refine r_pick_true rfl rfl rfl rfl (r_nil ?_)
                refine q_next (fun a ha => ?_)
                cases hb17
                exact ⟨rfl, ha.cut (l := [76, 95, 103]) rfl⟩
               ·refine r_lit 98 rfl hb18 ?_
                refine r_off rfl (by decide) rfl (r_off rfl (by decide) rfl (r_off rfl (by decide) rfl (r_off rfl (by decide) rfl (r_pick_false rfl rfl rfl rfl (r_nil ?_)))))
                refine q_next (fun a ha => ?_)
                cases hb17
                exact ⟨rfl, ha.cut (l := [76, 95, 103]) rfl⟩
           ·clear hb9
            rcases cond_some hb14 with ⟨hb19, hb14⟩ | ⟨hb19, hb14⟩
            ·refine r_lit 91 rfl hb19 ?_
             refine r_off rfl (by decide) rfl (r_off rfl (by decide) rfl (r_pick_true rfl rfl rfl rfl (r_nil ?_)))
             refine q_next (fun a ha => ?_)
             cases hb14
             exact ⟨rfl, ha.cut (l := [2, 7, 76, 94]) rfl⟩
            ·refine r_lit 91 rfl hb19 ?_
             refine r_move rfl rfl rfl ?_
             refine r_bin rfl rfl rfl rfl rfl ?_
             refine r_pick_false rfl rfl rfl rfl (r_nil ?_)
             refine q_next (fun a ha => ?_)
             cases hb14
             exact ⟨rfl, ha.cut (l := [2, 7, 76, 94]) rfl⟩
          ·clear hb9
           rcases cond_some hb13 with ⟨hb20, hb13⟩ | ⟨hb20, hb13⟩
           ·refine r_lit 87 rfl hb20 ?_
            refine r_off rfl (by decide) rfl (r_off rfl (by decide) rfl (r_pick_true rfl rfl rfl rfl (r_nil ?_)))
            refine q_next (fun a ha => ?_)
            cases hb13
            exact ⟨rfl, ha.cut (l := [2, 7, 76, 90]) rfl⟩
           ·refine r_lit 87 rfl hb20 ?_
            refine r_move rfl rfl rfl ?_
            refine r_bin rfl rfl rfl rfl rfl ?_
            refine r_pick_false rfl rfl rfl rfl (r_nil ?_)
            refine q_next (fun a ha => ?_)
            cases hb13
            exact ⟨rfl, ha.cut (l := [2, 7, 76, 90]) rfl⟩
         ·clear hb9
          rcases cond_some hb12 with ⟨hb21, hb12⟩ | ⟨hb21, hb12⟩
          ·refine r_lit 83 rfl hb21 ?_
           refine r_off rfl (by decide) rfl (r_off rfl (by decide) rfl (r_pick_true rfl rfl rfl rfl (r_nil ?_)))
           refine q_next (fun a ha => ?_)
           cases hb12
           exact ⟨rfl, ha.cut (l := [2, 7, 76, 86]) rfl⟩
          ·refine r_lit 83 rfl hb21 ?_
           refine r_move rfl rfl rfl ?_
           refine r_bin rfl rfl rfl rfl rfl ?_
           refine r_pick_false rfl rfl rfl rfl (r_nil ?_)
           refine q_next (fun a ha => ?_)
           cases hb12
           exact ⟨rfl, ha.cut (l := [2, 7, 76, 86]) rfl⟩
        ·clear hb9
         rcases cond_some hb11 with ⟨hb22, hb11⟩ | ⟨hb22, hb11⟩
         ·refine r_lit 79 rfl hb22 ?_
          refine r_off rfl (by decide) rfl (r_off rfl (by decide) rfl (r_pick_true rfl rfl rfl rfl (r_nil ?_)))
          refine q_next (fun a ha => ?_)
          cases hb11
          exact ⟨rfl, ha.cut (l := [2, 7, 76, 82]) rfl⟩
         ·refine r_lit 79 rfl hb22 ?_
          refine r_move rfl rfl rfl ?_
          refine r_bin rfl rfl rfl rfl rfl ?_
          refine r_pick_false rfl rfl rfl rfl (r_nil ?_)
          refine q_next (fun a ha => ?_)
          cases hb11
          exact ⟨rfl, ha.cut (l := [2, 7, 76, 82]) rfl⟩
       ·refine r_lit 76 rfl hb10 ?_
        refine r_off rfl (by decide) rfl (r_off rfl (by decide) rfl (r_off rfl (by decide) rfl (r_off rfl (by decide) rfl (r_off rfl (by decide) rfl (r_off rfl (by decide) rfl (r_off rfl (by decide) rfl (r_off rfl (by decide) rfl (r_off rfl (by decide) rfl (r_off rfl (by decide) rfl (r_off rfl (by decide) rfl (r_off rfl (by decide) rfl (r_off rfl (by decide) rfl (r_off rfl (by decide) rfl (r_off rfl (by decide) rfl (r_off rfl (by decide) rfl (r_off rfl (by decide) rfl (r_off rfl (by decide) rfl (r_off rfl (by decide) rfl (r_off rfl (by decide) rfl (r_off rfl (by decide) rfl (r_off rfl (by decide) rfl (r_off rfl (by decide) rfl (r_off rfl (by decide) rfl (r_off rfl (by decide) rfl (r_off rfl (by decide) rfl (r_off rfl (by decide) rfl (r_off rfl (by decide) rfl (r_pick_false rfl rfl rfl rfl (r_nil ?_)))))))))))))))))))))))))))))
        refine q_next (fun a ha => ?_)
        cases hb9
        exact ⟨rfl, ha.cut (l := [105]) rfl⟩
    ·clear hm hkont1; intro hk1 mx1 K ihx1
     rintro ⟨first1, i1⟩ a wx17 hm ⟨Fx5, hF5, hx6, hax13⟩
     simp only [law35_TariffParts_L1_s] at hm
     refine cw_apply hax13 ?_
     refine c_seq (c_seq (c_region (r_move rfl rfl rfl ?_)))
     refine r_fieldAddr fa24_3 rfl rfl rfl ?_
     refine r_loadB1 ag22 rfl rfl hx6 rfl (i := 0) rfl rfl ?_
     refine r_lenS hs1.len u22 rfl rfl rfl ?_
     refine r_bin rfl rfl rfl rfl rfl ?_
     refine r_nil (q_then ?_)
     rcases cond_some hm with ⟨hb23, hm⟩ | ⟨hb23, hm⟩
     ·refine c_lit 37 rfl hb23 ?_
      refine c_true rfl (c_skip (q_then (c_seq (c_block (c_seq (c_region ?_))))))
      refine r_fieldAddr fa24_3 rfl rfl rfl ?_
      refine r_loadB1 ag22 rfl rfl hx6 rfl (i := 0) rfl rfl ?_
      refine r_move rfl rfl rfl ?_
      obtain ⟨ex1, he1, hm⟩ := bind_some hm
      refine r_findex (r := rp_Expr) u22 sz24 rfl rfl rfl rfl (((((hs1.mono hF1).mono hF2).mono hF3).mono hF4).mono hF5) he1 ?_
      intro b2 o1 cs1 hf1 hr1
      obtain ⟨as3, ns3, cs3, hc1, hs3⟩ := expr_iff.1 hr1
      subst hc1
      refine r_loadFW ag24 sz24 rfl rfl hx6 hf1 rfl rfl ?_
      refine r_move rfl rfl rfl ?_
      have hG1 := (((hF1.trans hF2).trans hF3).trans hF4).trans hF5
      obtain ⟨v15, hv4, hm⟩ := bind_some hm
      refine r_callG0 ent13 rfl rfl rfl rfl hx6 (tariff_Type_ok _ _ _ _ hv4 hx6.sat hs3 (hs2.mono hG1)) ?_
      rintro _ Fx7 _ wx18 hF7 hx8 ⟨rfl, rfl⟩
      refine r_move rfl rfl rfl (r_extract rfl rfl rfl rfl (r_extract rfl rfl rfl rfl (r_assign rfl rfl rfl (r_assign rfl rfl rfl (r_nil (q_then (c_seq (c_seq (c_region (r_move rfl rfl rfl ?_))))))))))
      refine r_bin rfl rfl rfl rfl rfl ?_
      refine r_move rfl rfl rfl ?_
      obtain ⟨v16, hb24, hm⟩ := bind_some hm
      refine r_mid 3 (fun a w' => wx18 = w' ∧ Has 106 a [(1, .slice as2 ns2 cs2), (2, .pointer (some ⟨b1, 0, none⟩)), (5, .bool v1), (7, .int .i64 v5.2), (8, .int .i64 first1), (9, .int .i64 i1), (11, .int .i64 v15.2), (55, .bool v16)]) ?_ ?_
      ·rintro a wx19 ⟨rfl, hax14⟩
       refine rw_apply hax14 ?_
       refine r_nil (q_then ?_)
       obtain ⟨first3, hb25, hm⟩ := bind_some hm
       refine c_midT (fun a w' => wx18 = w' ∧ Has 106 a [(1, .slice as2 ns2 cs2), (2, .pointer (some ⟨b1, 0, none⟩)), (5, .bool v1), (7, .int .i64 v5.2), (8, .int .i64 first3), (9, .int .i64 i1), (11, .int .i64 v15.2)]) ?_ ?_
       ·rintro a wx20 ⟨rfl, hax15⟩
        refine cw_apply hax15 ?_
        refine c_seq (c_region (r_move rfl rfl rfl ?_))
        refine r_bin rfl rfl rfl rfl rfl ?_
        refine r_move rfl rfl rfl ?_
        obtain ⟨v17, hb26, hm⟩ := bind_some hm
        refine r_mid 3 (fun a w' => wx18 = w' ∧ Has 106 a [(1, .slice as2 ns2 cs2), (2, .pointer (some ⟨b1, 0, none⟩)), (5, .bool v1), (7, .int .i64 v5.2), (8, .int .i64 first3), (9, .int .i64 i1), (62, .bool v17)]) ?_ ?_
        ·rintro a wx21 ⟨rfl, hax16⟩
         refine rw_apply hax16 ?_
         refine r_nil (q_then ?_)
         rcases cond_some hm with ⟨hb27, hm⟩ | ⟨hb27, hm⟩
         ·refine c_lit 62 rfl hb27 ?_
          refine c_true rfl (c_seq (c_region (r_assign rfl rfl rfl (r_nil (q_then (c_ret (q_block_ret (q_then_ret (q_then_ret (q_block_ret (q_then_ret ?_)))))))))))
          refine b_ret1 rfl rfl ?_
          obtain rfl := Option.some.inj hm
          exact ⟨_, _, _, rfl, hx8.pick [] (by decide) rfl, rfl, rfl⟩
         ·refine c_lit 62 rfl hb27 ?_
          refine c_false rfl (c_skip (q_block (q_then (c_region (r_move rfl rfl rfl ?_)))))
          refine r_bin rfl rfl rfl rfl rfl ?_
          refine r_assign rfl rfl rfl (r_nil ?_)
          refine q_next (fun a ha => ihx1 (first3, (iadd .i64 i1 1)) a _ hm ?_)
          exact ⟨_, (hF5.trans hF7), hx8.pick [0] (by decide) rfl, ha.cut (l := [1, 2, 5, 7, 8, 9]) rfl⟩
        ·clear hm
         rcases cond_some hb26 with ⟨hb28, hb26⟩ | ⟨hb28, hb26⟩
         ·refine r_lit 59 rfl hb28 ?_
          refine r_move rfl rfl rfl ?_
          refine r_bin rfl rfl rfl rfl rfl ?_
          refine r_pick_true rfl rfl rfl rfl (r_nil ?_)
          refine q_next (fun a ha => ?_)
          cases hb26
          exact ⟨rfl, ha.cut (l := [1, 2, 5, 7, 8, 9, 62]) rfl⟩
         ·refine r_lit 59 rfl hb28 ?_
          refine r_off rfl (by decide) rfl (r_off rfl (by decide) rfl (r_pick_false rfl rfl rfl rfl (r_nil ?_)))
          refine q_next (fun a ha => ?_)
          cases hb26
          exact ⟨rfl, ha.cut (l := [1, 2, 5, 7, 8, 9, 62]) rfl⟩
       ·clear hm
        rcases cond_some hb25 with ⟨hb29, hb25⟩ | ⟨hb29, hb25⟩
        ·refine c_lit 55 rfl hb29 ?_
         refine c_true rfl (c_region (r_move rfl rfl rfl (r_assign rfl rfl rfl (r_nil ?_))))
         refine q_next (fun a ha => ?_)
         cases hb25
         exact ⟨rfl, ha.cut (l := [1, 2, 5, 7, 8, 9, 11]) rfl⟩
        ·refine c_lit 55 rfl hb29 ?_
         refine c_false rfl (c_skip ?_)
         refine q_next (fun a ha => ?_)
         cases hb25
         exact ⟨rfl, ha.cut (l := [1, 2, 5, 7, 8, 9, 11]) rfl⟩
      ·clear hm
       rcases cond_some hb24 with ⟨hb30, hb24⟩ | ⟨hb30, hb24⟩
       ·refine r_lit 52 rfl hb30 ?_
        refine r_move rfl rfl rfl ?_
        refine r_bin rfl rfl rfl rfl rfl ?_
        refine r_pick_true rfl rfl rfl rfl (r_nil ?_)
        refine q_next (fun a ha => ?_)
        cases hb24
        exact ⟨rfl, ha.cut (l := [1, 2, 5, 7, 8, 9, 11, 55]) rfl⟩
       ·refine r_lit 52 rfl hb30 ?_
        refine r_off rfl (by decide) rfl (r_off rfl (by decide) rfl (r_pick_false rfl rfl rfl rfl (r_nil ?_)))
        refine q_next (fun a ha => ?_)
        cases hb24
        exact ⟨rfl, ha.cut (l := [1, 2, 5, 7, 8, 9, 11, 55]) rfl⟩
     ·refine c_lit 37 rfl hb23 ?_
      refine c_false rfl (c_exit (q_then_exit (q_then_exit ?_)))
      refine fun a ha => hk1 first1 a _ hm ?_
      exact ⟨_, hF5, hx6.pick [0] (by decide) rfl, ha.cut (l := [2, 5, 7, 8]) rfl⟩
  ·clear hm
   rcases cond_some hb2 with ⟨hb31, hb2⟩ | ⟨hb31, hb2⟩
   ·refine r_lit 21 rfl hb31 ?_
    refine r_off rfl (by decide) rfl (r_off rfl (by decide) rfl (r_off rfl (by decide) rfl (r_pick_true rfl rfl rfl rfl (r_nil ?_))))
    refine q_next (fun a ha => ?_)
    cases hb2
    exact ⟨rfl, ha.cut (l := [1, 2, 5, 25]) rfl⟩
   ·refine r_lit 21 rfl hb31 ?_
    refine r_move rfl rfl rfl ?_
    obtain ⟨v18, hv5, hb2⟩ := bind_some hb2
    refine r_callP0 ent12 rfl rfl rfl rfl (law35_few_ok _ _ _ hv5 hx4.sat (((hs2.mono hF1).mono hF2).mono hF3)) ?_
    refine r_not rfl rfl rfl (r_pick_false rfl rfl rfl rfl (r_nil ?_))
    refine q_next (fun a ha => ?_)
    cases hb2
    exact ⟨rfl, ha.cut (l := [1, 2, 5, 25]) rfl⟩
 ·clear hm
  rcases cond_some hb1 with ⟨hb32, hb1⟩ | ⟨hb32, hb1⟩
  ·refine r_lit 16 rfl hb32 ?_
   refine r_off rfl (by decide) rfl (r_off rfl (by decide) rfl (r_off rfl (by decide) rfl (r_pick_true rfl rfl rfl rfl (r_nil ?_))))
   refine q_next (fun a ha => ?_)
   cases hb1
   exact ⟨_, Frz.refl _, hx3.pick [0] (by decide) rfl, ha.cut (l := [1, 2, 5, 20]) rfl⟩
  ·refine r_lit 16 rfl hb32 ?_
   refine r_loadBW ag24 sz24 rfl rfl hx3 rfl (i := 0) rfl rfl ?_
   obtain ⟨v19, hv6, hb1⟩ := bind_some hb1
   refine r_callG0 ent17 rfl rfl rfl rfl hx3 (law35_short_ok _ _ _ hv6 hx3.sat ((hs1.mono hF1).mono hF2)) ?_
   rintro _ Fx8 _ wx22 hF8 hx9 ⟨rfl, rfl⟩
   refine r_not rfl rfl rfl (r_pick_false rfl rfl rfl rfl (r_nil ?_))
   refine q_next (fun a ha => ?_)
   cases hb1
   exact ⟨_, hF8, hx9.pick [0] (by decide) rfl, ha.cut (l := [1, 2, 5, 20]) rfl⟩


end Go.Proofs.YtpihabofmnnbbaaDoor.M
