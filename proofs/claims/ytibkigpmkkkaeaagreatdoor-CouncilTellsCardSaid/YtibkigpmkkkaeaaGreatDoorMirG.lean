/-
  THE MIRRORS of the council's functions, of the tariff's and the lexer's, of the references and the laws, and that each call returns what its mirror says. Printed by gen.py.
-/
import Derived.Test.YtibkigpmkkkaeaaGreatDoorRows
import Derived.Test.YtibkigpmkkkaeaaGreatDoorRtH
import Derived.Test.YtibkigpmkkkaeaaGreatDoorExpr
import Derived.Test.YtibkigpmkkkaeaaGreatDoorMirF
namespace Go.Proofs.YtibkigpmkkkaeaaGreatDoor.M
open Go Go.RowKit Rt
structure Motion where
 Text : Bs
 Day : Int
 From : Int
 deriving DecidableEq, Inhabited
def rp_Motion : Rp Motion where
 k := 3
 R := fun _ cs x => cs = [vs x.Text, .int .i64 x.Day, .int .i64 x.From]
 len := by intros; simp_all
 mono := fun _ h => h
 one := by intro F cs x h u hu; subst h; simp at hu; rcases hu with rfl | rfl | rfl <;> rfl
theorem ent24 : Ent Tryz.prog 24 := fun _ _ => by kernel_rfl
theorem fa48_0 : FieldIs Tryz.prog 48 0 0 := fun _ _ _ => by kernel_rfl
theorem ent40 : Ent Tryz.prog 40 := fun _ _ => by kernel_rfl
theorem ent41 : Ent Tryz.prog 41 := fun _ _ => by kernel_rfl
theorem fa48_2 : FieldIs Tryz.prog 48 2 2 := fun _ _ _ => by kernel_rfl
theorem fa48_1 : FieldIs Tryz.prog 48 1 1 := fun _ _ _ => by kernel_rfl
def council_read (n : Nat) (mx1 : Motion) (names1 : (List Bs)) (notice1 : Int) : Option (Tariff × Int) :=
 (council_within n notice1 1000).bind fun v1 =>
 (bif !v1 then
  some true
 else
  (council_within n mx1.Day 100000).bind fun v7 =>
  some (!v7)).bind fun v2 =>
 (bif v2 then
  some true
 else
  (council_within n mx1.From 100000).bind fun v6 =>
  some (!v6)).bind fun v3 =>
 bif v3 then
  some ((⟨[], (⟨0, 0, [], []⟩ : Expr), 0⟩ : Tariff), 1)
 else
  (tariff_Parse n mx1.Text).bind fun v4 =>
  bif v4.2.2 != 0 then
   some ((⟨[], (⟨0, 0, [], []⟩ : Expr), 0⟩ : Tariff), v4.2.2)
  else
   (tariff_Check n v4.1 names1).bind fun v5 =>
   bif v5 != 0 then
    some ((⟨[], (⟨0, 0, [], []⟩ : Expr), 0⟩ : Tariff), v5)
   else
    bif decide ((isub .i64 mx1.From mx1.Day) < notice1) then
     some ((⟨[], (⟨0, 0, [], []⟩ : Expr), 0⟩ : Tariff), 18)
    else
     some (v4.1, 0)
set_option maxHeartbeats 1000000 in
set_option maxRecDepth 1000000 in
theorem council_read_ok (n : Nat) (mx1 : Motion) (names1 : (List Bs)) (notice1 : Int) (r : (Tariff × Int)) (hm : council_read n mx1 names1 notice1 = some r) {w : World} {F : Frz} (hs : Sat F w) {as1 : Option Addr} {ns1 : Nat} {cs1 : Nat} (hs1 : SlR Rp.str F as1 ns1 cs1 names1) (hg0 : FX F 0 [.int .u8 40, .int .u8 41, .int .u8 44, .int .u8 59, .int .u8 58, .int .u8 61, .int .u8 60, .int .u8 43, .int .u8 45, .int .u8 42, .int .u8 47, .int .u8 123, .int .u8 125]) :
  Calls Tryz.prog 25 #[.agg #[vs mx1.Text, .int .i64 mx1.Day, .int .i64 mx1.From], .slice as1 ns1 cs1, .int .i64 notice1] w fun e w' => ∃ v F' O', e = .returned v ∧ HS F w [] F' O' w' ∧ (∃ (a0_4 : Option Addr) (n0_4 : Nat) (c0_4 : Nat), v = .tuple #[.agg #[vs r.1.Name, .int .i64 r.1.Fee.Op, .int .i64 r.1.Fee.N, vs r.1.Fee.Name, .slice a0_4 n0_4 c0_4, .int .i64 r.1.Cap], .int .i64 r.2] ∧ O' = [] ∧ SlR rp_Expr F' a0_4 n0_4 c0_4 r.1.Fee.Args) := by
 unfold council_read at hm
 have h := HS.init hs
 refine calls_of 54 Tryz.func25 rfl rfl rfl ?_
 refine c_seq (c_region ?_)
 refine r_box rfl rfl rfl rfl h ?_
 intro b1 wx1 hx1
 refine r_alloc ze40 rfl rfl rfl hx1 ?_
 intro b2 wx2 hx2
 refine r_assign rfl rfl rfl (r_nil (q_then (c_seq (c_seq (c_region (r_move rfl rfl rfl ?_))))))
 obtain ⟨v1, hv1, hm⟩ := bind_some hm
 refine r_callP0 ent24 rfl rfl rfl rfl (council_within_ok _ _ _ _ hv1) ?_
 refine r_not rfl rfl rfl (r_move rfl rfl rfl ?_)
 obtain ⟨v2, hb1, hm⟩ := bind_some hm
 refine r_mid 5 (fun a w' => wx2 = w' ∧ Has 54 a [(1, .slice as1 ns1 cs1), (2, .int .i64 notice1), (3, .pointer (some ⟨b1, 0, none⟩)), (6, .pointer (some ⟨b2, 0, none⟩)), (19, .bool v2)]) ?_ ?_
 ·rintro a wx3 ⟨rfl, hax1⟩
  refine rw_apply hax1 ?_
  refine r_move rfl rfl rfl ?_
  obtain ⟨v3, hb2, hm⟩ := bind_some hm
  refine r_mid 5 (fun a w' => wx2 = w' ∧ Has 54 a [(1, .slice as1 ns1 cs1), (2, .int .i64 notice1), (3, .pointer (some ⟨b1, 0, none⟩)), (6, .pointer (some ⟨b2, 0, none⟩)), (25, .bool v3)]) ?_ ?_
  ·rintro a wx4 ⟨rfl, hax2⟩
   refine rw_apply hax2 ?_
   refine r_nil (q_then ?_)
   rcases cond_some hm with ⟨hb3, hm⟩ | ⟨hb3, hm⟩
   ·refine c_lit 25 rfl hb3 ?_
    refine c_true rfl (c_seq (c_region ?_))
    refine r_build (v := .agg #[vs [], .int .i64 0, .int .i64 0, vs [], .slice none 0 0, .int .i64 0]) rfl rfl rfl (fun _ => by kernel_rfl) ?_
    refine r_store sz40 rfl hx2 rfl rfl rfl rfl (i := 0) rfl rfl rfl rfl ?_
    intro wx5 hx3
    refine r_assign rfl rfl rfl (r_nil (q_then (c_ret (q_then_ret ?_))))
    refine b_retA (vl := [.agg #[vs [], .int .i64 0, .int .i64 0, vs [], .slice none 0 0, .int .i64 0], .int .i64 1]) rfl ⟨v_cell ag40 sz40 rfl hx3 rfl (i := 0) rfl, v_tmp rfl, trivial⟩ (by simp) ?_
    obtain rfl := Option.some.inj hm
    exact ⟨_, _, _, rfl, hx3.pick [] (by decide) rfl, none, 0, 0, rfl, rfl, SlR.nil _ _⟩
   ·refine c_lit 25 rfl hb3 ?_
    refine c_false rfl (c_skip (q_then (c_seq (c_region ?_))))
    refine r_fieldAddr fa48_0 rfl rfl rfl ?_
    refine r_loadB1 ag9 rfl rfl hx2 rfl (i := 1) rfl rfl ?_
    obtain ⟨v4, hv2, hm⟩ := bind_some hm
    refine r_callG0 ent40 rfl rfl rfl rfl hx2 (tariff_Parse_ok _ _ _ hv2 hx2.sat hg0) ?_
    rintro _ Fx1 _ wx6 hF1 hx4 ⟨as2, ns2, cs2, rfl, rfl, hs2⟩
    refine r_move rfl rfl rfl (r_extract rfl rfl rfl rfl (r_extract rfl rfl rfl rfl (r_extract rfl rfl rfl rfl ?_)))
    refine r_alloc ze40 rfl rfl rfl hx4 ?_
    intro b3 wx7 hx5
    refine r_store sz40 rfl hx5 rfl rfl rfl rfl (i := 0) rfl rfl rfl rfl ?_
    intro wx8 hx6
    refine r_assign rfl rfl rfl (r_assign rfl rfl rfl (r_nil (q_then (c_seq (c_seq (c_region (r_move rfl rfl rfl ?_)))))))
    refine r_bin rfl rfl rfl rfl rfl ?_
    refine r_nil (q_then ?_)
    rcases cond_some hm with ⟨hb4, hm⟩ | ⟨hb4, hm⟩
    ·refine c_lit 35 rfl hb4 ?_
     refine c_true rfl (c_seq (c_region ?_))
     refine r_build (v := .agg #[vs [], .int .i64 0, .int .i64 0, vs [], .slice none 0 0, .int .i64 0]) rfl rfl rfl (fun _ => by kernel_rfl) ?_
     refine r_move rfl rfl rfl ?_
     refine r_store sz40 rfl hx6 rfl rfl rfl rfl (i := 1) rfl rfl rfl rfl ?_
     intro wx9 hx7
     refine r_assign rfl rfl rfl (r_nil (q_then (c_ret (q_then_ret ?_))))
     refine b_retA (vl := [.agg #[vs [], .int .i64 0, .int .i64 0, vs [], .slice none 0 0, .int .i64 0], .int .i64 v4.2.2]) rfl ⟨v_cell ag40 sz40 rfl hx7 rfl (i := 1) rfl, v_tmp rfl, trivial⟩ (by simp) ?_
     obtain rfl := Option.some.inj hm
     exact ⟨_, _, _, rfl, hx7.pick [] (by decide) rfl, none, 0, 0, rfl, rfl, SlR.nil _ _⟩
    ·refine c_lit 35 rfl hb4 ?_
     refine c_false rfl (c_skip (q_then (c_seq (c_seq (c_region ?_)))))
     refine r_loadBW ag40 sz40 rfl rfl hx6 rfl (i := 0) rfl rfl ?_
     refine r_move rfl rfl rfl ?_
     obtain ⟨v5, hv3, hm⟩ := bind_some hm
     refine r_callG0 ent41 rfl rfl rfl rfl hx6 (tariff_Check_ok _ _ _ _ hv3 hx6.sat hs2 (hs1.mono hF1)) ?_
     rintro _ Fx2 _ wx10 hF2 hx8 ⟨rfl, rfl⟩
     refine r_assign rfl rfl rfl (r_nil (q_then (c_seq (c_region (r_move rfl rfl rfl ?_)))))
     refine r_bin rfl rfl rfl rfl rfl ?_
     refine r_nil (q_then ?_)
     rcases cond_some hm with ⟨hb5, hm⟩ | ⟨hb5, hm⟩
     ·refine c_lit 42 rfl hb5 ?_
      refine c_true rfl (c_seq (c_region ?_))
      refine r_build (v := .agg #[vs [], .int .i64 0, .int .i64 0, vs [], .slice none 0 0, .int .i64 0]) rfl rfl rfl (fun _ => by kernel_rfl) ?_
      refine r_move rfl rfl rfl ?_
      refine r_store sz40 rfl hx8 rfl rfl rfl rfl (i := 1) rfl rfl rfl rfl ?_
      intro wx11 hx9
      refine r_assign rfl rfl rfl (r_nil (q_then (c_ret (q_then_ret ?_))))
      refine b_retA (vl := [.agg #[vs [], .int .i64 0, .int .i64 0, vs [], .slice none 0 0, .int .i64 0], .int .i64 v5]) rfl ⟨v_cell ag40 sz40 rfl hx9 rfl (i := 1) rfl, v_tmp rfl, trivial⟩ (by simp) ?_
      obtain rfl := Option.some.inj hm
      exact ⟨_, _, _, rfl, hx9.pick [] (by decide) rfl, none, 0, 0, rfl, rfl, SlR.nil _ _⟩
     ·refine c_lit 42 rfl hb5 ?_
      refine c_false rfl (c_skip (q_then (c_seq (c_seq (c_region ?_)))))
      refine r_fieldAddr fa48_2 rfl rfl rfl ?_
      refine r_loadB1 ag3 rfl rfl hx8 rfl (i := 2) rfl rfl ?_
      refine r_fieldAddr fa48_1 rfl rfl rfl ?_
      refine r_loadB1 ag3 rfl rfl hx8 rfl (i := 2) rfl rfl ?_
      refine r_bin rfl rfl rfl rfl rfl ?_
      refine r_move rfl rfl rfl ?_
      refine r_bin rfl rfl rfl rfl rfl ?_
      refine r_nil (q_then ?_)
      rcases cond_some hm with ⟨hb6, hm⟩ | ⟨hb6, hm⟩
      ·refine c_lit 51 rfl hb6 ?_
       refine c_true rfl (c_seq (c_region ?_))
       refine r_build (v := .agg #[vs [], .int .i64 0, .int .i64 0, vs [], .slice none 0 0, .int .i64 0]) rfl rfl rfl (fun _ => by kernel_rfl) ?_
       refine r_store sz40 rfl hx8 rfl rfl rfl rfl (i := 1) rfl rfl rfl rfl ?_
       intro wx12 hx10
       refine r_assign rfl rfl rfl (r_nil (q_then (c_ret (q_then_ret ?_))))
       refine b_retA (vl := [.agg #[vs [], .int .i64 0, .int .i64 0, vs [], .slice none 0 0, .int .i64 0], .int .i64 18]) rfl ⟨v_cell ag40 sz40 rfl hx10 rfl (i := 1) rfl, v_tmp rfl, trivial⟩ (by simp) ?_
       obtain rfl := Option.some.inj hm
       exact ⟨_, _, _, rfl, hx10.pick [] (by decide) rfl, none, 0, 0, rfl, rfl, SlR.nil _ _⟩
      ·refine c_lit 51 rfl hb6 ?_
       refine c_false rfl (c_skip (q_then (c_seq (c_region ?_))))
       refine r_loadBW ag40 sz40 rfl rfl hx8 rfl (i := 0) rfl rfl ?_
       refine r_store sz40 rfl hx8 rfl rfl rfl rfl (i := 1) rfl rfl rfl rfl ?_
       intro wx13 hx11
       refine r_assign rfl rfl rfl (r_nil (q_then (c_ret ?_)))
       refine b_retA (vl := [.agg #[vs v4.1.Name, .int .i64 v4.1.Fee.Op, .int .i64 v4.1.Fee.N, vs v4.1.Fee.Name, .slice as2 ns2 cs2, .int .i64 v4.1.Cap], .int .i64 0]) rfl ⟨v_cell ag40 sz40 rfl hx11 rfl (i := 1) rfl, v_tmp rfl, trivial⟩ (by simp) ?_
       obtain rfl := Option.some.inj hm
       exact ⟨_, _, _, rfl, hx11.pick [] (by decide) rfl, as2, ns2, cs2, rfl, rfl, (hs2.mono hF2)⟩
  ·clear hm
   rcases cond_some hb2 with ⟨hb7, hb2⟩ | ⟨hb7, hb2⟩
   ·refine r_lit 20 rfl hb7 ?_
    refine r_off rfl (by decide) rfl (r_off rfl (by decide) rfl (r_off rfl (by decide) rfl (r_off rfl (by decide) rfl (r_pick_true rfl rfl rfl rfl (r_nil ?_)))))
    refine q_next (fun a ha => ?_)
    cases hb2
    exact ⟨rfl, ha.cut (l := [1, 2, 3, 6, 25]) rfl⟩
   ·refine r_lit 20 rfl hb7 ?_
    refine r_fieldAddr fa48_2 rfl rfl rfl ?_
    refine r_loadB1 ag3 rfl rfl hx2 rfl (i := 1) rfl rfl ?_
    obtain ⟨v6, hv4, hb2⟩ := bind_some hb2
    refine r_callP0 ent24 rfl rfl rfl rfl (council_within_ok _ _ _ _ hv4) ?_
    refine r_not rfl rfl rfl (r_pick_false rfl rfl rfl rfl (r_nil ?_))
    refine q_next (fun a ha => ?_)
    cases hb2
    exact ⟨rfl, ha.cut (l := [1, 2, 3, 6, 25]) rfl⟩
 ·clear hm
  rcases cond_some hb1 with ⟨hb8, hb1⟩ | ⟨hb8, hb1⟩
  ·refine r_lit 14 rfl hb8 ?_
   refine r_off rfl (by decide) rfl (r_off rfl (by decide) rfl (r_off rfl (by decide) rfl (r_off rfl (by decide) rfl (r_pick_true rfl rfl rfl rfl (r_nil ?_)))))
   refine q_next (fun a ha => ?_)
   cases hb1
   exact ⟨rfl, ha.cut (l := [1, 2, 3, 6, 19]) rfl⟩
  ·refine r_lit 14 rfl hb8 ?_
   refine r_fieldAddr fa48_1 rfl rfl rfl ?_
   refine r_loadB1 ag3 rfl rfl hx2 rfl (i := 1) rfl rfl ?_
   obtain ⟨v7, hv5, hb1⟩ := bind_some hb1
   refine r_callP0 ent24 rfl rfl rfl rfl (council_within_ok _ _ _ _ hv5) ?_
   refine r_not rfl rfl rfl (r_pick_false rfl rfl rfl rfl (r_nil ?_))
   refine q_next (fun a ha => ?_)
   cases hb1
   exact ⟨rfl, ha.cut (l := [1, 2, 3, 6, 19]) rfl⟩
theorem ag48 : IsAgg Tryz.prog 48 true := fun _ => by kernel_rfl
theorem sz48 : SizeIs Tryz.prog 48 3 := fun _ => by kernel_rfl
theorem ent25 : Ent Tryz.prog 25 := fun _ _ => by kernel_rfl
def council_Check (n : Nat) (mx1 : Motion) (names1 : (List Bs)) (notice1 : Int) : Option Int :=
 (council_read n mx1 names1 notice1).bind fun v1 =>
 some v1.2
set_option maxHeartbeats 1000000 in
set_option maxRecDepth 1000000 in
theorem council_Check_ok (n : Nat) (mx1 : Motion) (names1 : (List Bs)) (notice1 : Int) (r : Int) (hm : council_Check n mx1 names1 notice1 = some r) {w : World} {F : Frz} (hs : Sat F w) {as1 : Option Addr} {ns1 : Nat} {cs1 : Nat} (hs1 : SlR Rp.str F as1 ns1 cs1 names1) (hg0 : FX F 0 [.int .u8 40, .int .u8 41, .int .u8 44, .int .u8 59, .int .u8 58, .int .u8 61, .int .u8 60, .int .u8 43, .int .u8 45, .int .u8 42, .int .u8 47, .int .u8 123, .int .u8 125]) :
  Calls Tryz.prog 16 #[.agg #[vs mx1.Text, .int .i64 mx1.Day, .int .i64 mx1.From], .slice as1 ns1 cs1, .int .i64 notice1] w fun e w' => ∃ v F' O', e = .returned v ∧ HS F w [] F' O' w' ∧ (v = .int .i64 r ∧ O' = []) := by
 unfold council_Check at hm
 have h := HS.init hs
 refine calls_of 17 Tryz.func16 rfl rfl rfl ?_
 refine c_seq (c_region ?_)
 refine r_box rfl rfl rfl rfl h ?_
 intro b1 wx1 hx1
 refine r_assign rfl rfl rfl (r_nil (q_then (c_seq (c_region ?_))))
 refine r_loadBW ag48 sz48 rfl rfl hx1 rfl (i := 0) rfl rfl ?_
 refine r_move rfl rfl rfl (r_move rfl rfl rfl ?_)
 obtain ⟨v1, hv1, hm⟩ := bind_some hm
 refine r_callG0 ent25 rfl rfl rfl rfl hx1 (council_read_ok _ _ _ _ _ hv1 hx1.sat hs1 hg0) ?_
 rintro _ Fx1 _ wx2 hF1 hx2 ⟨as2, ns2, cs2, rfl, rfl, hs2⟩
 refine r_move rfl rfl rfl (r_extract rfl rfl rfl rfl (r_extract rfl rfl rfl rfl ?_))
 refine r_alloc ze40 rfl rfl rfl hx2 ?_
 intro b2 wx3 hx3
 refine r_store sz40 rfl hx3 rfl rfl rfl rfl (i := 0) rfl rfl rfl rfl ?_
 intro wx4 hx4
 refine r_assign rfl rfl rfl (r_nil (q_then (c_seq (c_region (r_move rfl rfl rfl (r_assign rfl rfl rfl (r_nil (q_then (c_ret ?_)))))))))
 refine b_ret1 rfl rfl ?_
 obtain rfl := Option.some.inj hm
 exact ⟨_, _, _, rfl, hx4.pick [] (by decide) rfl, rfl, rfl⟩
theorem ent9 : Ent Tryz.prog 9 := fun _ _ => by kernel_rfl
def council_Passes_L1 (n : Nat) (weights1 : (List Int)) (kont1 : Int → Option Bool) : Nat → Int → Int → Option Bool
 | 0, _, _ => none
 | mx1 + 1, all1, i1 =>
  bif decide (i1 < (weights1.length : Int)) then
   (ix weights1 i1).bind fun ex1 =>
   council_Passes_L1 n weights1 kont1 mx1 (iadd .i64 all1 ex1) (iadd .i64 i1 1)
  else
   kont1 all1
theorem council_Passes_L1_s (n : Nat) (weights1 : (List Int)) (kont1 : Int → Option Bool) (mx1 : Nat) (all1 : Int) (i1 : Int) : council_Passes_L1 n weights1 kont1 (mx1 + 1) all1 i1 =
  bif decide (i1 < (weights1.length : Int)) then
   (ix weights1 i1).bind fun ex1 =>
   council_Passes_L1 n weights1 kont1 mx1 (iadd .i64 all1 ex1) (iadd .i64 i1 1)
  else
   kont1 all1 := rfl
def council_Passes (n : Nat) (weights1 : (List Int)) (votes1 : (List Vote)) (motion1 : Int) : Option Bool :=
 (council_right n weights1).bind fun v1 =>
 bif !v1 then
  some false
 else
  (council_Count n weights1 votes1 motion1).bind fun v2 =>
  council_Passes_L1 n weights1 (fun (all2 : Int) =>
   some (decide (all2 < (imul .i64 2 v2.1)))) n 0 0
set_option maxHeartbeats 1000000 in
set_option maxRecDepth 1000000 in
theorem council_Passes_ok (n : Nat) (weights1 : (List Int)) (votes1 : (List Vote)) (motion1 : Int) (r : Bool) (hm : council_Passes n weights1 votes1 motion1 = some r) {w : World} {F : Frz} (hs : Sat F w) {as1 : Option Addr} {ns1 : Nat} {cs1 : Nat} {as2 : Option Addr} {ns2 : Nat} {cs2 : Nat} (hs1 : SlR (Rp.int .i64) F as1 ns1 cs1 weights1) (hs2 : SlR rp_Vote F as2 ns2 cs2 votes1) :
  Calls Tryz.prog 18 #[.slice as1 ns1 cs1, .slice as2 ns2 cs2, .int .i64 motion1] w fun e w' => ∃ v F' O', e = .returned v ∧ HS F w [] F' O' w' ∧ (v = .bool r ∧ O' = []) := by
 unfold council_Passes at hm
 have h := HS.init hs
 refine calls_of 36 Tryz.func18 rfl rfl rfl ?_
 refine c_seq (c_region (r_assign rfl rfl rfl (r_nil (q_then (c_seq (c_seq (c_region (r_move rfl rfl rfl ?_))))))))
 obtain ⟨v1, hv1, hm⟩ := bind_some hm
 refine r_callG0 ent23 rfl rfl rfl rfl h (council_right_ok _ _ _ hv1 h.sat hs1) ?_
 rintro _ Fx1 _ wx1 hF1 hx1 ⟨rfl, rfl⟩
 refine r_not rfl rfl rfl (r_nil (q_then ?_))
 rcases cond_some hm with ⟨hb1, hm⟩ | ⟨hb1, hm⟩
 ·refine c_lit 14 rfl hb1 ?_
  refine c_true rfl (c_seq (c_region (r_assign rfl rfl rfl (r_nil (q_then (c_ret (q_then_ret ?_)))))))
  refine b_ret1 rfl rfl ?_
  obtain rfl := Option.some.inj hm
  exact ⟨_, _, _, rfl, hx1.pick [] (by decide) rfl, rfl, rfl⟩
 ·refine c_lit 14 rfl hb1 ?_
  refine c_false rfl (c_skip (q_then (c_seq (c_region (r_move rfl rfl rfl (r_move rfl rfl rfl (r_move rfl rfl rfl ?_)))))))
  obtain ⟨v2, hv2, hm⟩ := bind_some hm
  refine r_callG0 ent9 rfl rfl rfl rfl hx1 (council_Count_ok _ _ _ _ _ hv2 hx1.sat (hs1.mono hF1) (hs2.mono hF1)) ?_
  rintro _ Fx2 _ wx2 hF2 hx2 ⟨rfl, rfl⟩
  refine r_move rfl rfl rfl (r_extract rfl rfl rfl rfl (r_extract rfl rfl rfl rfl (r_assign rfl rfl rfl (r_assign rfl rfl rfl (r_nil (q_then (c_seq (c_region (r_assign rfl rfl rfl (r_nil (q_then (c_seq (c_seq (c_region (r_move rfl rfl rfl ?_)))))))))))))))
  refine r_lenS hs1.len u24 rfl rfl rfl ?_
  refine r_move rfl rfl rfl (r_nil (q_then (c_block ?_)))
  intro a hax3
  obtain ⟨kont1, hkont1⟩ : ∃ kont1 : Int → Option Bool, kont1 = (fun (all2 : Int) =>
       some (decide (all2 < (imul .i64 2 v2.1)))) := ⟨_, rfl⟩
  replace hm : (fun m (s : Int × Int) => council_Passes_L1 n weights1 kont1 m s.1 s.2) n (0, 0) = some r := by rw [hkont1]; exact hm
  refine loopX (id := 0) (fun m (s : Int × Int) => council_Passes_L1 n weights1 kont1 m s.1 s.2) (fun (y : Int) => kont1 y) r (fun (s : Int × Int) a w' => wx2 = w' ∧ Has 36 a [(7, .int .i64 v2.1), (9, .int .i64 s.1), (22, .slice as1 ns1 cs1), (23, .int .i64 (weights1.length : Int)), (24, .int .i64 s.2)]) (fun (y : Int) a w' => wx2 = w' ∧ Has 36 a [(7, .int .i64 v2.1), (9, .int .i64 y)]) (fun _ => rfl) ?_ ?_ hm ⟨rfl, hax3.cut (l := [7, 9, 22, 23, 24]) rfl⟩
  ·clear hm; rintro all2 a wx3 hm ⟨rfl, hax1⟩
   rw [hkont1] at hm
   replace hm := hm
   refine qw_apply (e := .exit 0) hax1 ?_
   refine q_block_hit (q_then (c_seq (c_region (r_move rfl rfl rfl ?_))))
   refine r_bin rfl rfl rfl rfl rfl ?_
   refine r_move rfl rfl rfl ?_
   refine r_bin rfl rfl rfl rfl rfl ?_
   refine r_assign rfl rfl rfl (r_nil (q_then (c_ret ?_)))
   refine b_ret1 rfl rfl ?_
   obtain rfl := Option.some.inj hm
   exact ⟨_, _, _, rfl, hx2.pick [] (by decide) rfl, rfl, rfl⟩
  ·clear hm hkont1; intro hk1 mx1 K ihx1
   rintro ⟨all1, i1⟩ a wx4 hm ⟨rfl, hax2⟩
   simp only [council_Passes_L1_s] at hm
   refine cw_apply hax2 ?_
   refine c_seq (c_region ?_)
   refine r_bin rfl rfl rfl rfl rfl ?_
   refine r_nil (q_then (c_seq ?_))
   rcases cond_some hm with ⟨hb2, hm⟩ | ⟨hb2, hm⟩
   ·refine c_lit 25 rfl hb2 ?_
    refine c_true rfl (c_skip (q_then (c_seq (c_block (c_seq (c_region ?_))))))
    obtain ⟨ex1, he1, hm⟩ := bind_some hm
    refine r_findex (r := (Rp.int .i64)) u24 sz3 rfl rfl rfl rfl ((hs1.mono hF1).mono hF2) he1 ?_
    intro b1 o1 cs1 hf1 hr1
    have hc1 : cs1 = [.int .i64 ex1] := hr1
    subst hc1
    refine r_loadF1 (j := 0) ag3 rfl rfl hx2 hf1 rfl rfl ?_
    refine r_assign rfl rfl rfl (r_nil (q_then (c_region (r_move rfl rfl rfl (r_move rfl rfl rfl ?_)))))
    refine r_bin rfl rfl rfl rfl rfl ?_
    refine r_assign rfl rfl rfl (r_nil (q_block (q_then (c_region ?_))))
    refine r_bin rfl rfl rfl rfl rfl ?_
    refine r_move rfl rfl rfl (r_nil ?_)
    refine q_next (fun a ha => ihx1 ((iadd .i64 all1 ex1), (iadd .i64 i1 1)) a _ hm ?_)
    exact ⟨rfl, ha.cut (l := [7, 9, 22, 23, 24]) rfl⟩
   ·refine c_lit 25 rfl hb2 ?_
    refine c_false rfl (c_exit (q_then_exit (q_then_exit ?_)))
    refine fun a ha => hk1 all1 a _ hm ?_
    exact ⟨rfl, ha.cut (l := [7, 9]) rfl⟩
def slices_Clone_api_Expr_api_Expr (_n : Nat) (s1 : (List Expr)) : Option (List Expr) := app 56 [] s1
set_option maxHeartbeats 1000000 in
theorem slices_Clone_api_Expr_api_Expr_ok (n : Nat) (s1 : (List Expr)) (r : (List Expr)) (hm : slices_Clone_api_Expr_api_Expr n s1 = some r) {w : World} {F : Frz} (hs : Sat F w) {as1 : Option Addr} {ns1 : Nat} {cs1 : Nat} (hs1 : SlR rp_Expr F as1 ns1 cs1 s1) :
  Calls Tryz.prog 74 #[.slice as1 ns1 cs1] w fun e w' => ∃ v F' O', e = .returned v ∧ HS F w [] F' O' w' ∧ (∃ (a0_0 : Option Addr) (n0_0 : Nat) (c0_0 : Nat) (xs0_0 : List Value), v = .slice a0_0 n0_0 c0_0 ∧ O' = [.row 38 4 a0_0 n0_0 c0_0 xs0_0] ∧ RowN rp_Expr F' n0_0 xs0_0 r) := by
 unfold slices_Clone_api_Expr_api_Expr at hm
 have h := HS.init hs
 refine calls_of (args := [.slice as1 ns1 cs1]) 8 Tryz.func74 rfl rfl rfl ?_
 refine c_seq (c_region (r_assign rfl rfl rfl (r_nil (q_then (c_seq (c_seq (c_region (r_move rfl rfl rfl ?_))))))))
 refine r_snil u36 rfl rfl rfl ?_
 refine r_nil (q_then ?_)
 cases as1 with
 | none =>
  have h0 : s1 = [] := by
   rcases hs1.2.2.2 with h0 | ⟨_, _, _, h0, _⟩
   ·exact h0
   ·cases h0
  subst h0
  simp only [app, List.length_nil, Nat.add_zero, Nat.zero_mul, Nat.zero_le, if_true, List.append_nil, Option.some.injEq] at hm
  subst hm
  refine c_true rfl (c_seq (c_region (r_assign rfl rfl rfl (r_nil (q_then (c_ret (q_then_ret ?_)))))))
  refine b_ret1 rfl rfl ?_
  exact ⟨_, _, _, rfl, h.nilRow 38 4, none, 0, 0, [], rfl, rfl, rfl, rfl⟩
 | some ad =>
  refine c_false rfl (c_skip (q_then (c_seq (c_region ?_))))
  refine r_buildSlice (e := 38) (cs := []) (q := 4) rfl rfl h rfl (fun _ => by kernel_rfl) rfl rfl ?_
  intro b1 w1 h1
  refine r_move rfl rfl rfl ?_
  refine r_appendF (r := rp_Expr) ap36 rfl rfl rfl h1 rfl rfl (i := 0) rfl (show RowN rp_Expr _ 0 [] [] from ⟨rfl, rfl⟩) hs1 hm ?_
  intro a2 c2 w2 xs2 h2 hr2
  refine r_assign rfl rfl rfl (r_nil (q_then (c_ret ?_)))
  refine b_ret1 rfl rfl ?_
  exact ⟨_, _, _, rfl, h2, a2, _, c2, xs2, rfl, rfl, hr2⟩
theorem ent74 : Ent Tryz.prog 74 := fun _ _ => by kernel_rfl
theorem ent50 : Ent Tryz.prog 50 := fun _ _ => by kernel_rfl
def council_clone_L1 (n : Nat) (rec_council_clone : Expr → Option Expr) (v1 : (List Expr)) (kont1 : (List Expr) → Option Expr) : Nat → Int → (List Expr) → Option Expr
 | 0, _, _ => none
 | mx1 + 1, i1, l1 =>
  bif decide (i1 < (v1.length : Int)) then
   (ix l1 i1).bind fun ex1 =>
   (rec_council_clone ex1).bind fun v2 =>
   (ix l1 i1).bind fun _ =>
   (lset l1 i1 v2).bind fun l3 =>
   council_clone_L1 n rec_council_clone v1 kont1 mx1 (iadd .i64 i1 1) l3
  else
   kont1 l1
theorem council_clone_L1_s (n : Nat) (rec_council_clone : Expr → Option Expr) (v1 : (List Expr)) (kont1 : (List Expr) → Option Expr) (mx1 : Nat) (i1 : Int) (l1 : List Expr) : council_clone_L1 n rec_council_clone v1 kont1 (mx1 + 1) i1 l1 =
  bif decide (i1 < (v1.length : Int)) then
   (ix l1 i1).bind fun ex1 =>
   (rec_council_clone ex1).bind fun v2 =>
   (ix l1 i1).bind fun _ =>
   (lset l1 i1 v2).bind fun l3 =>
   council_clone_L1 n rec_council_clone v1 kont1 mx1 (iadd .i64 i1 1) l3
  else
   kont1 l1 := rfl
def council_clone : Nat → Expr → Option Expr
 | 0, _ => none
 | n + 1, x1 =>
  (slices_Clone_api_Expr_api_Expr n x1.Args).bind fun v1 =>
  council_clone_L1 n (council_clone n) v1 (fun (l2 : List Expr) =>
   some (⟨x1.Op, x1.N, x1.Name, l2⟩ : Expr)) n 0 v1
theorem council_clone_s (n : Nat) (x1 : Expr) : council_clone (n + 1) x1 =
  (slices_Clone_api_Expr_api_Expr n x1.Args).bind fun v1 =>
  council_clone_L1 n (council_clone n) v1 (fun (l2 : List Expr) =>
   some (⟨x1.Op, x1.N, x1.Name, l2⟩ : Expr)) n 0 v1 := rfl
set_option maxHeartbeats 1000000 in
set_option maxRecDepth 1000000 in
theorem council_clone_all (n : Nat) : (∀ (x1 : Expr) (r : Expr) (_ : council_clone n x1 = some r) {w : World} {F : Frz} (_ : Sat F w) {as1 : Option Addr} {ns1 : Nat} {cs1 : Nat} (_ : SlR rp_Expr F as1 ns1 cs1 x1.Args), Calls Tryz.prog 50 #[.agg #[.int .i64 x1.Op, .int .i64 x1.N, vs x1.Name, .slice as1 ns1 cs1]] w fun e w' => ∃ v F' O', e = .returned v ∧ HS F w [] F' O' w' ∧ (∃ (a0_3 : Option Addr) (n0_3 : Nat) (c0_3 : Nat), v = .agg #[.int .i64 r.Op, .int .i64 r.N, vs r.Name, .slice a0_3 n0_3 c0_3] ∧ O' = [] ∧ SlR rp_Expr F' a0_3 n0_3 c0_3 r.Args)) := by
 induction n with
 | zero =>
  ·intro x1 r hm
   exact absurd (show (none : Option Expr) = some r from hm) (by simp)
 | succ n ih =>
  ·intro x1 r hm w F hs as1 ns1 cs1 hs1
   rw [council_clone_s] at hm
   have h := HS.init hs
   refine calls_of 25 Tryz.func50 rfl rfl rfl ?_
   refine c_seq (c_region ?_)
   refine r_box rfl rfl rfl rfl h ?_
   intro b1 wx1 hx1
   refine r_alloc ze38 rfl rfl rfl hx1 ?_
   intro b2 wx2 hx2
   refine r_nil (q_then (c_seq (c_region ?_)))
   refine r_fieldAddr fa38_3 rfl rfl rfl ?_
   refine r_loadB1 ag36 rfl rfl hx2 rfl (i := 1) rfl rfl ?_
   obtain ⟨v1, hv1, hm⟩ := bind_some hm
   refine r_callG0 ent74 rfl rfl rfl rfl hx2 (slices_Clone_api_Expr_api_Expr_ok _ _ _ hv1 hx2.sat hs1) ?_
   rintro _ Fx1 _ wx3 hF1 hx3 ⟨as2, ns2, cs2, xss2, rfl, rfl, hs2⟩
   refine r_assign rfl rfl rfl (r_nil (q_then (c_seq (c_seq (c_region (r_move rfl rfl rfl ?_))))))
   refine r_lenS hs2.len u36 rfl rfl rfl ?_
   refine r_move rfl rfl rfl (r_nil (q_then (c_block ?_)))
   intro a hax5
   obtain ⟨kont1, hkont1⟩ : ∃ kont1 : (List Expr) → Option Expr, kont1 = (fun (l2 : List Expr) =>
       some (⟨x1.Op, x1.N, x1.Name, l2⟩ : Expr)) := ⟨_, rfl⟩
   replace hm : (fun m (s : Int × List Expr) => council_clone_L1 n (council_clone n) v1 kont1 m s.1 s.2) n (0, v1) = some r := by rw [hkont1]; exact hm
   refine loopX (id := 0) (fun m (s : Int × List Expr) => council_clone_L1 n (council_clone n) v1 kont1 m s.1 s.2) (fun (y : List Expr) => kont1 y) r (fun (s : Int × List Expr) a w' => ∃ (Fx2 : Frz) (as3 : Option Addr) (ns3 : Nat) (cs3 : Nat) (xss3 : List Value), Frz.le Fx1 Fx2 ∧ HS F w [] Fx2 [.row 38 4 as3 ns3 cs3 xss3, .box b2 38 [.int .i64 0, .int .i64 0, vs [], .slice none 0 0], .box b1 38 [.int .i64 x1.Op, .int .i64 x1.N, vs x1.Name, .slice as1 ns1 cs1]] w' ∧ (RowN rp_Expr Fx2 ns3 xss3 s.2) ∧ Has 25 a [(1, .pointer (some ⟨b1, 0, none⟩)), (2, .pointer (some ⟨b2, 0, none⟩)), (3, .slice as3 ns3 cs3), (9, .int .i64 (v1.length : Int)), (10, .int .i64 s.1)]) (fun (y : List Expr) a w' => ∃ (Fx3 : Frz) (as4 : Option Addr) (ns4 : Nat) (cs4 : Nat) (xss4 : List Value), Frz.le Fx1 Fx3 ∧ HS F w [] Fx3 [.row 38 4 as4 ns4 cs4 xss4, .box b2 38 [.int .i64 0, .int .i64 0, vs [], .slice none 0 0], .box b1 38 [.int .i64 x1.Op, .int .i64 x1.N, vs x1.Name, .slice as1 ns1 cs1]] w' ∧ (RowN rp_Expr Fx3 ns4 xss4 y) ∧ Has 25 a [(1, .pointer (some ⟨b1, 0, none⟩)), (2, .pointer (some ⟨b2, 0, none⟩)), (3, .slice as4 ns4 cs4)]) (fun _ => rfl) ?_ ?_ hm ⟨_, as2, ns2, cs2, xss2, Frz.refl _, hx3.pick [0, 1, 2] (by decide) rfl, hs2, hax5.cut (l := [1, 2, 3, 9, 10]) rfl⟩
   ·clear hm; rintro l2 a wx4 hm ⟨Fx3, as4, ns4, cs4, xss4, hF3, hx5, hs4, hax1⟩
    rw [hkont1] at hm
    replace hm := hm
    refine qw_apply (e := .exit 0) hax1 ?_
    refine q_block_hit (q_then (c_seq (c_region (r_move rfl rfl rfl ?_))))
    refine r_fieldAddr fa38_3 rfl rfl rfl ?_
    refine r_store sz36 rfl hx5 rfl rfl rfl rfl (i := 2) rfl rfl rfl rfl ?_
    intro wx5 hx6
    refine r_nil (q_then (c_seq (c_region ?_)))
    refine r_loadBW ag38 sz38 rfl rfl hx6 rfl (i := 2) rfl rfl ?_
    refine r_store sz38 rfl hx6 rfl rfl rfl rfl (i := 1) rfl rfl rfl rfl ?_
    intro wx6 hx7
    refine r_nil (q_then (c_ret ?_))
    obtain ⟨Fx4, hF4, hx8, hsx1⟩ := freezeRow hx7 (i := 0) rfl hs4
    refine b_retC rfl ag38 sz38 rfl hx8 rfl (i := 0) rfl ?_
    obtain rfl := Option.some.inj hm
    exact ⟨_, _, _, rfl, hx8.pick [] (by decide) rfl, as4, ns4, cs4, rfl, rfl, hsx1⟩
   ·clear hm hkont1; intro hk1 mx1 K ihx1
    rintro ⟨i1, l1⟩ a wx7 hm ⟨Fx2, as3, ns3, cs3, xss3, hF2, hx4, hs3, hax2⟩
    simp only [council_clone_L1_s] at hm
    refine cw_apply hax2 ?_
    refine c_seq (c_region ?_)
    refine r_bin rfl rfl rfl rfl rfl ?_
    refine r_nil (q_then (c_seq ?_))
    rcases cond_some hm with ⟨hb1, hm⟩ | ⟨hb1, hm⟩
    ·refine c_lit 11 rfl hb1 ?_
     refine c_true rfl (c_skip (q_then (c_seq (c_block (c_seq (c_region (r_move rfl rfl rfl (r_assign rfl rfl rfl (r_nil (q_then (c_region (r_move rfl rfl rfl (r_move rfl rfl rfl (r_move rfl rfl rfl (r_move rfl rfl rfl ?_)))))))))))))))
     obtain ⟨ex1, he1, hm⟩ := bind_some hm
     refine r_rindex (r := rp_Expr) u36 sz38 rfl rfl hx4 rfl rfl (p := 0) rfl rfl hs3 he1 ?_
     intro b3 o1 cs1 hax3 ho1 hr1 hp1
     obtain ⟨as5, ns5, cs5, hc1, hs5⟩ := expr_iff.1 hr1
     subst hc1
     refine r_loadRA (j := 0) (cs' := [.int .i64 ex1.Op, .int .i64 ex1.N, vs ex1.Name, .slice as5 ns5 cs5]) ag38 sz38 rfl rfl hx4 rfl (p := 0) rfl rfl hax3 ho1 hp1 rfl rfl ?_
     obtain ⟨v2, hv2, hm⟩ := bind_some hm
     refine r_callG0 ent50 rfl rfl rfl rfl hx4 (ih _ _ hv2 hx4.sat hs5) ?_
     rintro _ Fx5 _ wx8 hF5 hx9 ⟨as6, ns6, cs6, rfl, rfl, hs6⟩
     obtain ⟨ex2, he2, hm⟩ := bind_some hm
     refine r_rindex (r := rp_Expr) u36 sz38 rfl rfl hx9 rfl rfl (p := 0) rfl rfl (hs3.mono hF5) he2 ?_
     intro b4 o2 cs2 hax4 ho2 hr2 hp2
     obtain ⟨as7, ns7, cs7, hc2, hs7⟩ := expr_iff.1 hr2
     subst hc2
     obtain ⟨l3, hl1, hm⟩ := bind_some hm
     refine r_storeRW (r := rp_Expr) sz38 rfl hx9 rfl rfl rfl rfl rfl (p := 0) rfl rfl hax4 ho2 (hs3.mono hF5) rfl (expr_iff.2 ⟨as6, ns6, cs6, rfl, hs6⟩) hl1 ?_
     intro wx9 xs1 hx10 hr3
     refine r_nil (q_block (q_then (c_region ?_)))
     refine r_bin rfl rfl rfl rfl rfl ?_
     refine r_move rfl rfl rfl (r_nil ?_)
     refine q_next (fun a ha => ihx1 ((iadd .i64 i1 1), l3) a _ hm ?_)
     exact ⟨_, as3, ns3, cs3, xs1, (hF2.trans hF5), hx10.pick [0, 1, 2] (by decide) rfl, hr3, ha.cut (l := [1, 2, 3, 9, 10]) rfl⟩
    ·refine c_lit 11 rfl hb1 ?_
     refine c_false rfl (c_exit (q_then_exit (q_then_exit ?_)))
     refine fun a ha => hk1 l1 a _ hm ?_
     exact ⟨_, as3, ns3, cs3, xss3, hF2, hx4.pick [0, 1, 2] (by decide) rfl, hs3, ha.cut (l := [1, 2, 3]) rfl⟩
theorem council_clone_ok (n : Nat) (x1 : Expr) (r : Expr) (hm : council_clone n x1 = some r) {w : World} {F : Frz} (hs : Sat F w) {as1 : Option Addr} {ns1 : Nat} {cs1 : Nat} (hs1 : SlR rp_Expr F as1 ns1 cs1 x1.Args) :
  Calls Tryz.prog 50 #[.agg #[.int .i64 x1.Op, .int .i64 x1.N, vs x1.Name, .slice as1 ns1 cs1]] w fun e w' => ∃ v F' O', e = .returned v ∧ HS F w [] F' O' w' ∧ (∃ (a0_3 : Option Addr) (n0_3 : Nat) (c0_3 : Nat), v = .agg #[.int .i64 r.Op, .int .i64 r.N, vs r.Name, .slice a0_3 n0_3 c0_3] ∧ O' = [] ∧ SlR rp_Expr F' a0_3 n0_3 c0_3 r.Args) :=
 (council_clone_all n) x1 r hm hs hs1
def council_copied (n : Nat) (t1 : Tariff) : Option Tariff :=
 (council_clone n t1.Fee).bind fun v1 =>
 some (⟨t1.Name, v1, t1.Cap⟩ : Tariff)
set_option maxHeartbeats 1000000 in
set_option maxRecDepth 1000000 in
theorem council_copied_ok (n : Nat) (t1 : Tariff) (r : Tariff) (hm : council_copied n t1 = some r) {w : World} {F : Frz} (hs : Sat F w) {as1 : Option Addr} {ns1 : Nat} {cs1 : Nat} (hs1 : SlR rp_Expr F as1 ns1 cs1 t1.Fee.Args) :
  Calls Tryz.prog 31 #[.agg #[vs t1.Name, .int .i64 t1.Fee.Op, .int .i64 t1.Fee.N, vs t1.Fee.Name, .slice as1 ns1 cs1, .int .i64 t1.Cap]] w fun e w' => ∃ v F' O', e = .returned v ∧ HS F w [] F' O' w' ∧ (∃ (a0_4 : Option Addr) (n0_4 : Nat) (c0_4 : Nat), v = .agg #[vs r.Name, .int .i64 r.Fee.Op, .int .i64 r.Fee.N, vs r.Fee.Name, .slice a0_4 n0_4 c0_4, .int .i64 r.Cap] ∧ O' = [] ∧ SlR rp_Expr F' a0_4 n0_4 c0_4 r.Fee.Args) := by
 unfold council_copied at hm
 have h := HS.init hs
 refine calls_of 8 Tryz.func31 rfl rfl rfl ?_
 refine c_seq (c_region ?_)
 refine r_box rfl rfl rfl rfl h ?_
 intro b1 wx1 hx1
 refine r_alloc ze40 rfl rfl rfl hx1 ?_
 intro b2 wx2 hx2
 refine r_nil (q_then (c_seq (c_region ?_)))
 refine r_fieldAddr fa40_1 rfl rfl rfl ?_
 refine r_loadBA (cs' := [.int .i64 t1.Fee.Op, .int .i64 t1.Fee.N, vs t1.Fee.Name, .slice as1 ns1 cs1]) ag38 sz38 rfl rfl hx2 rfl (i := 1) rfl rfl rfl ?_
 obtain ⟨v1, hv1, hm⟩ := bind_some hm
 refine r_callG0 ent50 rfl rfl rfl rfl hx2 (council_clone_ok _ _ _ hv1 hx2.sat hs1) ?_
 rintro _ Fx1 _ wx3 hF1 hx3 ⟨as2, ns2, cs2, rfl, rfl, hs2⟩
 refine r_fieldAddr fa40_1 rfl rfl rfl ?_
 refine r_store sz38 rfl hx3 rfl rfl rfl rfl (i := 1) rfl rfl rfl rfl ?_
 intro wx4 hx4
 refine r_nil (q_then (c_seq (c_region ?_)))
 refine r_loadBW ag40 sz40 rfl rfl hx4 rfl (i := 1) rfl rfl ?_
 refine r_store sz40 rfl hx4 rfl rfl rfl rfl (i := 0) rfl rfl rfl rfl ?_
 intro wx5 hx5
 refine r_nil (q_then (c_ret ?_))
 refine b_retC rfl ag40 sz40 rfl hx5 rfl (i := 0) rfl ?_
 obtain rfl := Option.some.inj hm
 exact ⟨_, _, _, rfl, hx5.pick [] (by decide) rfl, as2, ns2, cs2, rfl, rfl, hs2⟩
structure Version where
 From : Int
 Tariff : Tariff
 deriving Inhabited
def rp_Version : Rp Version where
 k := 7
 R := fun F cs x => ∃ (a5 : Option Addr) (n5 : Nat) (c5 : Nat), cs = [.int .i64 x.From, vs x.Tariff.Name, .int .i64 x.Tariff.Fee.Op, .int .i64 x.Tariff.Fee.N, vs x.Tariff.Fee.Name, .slice a5 n5 c5, .int .i64 x.Tariff.Cap] ∧ SlR rp_Expr F a5 n5 c5 x.Tariff.Fee.Args
 len := by rintro F cs x ⟨a5, n5, c5, h, _⟩; simp [h]
 mono := by rintro F F' cs x hF ⟨a5, n5, c5, h, h0⟩; exact ⟨a5, n5, c5, h, h0.mono hF⟩
 one := by rintro F cs x ⟨a5, n5, c5, h, _⟩ u hu; subst h; simp at hu; rcases hu with rfl | rfl | rfl | rfl | rfl | rfl | rfl <;> rfl
theorem u26 : Tryz.prog.underlying 26 = some (.slice 56) := by kernel_rfl
theorem sz56 : SizeIs Tryz.prog 56 7 := fun _ => by kernel_rfl
theorem fa56_1 : FieldIs Tryz.prog 56 1 1 := fun _ _ _ => by kernel_rfl
theorem ent31 : Ent Tryz.prog 31 := fun _ _ => by kernel_rfl
theorem ag56 : IsAgg Tryz.prog 56 true := fun _ => by kernel_rfl
theorem ze56 : ZeroIs Tryz.prog 56 (.agg #[.int .i64 0, vs [], .int .i64 0, .int .i64 0, vs [], .slice none 0 0, .int .i64 0]) := fun _ => by kernel_rfl
theorem fa56_0 : FieldIs Tryz.prog 56 0 0 := fun _ _ _ => by kernel_rfl
def council_InForce_L1 (n : Nat) (versions1 : (List Version)) (day1 : Int) (kont1 : Int → Option (Tariff × Bool)) : Nat → Int → Int → Option (Tariff × Bool)
 | 0, _, _ => none
 | mx1 + 1, best1, i1 =>
  bif decide (i1 < (versions1.length : Int)) then
   (ix versions1 i1).bind fun ex2 =>
   (bif decide (ex2.From ≤ day1) then
    (bif decide (best1 < 0) then
     some true
    else
     (ix versions1 best1).bind fun ex3 =>
     some (decide (ex3.From ≤ ex2.From))).bind fun v3 =>
    some v3
   else
    some false).bind fun v2 =>
   bif v2 then
    council_InForce_L1 n versions1 day1 kont1 mx1 i1 (iadd .i64 i1 1)
   else
    council_InForce_L1 n versions1 day1 kont1 mx1 best1 (iadd .i64 i1 1)
  else
   kont1 best1
theorem council_InForce_L1_s (n : Nat) (versions1 : (List Version)) (day1 : Int) (kont1 : Int → Option (Tariff × Bool)) (mx1 : Nat) (best1 : Int) (i1 : Int) : council_InForce_L1 n versions1 day1 kont1 (mx1 + 1) best1 i1 =
  bif decide (i1 < (versions1.length : Int)) then
   (ix versions1 i1).bind fun ex2 =>
   (bif decide (ex2.From ≤ day1) then
    (bif decide (best1 < 0) then
     some true
    else
     (ix versions1 best1).bind fun ex3 =>
     some (decide (ex3.From ≤ ex2.From))).bind fun v3 =>
    some v3
   else
    some false).bind fun v2 =>
   bif v2 then
    council_InForce_L1 n versions1 day1 kont1 mx1 i1 (iadd .i64 i1 1)
   else
    council_InForce_L1 n versions1 day1 kont1 mx1 best1 (iadd .i64 i1 1)
  else
   kont1 best1 := rfl
def council_InForce (n : Nat) (versions1 : (List Version)) (day1 : Int) : Option (Tariff × Bool) :=
 council_InForce_L1 n versions1 day1 (fun (best2 : Int) =>
  bif decide (best2 < 0) then
   some ((⟨[], (⟨0, 0, [], []⟩ : Expr), 0⟩ : Tariff), false)
  else
   (ix versions1 best2).bind fun ex1 =>
   (council_copied n ex1.Tariff).bind fun v1 =>
   some (v1, true)) n (-1) 0
set_option maxHeartbeats 1000000 in
set_option maxRecDepth 1000000 in
theorem council_InForce_ok (n : Nat) (versions1 : (List Version)) (day1 : Int) (r : (Tariff × Bool)) (hm : council_InForce n versions1 day1 = some r) {w : World} {F : Frz} (hs : Sat F w) {as1 : Option Addr} {ns1 : Nat} {cs1 : Nat} (hs1 : SlR rp_Version F as1 ns1 cs1 versions1) :
  Calls Tryz.prog 11 #[.slice as1 ns1 cs1, .int .i64 day1] w fun e w' => ∃ v F' O', e = .returned v ∧ HS F w [] F' O' w' ∧ (∃ (a0_4 : Option Addr) (n0_4 : Nat) (c0_4 : Nat), v = .tuple #[.agg #[vs r.1.Name, .int .i64 r.1.Fee.Op, .int .i64 r.1.Fee.N, vs r.1.Fee.Name, .slice a0_4 n0_4 c0_4, .int .i64 r.1.Cap], .bool r.2] ∧ O' = [] ∧ SlR rp_Expr F' a0_4 n0_4 c0_4 r.1.Fee.Args) := by
 unfold council_InForce at hm
 have h := HS.init hs
 refine calls_of 45 Tryz.func11 rfl rfl rfl ?_
 refine c_seq (c_region ?_)
 refine r_alloc ze40 rfl rfl rfl h ?_
 intro b1 wx1 hx1
 refine r_assign rfl rfl rfl (r_nil (q_then (c_seq (c_region (r_assign rfl rfl rfl (r_nil (q_then (c_seq (c_seq (c_region (r_move rfl rfl rfl ?_)))))))))))
 refine r_lenS hs1.len u26 rfl rfl rfl ?_
 refine r_move rfl rfl rfl (r_nil (q_then (c_block ?_)))
 intro a hax5
 obtain ⟨kont1, hkont1⟩ : ∃ kont1 : Int → Option (Tariff × Bool), kont1 = (fun (best2 : Int) =>
       bif decide (best2 < 0) then
        some ((⟨[], (⟨0, 0, [], []⟩ : Expr), 0⟩ : Tariff), false)
       else
        (ix versions1 best2).bind fun ex1 =>
        (council_copied n ex1.Tariff).bind fun v1 =>
        some (v1, true)) := ⟨_, rfl⟩
 replace hm : (fun m (s : Int × Int) => council_InForce_L1 n versions1 day1 kont1 m s.1 s.2) n ((-1), 0) = some r := by rw [hkont1]; exact hm
 refine loopX (id := 0) (fun m (s : Int × Int) => council_InForce_L1 n versions1 day1 kont1 m s.1 s.2) (fun (y : Int) => kont1 y) r (fun (s : Int × Int) a w' => ∃ (Fx1 : Frz), Frz.le F Fx1 ∧ HS F w [] Fx1 [.box b1 40 [vs [], .int .i64 0, .int .i64 0, vs [], .slice none 0 0, .int .i64 0]] w' ∧ Has 45 a [(0, .slice as1 ns1 cs1), (1, .int .i64 day1), (4, .pointer (some ⟨b1, 0, none⟩)), (6, .int .i64 s.1), (9, .slice as1 ns1 cs1), (10, .int .i64 (versions1.length : Int)), (11, .int .i64 s.2)]) (fun (y : Int) a w' => ∃ (Fx2 : Frz), Frz.le F Fx2 ∧ HS F w [] Fx2 [.box b1 40 [vs [], .int .i64 0, .int .i64 0, vs [], .slice none 0 0, .int .i64 0]] w' ∧ Has 45 a [(0, .slice as1 ns1 cs1), (4, .pointer (some ⟨b1, 0, none⟩)), (6, .int .i64 y)]) (fun _ => rfl) ?_ ?_ hm ⟨_, Frz.refl _, hx1.pick [0] (by decide) rfl, hax5.cut (l := [0, 1, 4, 6, 9, 10, 11]) rfl⟩
 ·clear hm; rintro best2 a wx2 hm ⟨Fx2, hF2, hx3, hax1⟩
  rw [hkont1] at hm
  replace hm := hm
  refine qw_apply (e := .exit 0) hax1 ?_
  refine q_block_hit (q_then (c_seq (c_seq (c_region (r_move rfl rfl rfl ?_)))))
  refine r_bin rfl rfl rfl rfl rfl ?_
  refine r_nil (q_then ?_)
  rcases cond_some hm with ⟨hb1, hm⟩ | ⟨hb1, hm⟩
  ·refine c_lit 37 rfl hb1 ?_
   refine c_true rfl (c_seq (c_region ?_))
   refine r_build (v := .agg #[vs [], .int .i64 0, .int .i64 0, vs [], .slice none 0 0, .int .i64 0]) rfl rfl rfl (fun _ => by kernel_rfl) ?_
   refine r_store sz40 rfl hx3 rfl rfl rfl rfl (i := 0) rfl rfl rfl rfl ?_
   intro wx3 hx4
   refine r_assign rfl rfl rfl (r_nil (q_then (c_ret (q_then_ret ?_))))
   refine b_retA (vl := [.agg #[vs [], .int .i64 0, .int .i64 0, vs [], .slice none 0 0, .int .i64 0], .bool false]) rfl ⟨v_cell ag40 sz40 rfl hx4 rfl (i := 0) rfl, v_tmp rfl, trivial⟩ (by simp) ?_
   obtain rfl := Option.some.inj hm
   exact ⟨_, _, _, rfl, hx4.pick [] (by decide) rfl, none, 0, 0, rfl, rfl, SlR.nil _ _⟩
  ·refine c_lit 37 rfl hb1 ?_
   refine c_false rfl (c_skip (q_then (c_seq (c_region (r_move rfl rfl rfl (r_move rfl rfl rfl ?_))))))
   obtain ⟨ex1, he1, hm⟩ := bind_some hm
   refine r_findex (r := rp_Version) u26 sz56 rfl rfl rfl rfl (hs1.mono hF2) he1 ?_
   intro b2 o1 cs1 hf1 hr1
   obtain ⟨as2, ns2, cs2, hc1, hs2⟩ := hr1
   subst hc1
   refine r_fieldAddr fa56_1 rfl rfl rfl ?_
   refine r_loadFA (j := 1) (cs' := [vs ex1.Tariff.Name, .int .i64 ex1.Tariff.Fee.Op, .int .i64 ex1.Tariff.Fee.N, vs ex1.Tariff.Fee.Name, .slice as2 ns2 cs2, .int .i64 ex1.Tariff.Cap]) ag40 sz40 rfl rfl hx3 hf1 rfl rfl rfl ?_
   obtain ⟨v1, hv1, hm⟩ := bind_some hm
   refine r_callG0 ent31 rfl rfl rfl rfl hx3 (council_copied_ok _ _ _ hv1 hx3.sat hs2) ?_
   rintro _ Fx3 _ wx4 hF3 hx5 ⟨as3, ns3, cs3, rfl, rfl, hs3⟩
   refine r_store sz40 rfl hx5 rfl rfl rfl rfl (i := 0) rfl rfl rfl rfl ?_
   intro wx5 hx6
   refine r_assign rfl rfl rfl (r_nil (q_then (c_ret ?_)))
   refine b_retA (vl := [.agg #[vs v1.Name, .int .i64 v1.Fee.Op, .int .i64 v1.Fee.N, vs v1.Fee.Name, .slice as3 ns3 cs3, .int .i64 v1.Cap], .bool true]) rfl ⟨v_cell ag40 sz40 rfl hx6 rfl (i := 0) rfl, v_tmp rfl, trivial⟩ (by simp) ?_
   obtain rfl := Option.some.inj hm
   exact ⟨_, _, _, rfl, hx6.pick [] (by decide) rfl, as3, ns3, cs3, rfl, rfl, hs3⟩
 ·clear hm hkont1; intro hk1 mx1 K ihx1
  rintro ⟨best1, i1⟩ a wx6 hm ⟨Fx1, hF1, hx2, hax2⟩
  simp only [council_InForce_L1_s] at hm
  refine cw_apply hax2 ?_
  refine c_seq (c_region ?_)
  refine r_bin rfl rfl rfl rfl rfl ?_
  refine r_nil (q_then (c_seq ?_))
  rcases cond_some hm with ⟨hb2, hm⟩ | ⟨hb2, hm⟩
  ·refine c_lit 12 rfl hb2 ?_
   refine c_true rfl (c_skip (q_then (c_seq (c_block (c_seq (c_region (r_move rfl rfl rfl ?_)))))))
   obtain ⟨ex2, he2, hm⟩ := bind_some hm
   refine r_findex (r := rp_Version) u26 sz56 rfl rfl rfl rfl (hs1.mono hF1) he2 ?_
   intro b3 o2 cs2 hf2 hr2
   obtain ⟨as4, ns4, cs4, hc2, hs4⟩ := hr2
   subst hc2
   refine r_loadFW ag56 sz56 rfl rfl hx2 hf2 rfl rfl ?_
   refine r_alloc ze56 rfl rfl rfl hx2 ?_
   intro b4 wx7 hx7
   refine r_assign rfl rfl rfl ?_
   refine r_store sz56 rfl hx7 rfl rfl rfl rfl (i := 0) rfl rfl rfl rfl ?_
   intro wx8 hx8
   refine r_nil (q_then (c_seq ?_))
   refine c_regionD (by kernel_rfl) (by kernel_rfl) hx8 ?_
   refine q_stp rfl rfl rfl rfl (fun _ _ _ _ => r_fieldAddr fa56_0 rfl rfl rfl (r_nil (qq rfl))) ?_
   refine q_stp rfl rfl rfl rfl (fun _ _ _ hq => r_loadB1 ag3 rfl rfl hq rfl (i := 0) rfl rfl (r_nil (qq rfl))) ?_
   refine q_stp rfl rfl rfl rfl (fun _ _ _ _ => r_move rfl rfl rfl (r_nil (qq rfl))) ?_
   refine q_stp rfl rfl rfl rfl (fun _ _ _ _ => r_bin rfl rfl rfl rfl rfl (r_nil (qq rfl))) ?_
   refine q_stp rfl rfl rfl rfl (fun _ _ _ _ => r_move rfl rfl rfl (r_nil (qq rfl))) ?_
   obtain ⟨v2, hb3, hm⟩ := bind_some hm
   refine q_mid 13 (fun a => Has 45 a [(0, .slice as1 ns1 cs1), (1, .int .i64 day1), (4, .pointer (some ⟨b1, 0, none⟩)), (6, .int .i64 best1), (7, .int .i64 i1), (9, .slice as1 ns1 cs1), (10, .int .i64 (versions1.length : Int)), (11, .int .i64 i1), (33, .bool v2)]) ?_ ?_
   ·intro a hax3
    refine qr_apply hax3 ?_
    refine q_end ?_
    rintro wx10 ⟨Fx4, hF4, hx9⟩
    refine q_then ?_
    rcases cond_some hm with ⟨hb4, hm⟩ | ⟨hb4, hm⟩
    ·refine c_lit 33 rfl hb4 ?_
     refine c_true rfl (c_region (r_move rfl rfl rfl (r_assign rfl rfl rfl (r_nil (q_block (q_then (c_region ?_)))))))
     refine r_bin rfl rfl rfl rfl rfl ?_
     refine r_move rfl rfl rfl (r_nil ?_)
     refine q_next (fun a ha => ihx1 (i1, (iadd .i64 i1 1)) a _ hm ?_)
     exact ⟨_, (hF1.trans hF4), hx9.pick [1] (by decide) rfl, ha.cut (l := [0, 1, 4, 6, 9, 10, 11]) rfl⟩
    ·refine c_lit 33 rfl hb4 ?_
     refine c_false rfl (c_skip (q_block (q_then (c_region ?_))))
     refine r_bin rfl rfl rfl rfl rfl ?_
     refine r_move rfl rfl rfl (r_nil ?_)
     refine q_next (fun a ha => ihx1 (best1, (iadd .i64 i1 1)) a _ hm ?_)
     exact ⟨_, (hF1.trans hF4), hx9.pick [1] (by decide) rfl, ha.cut (l := [0, 1, 4, 6, 9, 10, 11]) rfl⟩
   ·clear hm
    rcases cond_some hb3 with ⟨hb5, hb3⟩ | ⟨hb5, hb3⟩
    ·refine q_lit 20 rfl hb5 ?_
     refine q_stp rfl rfl rfl rfl (fun _ _ _ _ => r_move rfl rfl rfl (r_nil (qq rfl))) ?_
     refine q_stp rfl rfl rfl rfl (fun _ _ _ _ => r_bin rfl rfl rfl rfl rfl (r_nil (qq rfl))) ?_
     refine q_stp rfl rfl rfl rfl (fun _ _ _ _ => r_move rfl rfl rfl (r_nil (qq rfl))) ?_
     obtain ⟨v3, hb6, hb3⟩ := bind_some hb3
     refine q_mid 9 (fun a => Has 45 a [(0, .slice as1 ns1 cs1), (1, .int .i64 day1), (4, .pointer (some ⟨b1, 0, none⟩)), (6, .int .i64 best1), (7, .int .i64 i1), (9, .slice as1 ns1 cs1), (10, .int .i64 (versions1.length : Int)), (11, .int .i64 i1), (20, .bool true), (32, .bool v3)]) ?_ ?_
     ·intro a hax4
      refine qr_apply hax4 ?_
      refine q_stp rfl rfl rfl rfl (fun _ _ _ _ => r_pick_true rfl rfl rfl rfl (r_nil (qq rfl))) ?_
      refine q_nil (fun a ha => ?_)
      cases hb3
      exact ha.cut (l := [0, 1, 4, 6, 7, 9, 10, 11, 33]) rfl
     ·clear hb3
      rcases cond_some hb6 with ⟨hb7, hb6⟩ | ⟨hb7, hb6⟩
      ·refine q_lit 23 rfl hb7 ?_
       refine q_off rfl rfl rfl (q_off rfl rfl rfl (q_off rfl rfl rfl (q_off rfl rfl rfl (q_off rfl rfl rfl (q_off rfl rfl rfl (q_off rfl rfl rfl (q_off rfl rfl rfl ?_)))))))
       refine q_stp rfl rfl rfl rfl (fun _ _ _ _ => r_pick_true rfl rfl rfl rfl (r_nil (qq rfl))) ?_
       refine q_nil (fun a ha => ?_)
       cases hb6
       exact ha.cut (l := [0, 1, 4, 6, 7, 9, 10, 11, 20, 32]) rfl
      ·refine q_lit 23 rfl hb7 ?_
       refine q_stp rfl rfl rfl rfl (fun _ _ _ _ => r_fieldAddr fa56_0 rfl rfl rfl (r_nil (qq rfl))) ?_
       refine q_stp rfl rfl rfl rfl (fun _ _ _ hq => r_loadB1 ag3 rfl rfl hq rfl (i := 0) rfl rfl (r_nil (qq rfl))) ?_
       refine q_stp rfl rfl rfl rfl (fun _ _ _ _ => r_move rfl rfl rfl (r_nil (qq rfl))) ?_
       refine q_stp rfl rfl rfl rfl (fun _ _ _ _ => r_move rfl rfl rfl (r_nil (qq rfl))) ?_
       obtain ⟨ex3, he3, hb6⟩ := bind_some hb6
       obtain ⟨b5, o3, cs3, hf3, hr3, hrun1⟩ := findex_ex (P := Tryz.prog) (r := rp_Version) u26 sz56 (hs1.mono hF1) he3
       obtain ⟨as5, ns5, cs5, hc3, hs5⟩ := hr3
       subst hc3
       refine q_findex rfl rfl rfl rfl hrun1 ?_
       refine q_stp rfl rfl rfl rfl (fun _ _ _ _ => r_fieldAddr fa56_0 rfl rfl rfl (r_nil (qq rfl))) ?_
       refine q_stp rfl rfl rfl rfl (fun _ _ hleq hq => r_loadF1 (j := 0) ag3 rfl rfl hq (hf3.mono hleq) rfl rfl (r_nil (qq rfl))) ?_
       refine q_stp rfl rfl rfl rfl (fun _ _ _ _ => r_bin rfl rfl rfl rfl rfl (r_nil (qq rfl))) ?_
       refine q_stp rfl rfl rfl rfl (fun _ _ _ _ => r_pick_false rfl rfl rfl rfl (r_nil (qq rfl))) ?_
       refine q_nil (fun a ha => ?_)
       cases hb6
       exact ha.cut (l := [0, 1, 4, 6, 7, 9, 10, 11, 20, 32]) rfl
    ·refine q_lit 20 rfl hb5 ?_
     refine q_off rfl rfl rfl (q_off rfl rfl rfl (q_off rfl rfl rfl (q_off rfl rfl rfl (q_off rfl rfl rfl (q_off rfl rfl rfl (q_off rfl rfl rfl (q_off rfl rfl rfl (q_off rfl rfl rfl (q_off rfl rfl rfl (q_off rfl rfl rfl (q_off rfl rfl rfl ?_)))))))))))
     refine q_stp rfl rfl rfl rfl (fun _ _ _ _ => r_pick_false rfl rfl rfl rfl (r_nil (qq rfl))) ?_
     refine q_nil (fun a ha => ?_)
     cases hb3
     exact ha.cut (l := [0, 1, 4, 6, 7, 9, 10, 11, 33]) rfl
  ·refine c_lit 12 rfl hb2 ?_
   refine c_false rfl (c_exit (q_then_exit (q_then_exit ?_)))
   refine fun a ha => hk1 best1 a _ hm ?_
   exact ⟨_, hF1, hx2.pick [0] (by decide) rfl, ha.cut (l := [0, 4, 6]) rfl⟩
theorem u22 : Tryz.prog.underlying 22 = some (.slice 48) := by kernel_rfl
theorem ent22 : Ent Tryz.prog 22 := fun _ _ => by kernel_rfl
theorem ze48 : ZeroIs Tryz.prog 48 (.agg #[vs [], .int .i64 0, .int .i64 0]) := fun _ => by kernel_rfl
theorem ap30 : AppIs Tryz.prog 30 31 1 8 := AppIs.of (z := .int .i64 0) (by kernel_rfl) (by kernel_rfl) rfl (by decide) (by decide)
theorem ap26 : AppIs Tryz.prog 26 56 7 88 := AppIs.of (z := .agg #[.int .i64 0, vs [], .int .i64 0, .int .i64 0, vs [], .slice none 0 0, .int .i64 0]) (by kernel_rfl) (by kernel_rfl) rfl (by decide) (by decide)
theorem ent18 : Ent Tryz.prog 18 := fun _ _ => by kernel_rfl
def council_Adopt_L1 (n : Nat) (motions1 : (List Motion)) (votes1 : (List Vote)) (weights1 : (List Int)) (names1 : (List Bs)) (notice1 : Int) (kont1 : (List Int) → (List Version) → Option ((List Version) × (List Int) × Int)) : Nat → Int → (List Int) → (List Version) → Option ((List Version) × (List Int) × Int)
 | 0, _, _, _ => none
 | mx1 + 1, i1, l1, l2 =>
  bif decide (i1 < (motions1.length : Int)) then
   (ix motions1 i1).bind fun ex1 =>
   (council_read n ex1 names1 notice1).bind fun v5 =>
   (bif v5.2 == 0 then
    (council_Passes n weights1 votes1 i1).bind fun v7 =>
    some (!v7)
   else
    some false).bind fun v6 =>
   (bif v6 then
    some 7
   else
    some v5.2).bind fun ex2 =>
   (bif ex2 == 0 then
    (app 88 l2 [(⟨ex1.From, v5.1⟩ : Version)]).bind fun l7 =>
    some l7
   else
    some l2).bind fun l5 =>
   (app 8 l1 [ex2]).bind fun l6 =>
   council_Adopt_L1 n motions1 votes1 weights1 names1 notice1 kont1 mx1 (iadd .i64 i1 1) l6 l5
  else
   kont1 l1 l2
theorem council_Adopt_L1_s (n : Nat) (motions1 : (List Motion)) (votes1 : (List Vote)) (weights1 : (List Int)) (names1 : (List Bs)) (notice1 : Int) (kont1 : (List Int) → (List Version) → Option ((List Version) × (List Int) × Int)) (mx1 : Nat) (i1 : Int) (l1 : List Int) (l2 : List Version) : council_Adopt_L1 n motions1 votes1 weights1 names1 notice1 kont1 (mx1 + 1) i1 l1 l2 =
  bif decide (i1 < (motions1.length : Int)) then
   (ix motions1 i1).bind fun ex1 =>
   (council_read n ex1 names1 notice1).bind fun v5 =>
   (bif v5.2 == 0 then
    (council_Passes n weights1 votes1 i1).bind fun v7 =>
    some (!v7)
   else
    some false).bind fun v6 =>
   (bif v6 then
    some 7
   else
    some v5.2).bind fun ex2 =>
   (bif ex2 == 0 then
    (app 88 l2 [(⟨ex1.From, v5.1⟩ : Version)]).bind fun l7 =>
    some l7
   else
    some l2).bind fun l5 =>
   (app 8 l1 [ex2]).bind fun l6 =>
   council_Adopt_L1 n motions1 votes1 weights1 names1 notice1 kont1 mx1 (iadd .i64 i1 1) l6 l5
  else
   kont1 l1 l2 := rfl
def council_Adopt (n : Nat) (motions1 : (List Motion)) (votes1 : (List Vote)) (weights1 : (List Int)) (names1 : (List Bs)) (notice1 : Int) : Option ((List Version) × (List Int) × Int) :=
 (bif decide (40 < (motions1.length : Int)) then
  some true
 else
  some (decide (1000 < (votes1.length : Int)))).bind fun v1 =>
 bif v1 then
  some ([], [], 6)
 else
  (tariff_Type n (⟨0, 0, [], []⟩ : Expr) names1).bind fun v2 =>
  (bif v2.2 == 1 then
   some true
  else
   (council_right n weights1).bind fun v9 =>
   some (!v9)).bind fun v3 =>
  (bif v3 then
   some true
  else
   (council_within n notice1 1000).bind fun v8 =>
   some (!v8)).bind fun v4 =>
  bif v4 then
   some ([], [], 1)
  else
   council_Adopt_L1 n motions1 votes1 weights1 names1 notice1 (fun (l3 : List Int) (l4 : List Version) =>
    some (l4, l3, 0)) n 0 ([] : List Int) ([] : List Version)
set_option maxHeartbeats 1000000 in
set_option maxRecDepth 1000000 in
theorem council_Adopt_ok (n : Nat) (motions1 : (List Motion)) (votes1 : (List Vote)) (weights1 : (List Int)) (names1 : (List Bs)) (notice1 : Int) (r : ((List Version) × (List Int) × Int)) (hm : council_Adopt n motions1 votes1 weights1 names1 notice1 = some r) {w : World} {F : Frz} (hs : Sat F w) {as1 : Option Addr} {ns1 : Nat} {cs1 : Nat} {as2 : Option Addr} {ns2 : Nat} {cs2 : Nat} {as3 : Option Addr} {ns3 : Nat} {cs3 : Nat} {as4 : Option Addr} {ns4 : Nat} {cs4 : Nat} (hs1 : SlR rp_Motion F as1 ns1 cs1 motions1) (hs2 : SlR rp_Vote F as2 ns2 cs2 votes1) (hs3 : SlR (Rp.int .i64) F as3 ns3 cs3 weights1) (hs4 : SlR Rp.str F as4 ns4 cs4 names1) (hg0 : FX F 0 [.int .u8 40, .int .u8 41, .int .u8 44, .int .u8 59, .int .u8 58, .int .u8 61, .int .u8 60, .int .u8 43, .int .u8 45, .int .u8 42, .int .u8 47, .int .u8 123, .int .u8 125]) :
  Calls Tryz.prog 7 #[.slice as1 ns1 cs1, .slice as2 ns2 cs2, .slice as3 ns3 cs3, .slice as4 ns4 cs4, .int .i64 notice1] w fun e w' => ∃ v F' O', e = .returned v ∧ HS F w [] F' O' w' ∧ (∃ (a0_0 : Option Addr) (n0_0 : Nat) (c0_0 : Nat) (a1_0 : Option Addr) (n1_0 : Nat) (c1_0 : Nat), v = .tuple #[.slice a0_0 n0_0 c0_0, .slice a1_0 n1_0 c1_0, .int .i64 r.2.2] ∧ O' = [] ∧ SlR rp_Version F' a0_0 n0_0 c0_0 r.1 ∧ SlR (Rp.int .i64) F' a1_0 n1_0 c1_0 r.2.1) := by
 unfold council_Adopt at hm
 have h := HS.init hs
 refine calls_of 86 Tryz.func7 rfl rfl rfl ?_
 refine c_seq (c_region (r_assign rfl rfl rfl (r_assign rfl rfl rfl (r_assign rfl rfl rfl (r_nil (q_then (c_seq (c_seq (c_region (r_move rfl rfl rfl ?_))))))))))
 refine r_lenS hs1.len u22 rfl rfl rfl ?_
 refine r_bin rfl rfl rfl rfl rfl ?_
 refine r_move rfl rfl rfl ?_
 obtain ⟨v1, hb1, hm⟩ := bind_some hm
 refine r_mid 4 (fun a w' => w = w' ∧ Has 86 a [(0, .slice as1 ns1 cs1), (1, .slice as2 ns2 cs2), (2, .slice as3 ns3 cs3), (3, .slice as4 ns4 cs4), (4, .int .i64 notice1), (28, .bool v1)]) ?_ ?_
 ·rintro a wx1 ⟨rfl, hax1⟩
  refine rw_apply hax1 ?_
  refine r_nil (q_then ?_)
  rcases cond_some hm with ⟨hb2, hm⟩ | ⟨hb2, hm⟩
  ·refine c_lit 28 rfl hb2 ?_
   refine c_true rfl (c_seq (c_region (r_assign rfl rfl rfl (r_assign rfl rfl rfl (r_assign rfl rfl rfl (r_nil (q_then (c_ret (q_then_ret ?_)))))))))
   refine b_retA (vl := [.slice none 0 0, .slice none 0 0, .int .i64 6]) rfl ⟨v_tmp rfl, v_tmp rfl, v_tmp rfl, trivial⟩ (by simp) ?_
   obtain rfl := Option.some.inj hm
   exact ⟨_, _, _, rfl, h.pick [] (by decide) rfl, none, 0, 0, none, 0, 0, rfl, rfl, SlR.nil _ _, SlR.nil _ _⟩
  ·refine c_lit 28 rfl hb2 ?_
   refine c_false rfl (c_skip (q_then (c_seq (c_seq (c_region ?_)))))
   refine r_build (v := .agg #[.int .i64 0, .int .i64 0, vs [], .slice none 0 0]) rfl rfl rfl (fun _ => by kernel_rfl) ?_
   refine r_move rfl rfl rfl ?_
   obtain ⟨v2, hv1, hm⟩ := bind_some hm
   refine r_callG0 ent22 rfl rfl rfl rfl h (tariff_Type_ok _ _ _ _ hv1 h.sat (SlR.nil _ _) hs4) ?_
   rintro _ Fx1 _ wx2 hF1 hx1 ⟨rfl, rfl⟩
   refine r_move rfl rfl rfl (r_extract rfl rfl rfl rfl (r_extract rfl rfl rfl rfl (r_assign rfl rfl rfl (r_assign rfl rfl rfl (r_nil (q_then (c_seq (c_region (r_move rfl rfl rfl ?_)))))))))
   refine r_bin rfl rfl rfl rfl rfl ?_
   refine r_move rfl rfl rfl ?_
   obtain ⟨v3, hb3, hm⟩ := bind_some hm
   refine r_mid 4 (fun a w' => ∃ (Fx2 : Frz), Frz.le Fx1 Fx2 ∧ HS F w [] Fx2 [] w' ∧ Has 86 a [(0, .slice as1 ns1 cs1), (1, .slice as2 ns2 cs2), (2, .slice as3 ns3 cs3), (3, .slice as4 ns4 cs4), (4, .int .i64 notice1), (41, .bool v3)]) ?_ ?_
   ·rintro a wx3 ⟨Fx2, hF2, hx2, hax2⟩
    refine rw_apply hax2 ?_
    refine r_move rfl rfl rfl ?_
    obtain ⟨v4, hb4, hm⟩ := bind_some hm
    refine r_mid 4 (fun a w' => wx3 = w' ∧ Has 86 a [(0, .slice as1 ns1 cs1), (1, .slice as2 ns2 cs2), (2, .slice as3 ns3 cs3), (3, .slice as4 ns4 cs4), (4, .int .i64 notice1), (46, .bool v4)]) ?_ ?_
    ·rintro a wx4 ⟨rfl, hax3⟩
     refine rw_apply hax3 ?_
     refine r_nil (q_then ?_)
     rcases cond_some hm with ⟨hb5, hm⟩ | ⟨hb5, hm⟩
     ·refine c_lit 46 rfl hb5 ?_
      refine c_true rfl (c_seq (c_region (r_assign rfl rfl rfl (r_assign rfl rfl rfl (r_assign rfl rfl rfl (r_nil (q_then (c_ret (q_then_ret ?_)))))))))
      refine b_retA (vl := [.slice none 0 0, .slice none 0 0, .int .i64 1]) rfl ⟨v_tmp rfl, v_tmp rfl, v_tmp rfl, trivial⟩ (by simp) ?_
      obtain rfl := Option.some.inj hm
      exact ⟨_, _, _, rfl, hx2.pick [] (by decide) rfl, none, 0, 0, none, 0, 0, rfl, rfl, SlR.nil _ _, SlR.nil _ _⟩
     ·refine c_lit 46 rfl hb5 ?_
      refine c_false rfl (c_skip (q_then (c_seq (c_region (r_assign rfl rfl rfl (r_nil (q_then (c_seq (c_region (r_assign rfl rfl rfl (r_nil (q_then (c_seq (c_seq (c_region (r_move rfl rfl rfl ?_))))))))))))))))
      refine r_lenS hs1.len u22 rfl rfl rfl ?_
      refine r_move rfl rfl rfl (r_nil (q_then (c_block ?_)))
      have hx3 := hx2.nilRow 56 7
      have hx4 := hx3.nilRow 31 1
      intro a hax9
      obtain ⟨kont1, hkont1⟩ : ∃ kont1 : (List Int) → (List Version) → Option ((List Version) × (List Int) × Int), kont1 = (fun (l3 : List Int) (l4 : List Version) =>
       some (l4, l3, 0)) := ⟨_, rfl⟩
      replace hm : (fun m (s : Int × List Int × List Version) => council_Adopt_L1 n motions1 votes1 weights1 names1 notice1 kont1 m s.1 s.2.1 s.2.2) n (0, ([] : List Int), ([] : List Version)) = some r := by rw [hkont1]; exact hm
      refine loopX (id := 0) (fun m (s : Int × List Int × List Version) => council_Adopt_L1 n motions1 votes1 weights1 names1 notice1 kont1 m s.1 s.2.1 s.2.2) (fun (y : List Int × List Version) => kont1 y.1 y.2) r (fun (s : Int × List Int × List Version) a w' => ∃ (Fx3 : Frz) (as5 : Option Addr) (ns5 : Nat) (cs5 : Nat) (xss5 : List Value) (as6 : Option Addr) (ns6 : Nat) (cs6 : Nat) (xss6 : List Value), Frz.le Fx2 Fx3 ∧ HS F w [] Fx3 [.row 31 1 as5 ns5 cs5 xss5, .row 56 7 as6 ns6 cs6 xss6] w' ∧ (RowN (Rp.int .i64) Fx3 ns5 xss5 s.2.1) ∧ (RowN rp_Version Fx3 ns6 xss6 s.2.2) ∧ Has 86 a [(1, .slice as2 ns2 cs2), (2, .slice as3 ns3 cs3), (3, .slice as4 ns4 cs4), (4, .int .i64 notice1), (15, .slice as6 ns6 cs6), (16, .slice as5 ns5 cs5), (47, .slice as1 ns1 cs1), (48, .int .i64 (motions1.length : Int)), (49, .int .i64 s.1)]) (fun (y : List Int × List Version) a w' => ∃ (Fx4 : Frz) (as7 : Option Addr) (ns7 : Nat) (cs7 : Nat) (xss7 : List Value) (as8 : Option Addr) (ns8 : Nat) (cs8 : Nat) (xss8 : List Value), Frz.le Fx2 Fx4 ∧ HS F w [] Fx4 [.row 31 1 as7 ns7 cs7 xss7, .row 56 7 as8 ns8 cs8 xss8] w' ∧ (RowN (Rp.int .i64) Fx4 ns7 xss7 y.1) ∧ (RowN rp_Version Fx4 ns8 xss8 y.2) ∧ Has 86 a [(15, .slice as8 ns8 cs8), (16, .slice as7 ns7 cs7)]) (fun _ => rfl) ?_ ?_ hm ⟨_, none, 0, 0, [], none, 0, 0, [], Frz.refl _, hx4.pick [0, 1] (by decide) rfl, ((show RowN (Rp.int .i64) _ 0 [] [] from ⟨rfl, rfl⟩)), ((show RowN rp_Version _ 0 [] [] from ⟨rfl, rfl⟩)), hax9.cut (l := [1, 2, 3, 4, 15, 16, 47, 48, 49]) rfl⟩
      ·clear hm; rintro ⟨l3, l4⟩ a wx5 hm ⟨Fx4, as7, ns7, cs7, xss7, as8, ns8, cs8, xss8, hF4, hx6, hs7, hs8, hax4⟩
       rw [hkont1] at hm
       replace hm := hm
       refine qw_apply (e := .exit 0) hax4 ?_
       refine q_block_hit (q_then (c_seq (c_region (r_move rfl rfl rfl (r_move rfl rfl rfl (r_assign rfl rfl rfl (r_assign rfl rfl rfl (r_assign rfl rfl rfl (r_nil (q_then (c_ret ?_)))))))))))
       obtain ⟨Fx5, hF5, hx7, hsx1⟩ := freezeRow hx6 (i := 1) rfl hs8
       obtain ⟨Fx6, hF6, hx8, hsx2⟩ := freezeRow hx7 (i := 0) rfl (hs7.mono hF5)
       refine b_retA (vl := [.slice as8 ns8 cs8, .slice as7 ns7 cs7, .int .i64 0]) rfl ⟨v_tmp rfl, v_tmp rfl, v_tmp rfl, trivial⟩ (by simp) ?_
       obtain rfl := Option.some.inj hm
       exact ⟨_, _, _, rfl, hx8.pick [] (by decide) rfl, as8, ns8, cs8, as7, ns7, cs7, rfl, rfl, (hsx1.mono hF6), hsx2⟩
      ·clear hm hkont1; intro hk1 mx1 K ihx1
       rintro ⟨i1, l1, l2⟩ a wx6 hm ⟨Fx3, as5, ns5, cs5, xss5, as6, ns6, cs6, xss6, hF3, hx5, hs5, hs6, hax5⟩
       simp only [council_Adopt_L1_s] at hm
       refine cw_apply hax5 ?_
       refine c_seq (c_region ?_)
       refine r_bin rfl rfl rfl rfl rfl ?_
       refine r_nil (q_then (c_seq ?_))
       rcases cond_some hm with ⟨hb6, hm⟩ | ⟨hb6, hm⟩
       ·refine c_lit 50 rfl hb6 ?_
        refine c_true rfl (c_skip (q_then (c_seq (c_block (c_seq (c_region (r_move rfl rfl rfl ?_)))))))
        obtain ⟨ex1, he1, hm⟩ := bind_some hm
        refine r_findex (r := rp_Motion) u22 sz48 rfl rfl rfl rfl (((hs1.mono hF1).mono hF2).mono hF3) he1 ?_
        intro b1 o1 cs1 hf1 hr1
        have hc1 : cs1 = [vs ex1.Text, .int .i64 ex1.Day, .int .i64 ex1.From] := hr1
        subst hc1
        refine r_loadFW ag48 sz48 rfl rfl hx5 hf1 rfl rfl ?_
        refine r_alloc ze48 rfl rfl rfl hx5 ?_
        intro b2 wx7 hx9
        refine r_assign rfl rfl rfl ?_
        refine r_store sz48 rfl hx9 rfl rfl rfl rfl (i := 0) rfl rfl rfl rfl ?_
        intro wx8 hx10
        refine r_nil (q_then (c_seq (c_region ?_)))
        refine r_loadBW ag48 sz48 rfl rfl hx10 rfl (i := 0) rfl rfl ?_
        refine r_move rfl rfl rfl (r_move rfl rfl rfl ?_)
        obtain ⟨v5, hv2, hm⟩ := bind_some hm
        refine r_callG0 ent25 rfl rfl rfl rfl hx10 (council_read_ok _ _ _ _ _ hv2 hx10.sat (((hs4.mono hF1).mono hF2).mono hF3) (((hg0.mono hF1).mono hF2).mono hF3)) ?_
        rintro _ Fx7 _ wx9 hF7 hx11 ⟨as9, ns9, cs9, rfl, rfl, hs9⟩
        refine r_move rfl rfl rfl (r_extract rfl rfl rfl rfl (r_extract rfl rfl rfl rfl ?_))
        refine r_alloc ze40 rfl rfl rfl hx11 ?_
        intro b3 wx10 hx12
        refine r_store sz40 rfl hx12 rfl rfl rfl rfl (i := 0) rfl rfl rfl rfl ?_
        intro wx11 hx13
        refine r_assign rfl rfl rfl (r_nil (q_then (c_seq (c_seq (c_region (r_move rfl rfl rfl ?_))))))
        refine r_bin rfl rfl rfl rfl rfl ?_
        refine r_move rfl rfl rfl ?_
        obtain ⟨v6, hb7, hm⟩ := bind_some hm
        refine r_mid 6 (fun a w' => ∃ (Fx8 : Frz), Frz.le Fx7 Fx8 ∧ HS F w [] Fx8 [.box b3 40 [vs v5.1.Name, .int .i64 v5.1.Fee.Op, .int .i64 v5.1.Fee.N, vs v5.1.Fee.Name, .slice as9 ns9 cs9, .int .i64 v5.1.Cap], .box b2 48 [vs ex1.Text, .int .i64 ex1.Day, .int .i64 ex1.From], .row 31 1 as5 ns5 cs5 xss5, .row 56 7 as6 ns6 cs6 xss6] w' ∧ Has 86 a [(1, .slice as2 ns2 cs2), (2, .slice as3 ns3 cs3), (3, .slice as4 ns4 cs4), (4, .int .i64 notice1), (15, .slice as6 ns6 cs6), (16, .slice as5 ns5 cs5), (18, .pointer (some ⟨b2, 0, none⟩)), (19, .pointer (some ⟨b3, 0, none⟩)), (20, .int .i64 v5.2), (47, .slice as1 ns1 cs1), (48, .int .i64 (motions1.length : Int)), (49, .int .i64 i1), (69, .bool v6)]) ?_ ?_
        ·rintro a wx12 ⟨Fx8, hF8, hx14, hax6⟩
         refine rw_apply hax6 ?_
         refine r_nil (q_then ?_)
         obtain ⟨ex2, hb8, hm⟩ := bind_some hm
         refine c_midT (fun a w' => wx12 = w' ∧ Has 86 a [(1, .slice as2 ns2 cs2), (2, .slice as3 ns3 cs3), (3, .slice as4 ns4 cs4), (4, .int .i64 notice1), (15, .slice as6 ns6 cs6), (16, .slice as5 ns5 cs5), (18, .pointer (some ⟨b2, 0, none⟩)), (19, .pointer (some ⟨b3, 0, none⟩)), (20, .int .i64 ex2), (47, .slice as1 ns1 cs1), (48, .int .i64 (motions1.length : Int)), (49, .int .i64 i1)]) ?_ ?_
         ·rintro a wx13 ⟨rfl, hax7⟩
          refine cw_apply hax7 ?_
          refine c_seq (c_seq (c_region (r_move rfl rfl rfl ?_)))
          refine r_bin rfl rfl rfl rfl rfl ?_
          refine r_nil (q_then ?_)
          obtain ⟨l5, hb9, hm⟩ := bind_some hm
          refine c_midT (fun a w' => ∃ (Fx9 : Frz) (as10 : Option Addr) (ns10 : Nat) (cs10 : Nat) (xss10 : List Value), Frz.le Fx8 Fx9 ∧ HS F w [] Fx9 [.box b3 40 [vs v5.1.Name, .int .i64 v5.1.Fee.Op, .int .i64 v5.1.Fee.N, vs v5.1.Fee.Name, .slice as9 ns9 cs9, .int .i64 v5.1.Cap], .box b2 48 [vs ex1.Text, .int .i64 ex1.Day, .int .i64 ex1.From], .row 31 1 as5 ns5 cs5 xss5, .row 56 7 as10 ns10 cs10 xss10] w' ∧ (RowN rp_Version Fx9 ns10 xss10 l5) ∧ Has 86 a [(1, .slice as2 ns2 cs2), (2, .slice as3 ns3 cs3), (3, .slice as4 ns4 cs4), (4, .int .i64 notice1), (15, .slice as10 ns10 cs10), (16, .slice as5 ns5 cs5), (20, .int .i64 ex2), (47, .slice as1 ns1 cs1), (48, .int .i64 (motions1.length : Int)), (49, .int .i64 i1)]) ?_ ?_
          ·rintro a wx14 ⟨Fx9, as10, ns10, cs10, xss10, hF9, hx15, hs10, hax8⟩
           refine cw_apply hax8 ?_
           refine c_region (r_move rfl rfl rfl (r_move rfl rfl rfl ?_))
           refine r_buildSlice (e := 31) (cs := [.int .i64 ex2]) (q := 1) rfl rfl hx15 rfl (fun _ => by kernel_rfl) rfl rfl ?_
           intro b4 wx15 hx16
           obtain ⟨l6, hr2, hm⟩ := bind_some hm
           refine r_appendN (r := (Rp.int .i64)) ap30 rfl rfl hx16 rfl rfl (i := 3) (j := 0) rfl rfl (((hs5.mono hF7).mono hF8).mono hF9) ((show RowN (Rp.int .i64) Fx9 1 [.int .i64 ex2] [ex2] from ⟨rfl, ⟨_, _, rfl, rfl, (rfl : RowR (Rp.int .i64) _ [] [])⟩⟩)) hr2 ?_
           intro as11 cs11 wx16 hx17 hs11
           refine r_assign rfl rfl rfl (r_nil (q_block (q_then (c_region ?_))))
           refine r_bin rfl rfl rfl rfl rfl ?_
           refine r_move rfl rfl rfl (r_nil ?_)
           refine q_next (fun a ha => ihx1 ((iadd .i64 i1 1), l6, l5) a _ hm ?_)
           exact ⟨_, as11, (ns5 + 1), cs11, (xss5 ++ [.int .i64 ex2]), as10, ns10, cs10, xss10, (((hF3.trans hF7).trans hF8).trans hF9), hx17.pick [3, 4] (by decide) rfl, hs11, hs10, ha.cut (l := [1, 2, 3, 4, 15, 16, 47, 48, 49]) rfl⟩
          ·clear hm
           rcases cond_some hb9 with ⟨hb10, hb9⟩ | ⟨hb10, hb9⟩
           ·refine c_lit 71 rfl hb10 ?_
            refine c_true rfl (c_region (r_move rfl rfl rfl ?_))
            refine r_fieldAddr fa48_2 rfl rfl rfl ?_
            refine r_loadB1 ag3 rfl rfl hx14 rfl (i := 1) rfl rfl ?_
            refine r_loadBW ag40 sz40 rfl rfl hx14 rfl (i := 0) rfl rfl ?_
            refine r_build (v := .agg #[.int .i64 ex1.From, vs v5.1.Name, .int .i64 v5.1.Fee.Op, .int .i64 v5.1.Fee.N, vs v5.1.Fee.Name, .slice as9 ns9 cs9, .int .i64 v5.1.Cap]) rfl rfl rfl (fun _ => by kernel_rfl) ?_
            refine r_buildSlice (e := 56) (cs := [.int .i64 ex1.From, vs v5.1.Name, .int .i64 v5.1.Fee.Op, .int .i64 v5.1.Fee.N, vs v5.1.Fee.Name, .slice as9 ns9 cs9, .int .i64 v5.1.Cap]) (q := 7) rfl rfl hx14 rfl (fun _ => by kernel_rfl) rfl rfl ?_
            intro b5 wx17 hx18
            obtain ⟨l7, hr3, hb9⟩ := bind_some hb9
            refine r_appendN (r := rp_Version) ap26 rfl rfl hx18 rfl rfl (i := 4) (j := 0) rfl rfl ((hs6.mono hF7).mono hF8) ((show RowN rp_Version Fx8 1 [.int .i64 ex1.From, vs v5.1.Name, .int .i64 v5.1.Fee.Op, .int .i64 v5.1.Fee.N, vs v5.1.Fee.Name, .slice as9 ns9 cs9, .int .i64 v5.1.Cap] [(⟨ex1.From, v5.1⟩ : Version)] from ⟨rfl, ⟨_, _, rfl, ⟨as9, ns9, cs9, rfl, (hs9.mono hF8)⟩, (rfl : RowR rp_Version _ [] [])⟩⟩)) hr3 ?_
            intro as12 cs12 wx18 hx19 hs12
            refine r_assign rfl rfl rfl (r_nil ?_)
            refine q_next (fun a ha => ?_)
            cases hb9
            exact ⟨_, as12, (ns6 + 1), cs12, (xss6 ++ [.int .i64 ex1.From, vs v5.1.Name, .int .i64 v5.1.Fee.Op, .int .i64 v5.1.Fee.N, vs v5.1.Fee.Name, .slice as9 ns9 cs9, .int .i64 v5.1.Cap]), Frz.refl _, hx19.pick [1, 2, 3, 4] (by decide) rfl, hs12, ha.cut (l := [1, 2, 3, 4, 15, 16, 20, 47, 48, 49]) rfl⟩
           ·refine c_lit 71 rfl hb10 ?_
            refine c_false rfl (c_skip ?_)
            refine q_next (fun a ha => ?_)
            cases hb9
            exact ⟨_, as6, ns6, cs6, xss6, Frz.refl _, hx14.pick [0, 1, 2, 3] (by decide) rfl, ((hs6.mono hF7).mono hF8), ha.cut (l := [1, 2, 3, 4, 15, 16, 20, 47, 48, 49]) rfl⟩
         ·clear hm
          rcases cond_some hb8 with ⟨hb11, hb8⟩ | ⟨hb11, hb8⟩
          ·refine c_lit 69 rfl hb11 ?_
           refine c_true rfl (c_region (r_assign rfl rfl rfl (r_nil ?_)))
           refine q_next (fun a ha => ?_)
           cases hb8
           exact ⟨rfl, ha.cut (l := [1, 2, 3, 4, 15, 16, 18, 19, 20, 47, 48, 49]) rfl⟩
          ·refine c_lit 69 rfl hb11 ?_
           refine c_false rfl (c_skip ?_)
           refine q_next (fun a ha => ?_)
           cases hb8
           exact ⟨rfl, ha.cut (l := [1, 2, 3, 4, 15, 16, 18, 19, 20, 47, 48, 49]) rfl⟩
        ·clear hm
         rcases cond_some hb7 with ⟨hb12, hb7⟩ | ⟨hb12, hb7⟩
         ·refine r_lit 63 rfl hb12 ?_
          refine r_move rfl rfl rfl (r_move rfl rfl rfl (r_move rfl rfl rfl ?_))
          have hG1 := ((hF1.trans hF2).trans hF3).trans hF7
          obtain ⟨v7, hv3, hb7⟩ := bind_some hb7
          refine r_callG0 ent18 rfl rfl rfl rfl hx13 (council_Passes_ok _ _ _ _ _ hv3 hx13.sat (hs3.mono hG1) (hs2.mono hG1)) ?_
          rintro _ Fx10 _ wx19 hF10 hx20 ⟨rfl, rfl⟩
          refine r_not rfl rfl rfl (r_pick_true rfl rfl rfl rfl (r_nil ?_))
          refine q_next (fun a ha => ?_)
          cases hb7
          exact ⟨_, hF10, hx20.pick [0, 1, 2, 3] (by decide) rfl, ha.cut (l := [1, 2, 3, 4, 15, 16, 18, 19, 20, 47, 48, 49, 69]) rfl⟩
         ·refine r_lit 63 rfl hb12 ?_
          refine r_off rfl (by decide) rfl (r_off rfl (by decide) rfl (r_off rfl (by decide) rfl (r_off rfl (by decide) rfl (r_off rfl (by decide) rfl (r_pick_false rfl rfl rfl rfl (r_nil ?_))))))
          refine q_next (fun a ha => ?_)
          cases hb7
          exact ⟨_, Frz.refl _, hx13.pick [0, 1, 2, 3] (by decide) rfl, ha.cut (l := [1, 2, 3, 4, 15, 16, 18, 19, 20, 47, 48, 49, 69]) rfl⟩
       ·refine c_lit 50 rfl hb6 ?_
        refine c_false rfl (c_exit (q_then_exit (q_then_exit ?_)))
        refine fun a ha => hk1 (l1, l2) a _ hm ?_
        exact ⟨_, as5, ns5, cs5, xss5, as6, ns6, cs6, xss6, hF3, hx5.pick [0, 1] (by decide) rfl, hs5, hs6, ha.cut (l := [15, 16]) rfl⟩
    ·clear hm
     rcases cond_some hb4 with ⟨hb13, hb4⟩ | ⟨hb13, hb4⟩
     ·refine r_lit 42 rfl hb13 ?_
      refine r_off rfl (by decide) rfl (r_off rfl (by decide) rfl (r_off rfl (by decide) rfl (r_pick_true rfl rfl rfl rfl (r_nil ?_))))
      refine q_next (fun a ha => ?_)
      cases hb4
      exact ⟨rfl, ha.cut (l := [0, 1, 2, 3, 4, 46]) rfl⟩
     ·refine r_lit 42 rfl hb13 ?_
      refine r_move rfl rfl rfl ?_
      obtain ⟨v8, hv4, hb4⟩ := bind_some hb4
      refine r_callP0 ent24 rfl rfl rfl rfl (council_within_ok _ _ _ _ hv4) ?_
      refine r_not rfl rfl rfl (r_pick_false rfl rfl rfl rfl (r_nil ?_))
      refine q_next (fun a ha => ?_)
      cases hb4
      exact ⟨rfl, ha.cut (l := [0, 1, 2, 3, 4, 46]) rfl⟩
   ·clear hm
    rcases cond_some hb3 with ⟨hb14, hb3⟩ | ⟨hb14, hb3⟩
    ·refine r_lit 37 rfl hb14 ?_
     refine r_off rfl (by decide) rfl (r_off rfl (by decide) rfl (r_off rfl (by decide) rfl (r_pick_true rfl rfl rfl rfl (r_nil ?_))))
     refine q_next (fun a ha => ?_)
     cases hb3
     exact ⟨_, Frz.refl _, hx1.pick [] (by decide) rfl, ha.cut (l := [0, 1, 2, 3, 4, 41]) rfl⟩
    ·refine r_lit 37 rfl hb14 ?_
     refine r_move rfl rfl rfl ?_
     obtain ⟨v9, hv5, hb3⟩ := bind_some hb3
     refine r_callG0 ent23 rfl rfl rfl rfl hx1 (council_right_ok _ _ _ hv5 hx1.sat (hs3.mono hF1)) ?_
     rintro _ Fx11 _ wx20 hF11 hx21 ⟨rfl, rfl⟩
     refine r_not rfl rfl rfl (r_pick_false rfl rfl rfl rfl (r_nil ?_))
     refine q_next (fun a ha => ?_)
     cases hb3
     exact ⟨_, hF11, hx21.pick [] (by decide) rfl, ha.cut (l := [0, 1, 2, 3, 4, 41]) rfl⟩
 ·clear hm
  rcases cond_some hb1 with ⟨hb15, hb1⟩ | ⟨hb15, hb1⟩
  ·refine r_lit 24 rfl hb15 ?_
   refine r_off rfl (by decide) rfl (r_off rfl (by decide) rfl (r_off rfl (by decide) rfl (r_pick_true rfl rfl rfl rfl (r_nil ?_))))
   refine q_next (fun a ha => ?_)
   cases hb1
   exact ⟨rfl, ha.cut (l := [0, 1, 2, 3, 4, 28]) rfl⟩
  ·refine r_lit 24 rfl hb15 ?_
   refine r_move rfl rfl rfl ?_
   refine r_lenS hs2.len u23 rfl rfl rfl ?_
   refine r_bin rfl rfl rfl rfl rfl ?_
   refine r_pick_false rfl rfl rfl rfl (r_nil ?_)
   refine q_next (fun a ha => ?_)
   cases hb1
   exact ⟨rfl, ha.cut (l := [0, 1, 2, 3, 4, 28]) rfl⟩
def ref40_Few_L2 (n : Nat) (names1 : (List Bs)) (kont1 : Option Bool) : Nat → Int → Option Bool
 | 0, _ => none
 | mx1 + 1, i2 =>
  (bif decide (i2 < (names1.length : Int)) then
   some (decide (i2 < 10))
  else
   some false).bind fun v7 =>
  bif v7 then
   (ix names1 i2).bind fun ex1 =>
   bif decide (30 < (ex1.length : Int)) then
    some false
   else
    ref40_Few_L2 n names1 kont1 mx1 (iadd .i64 i2 1)
  else
   kont1
theorem ref40_Few_L2_s (n : Nat) (names1 : (List Bs)) (kont1 : Option Bool) (mx1 : Nat) (i2 : Int) : ref40_Few_L2 n names1 kont1 (mx1 + 1) i2 =
  (bif decide (i2 < (names1.length : Int)) then
   some (decide (i2 < 10))
  else
   some false).bind fun v7 =>
  bif v7 then
   (ix names1 i2).bind fun ex1 =>
   bif decide (30 < (ex1.length : Int)) then
    some false
   else
    ref40_Few_L2 n names1 kont1 mx1 (iadd .i64 i2 1)
  else
   kont1 := rfl
def ref40_Few_L1 (n : Nat) (motions1 : (List Motion)) (kont2 : Option Bool) : Nat → Int → Option Bool
 | 0, _ => none
 | mx2 + 1, i1 =>
  (bif decide (i1 < (motions1.length : Int)) then
   some (decide (i1 < 50))
  else
   some false).bind fun v8 =>
  bif v8 then
   (ix motions1 i1).bind fun ex2 =>
   bif decide (600 < (ex2.Text.length : Int)) then
    some false
   else
    ref40_Few_L1 n motions1 kont2 mx2 (iadd .i64 i1 1)
  else
   kont2
theorem ref40_Few_L1_s (n : Nat) (motions1 : (List Motion)) (kont2 : Option Bool) (mx2 : Nat) (i1 : Int) : ref40_Few_L1 n motions1 kont2 (mx2 + 1) i1 =
  (bif decide (i1 < (motions1.length : Int)) then
   some (decide (i1 < 50))
  else
   some false).bind fun v8 =>
  bif v8 then
   (ix motions1 i1).bind fun ex2 =>
   bif decide (600 < (ex2.Text.length : Int)) then
    some false
   else
    ref40_Few_L1 n motions1 kont2 mx2 (iadd .i64 i1 1)
  else
   kont2 := rfl
def ref40_Few (n : Nat) (motions1 : (List Motion)) (votes1 : (List Vote)) (weights1 : (List Int)) (names1 : (List Bs)) : Option Bool :=
 ref40_Few_L1 n motions1 (
  ref40_Few_L2 n names1 (
   (bif decide (60 < (votes1.length : Int)) then
    some (decide ((votes1.length : Int) ≤ 1000))
   else
    some false).bind fun v1 =>
   (bif v1 then
    some true
   else
    some (decide (1010 < (votes1.length : Int)))).bind fun v2 =>
   (bif v2 then
    some true
   else
    some (decide (25 < (weights1.length : Int)))).bind fun v3 =>
   (bif v3 then
    some true
   else
    some (decide (8 < (names1.length : Int)))).bind fun v4 =>
   bif v4 then
    some false
   else
    (bif decide ((motions1.length : Int) ≤ 8) then
     some true
    else
     (bif decide (40 < (motions1.length : Int)) then
      some (decide ((motions1.length : Int) ≤ 45))
     else
      some false).bind fun v6 =>
     some v6).bind fun v5 =>
    some v5) n 0) n 0
set_option maxHeartbeats 1000000 in
set_option maxRecDepth 1000000 in
theorem ref40_Few_ok (n : Nat) (motions1 : (List Motion)) (votes1 : (List Vote)) (weights1 : (List Int)) (names1 : (List Bs)) (r : Bool) (hm : ref40_Few n motions1 votes1 weights1 names1 = some r) {w : World} {F : Frz} (hs : Sat F w) {as1 : Option Addr} {ns1 : Nat} {cs1 : Nat} {as2 : Option Addr} {ns2 : Nat} {cs2 : Nat} {as3 : Option Addr} {ns3 : Nat} {cs3 : Nat} {as4 : Option Addr} {ns4 : Nat} {cs4 : Nat} (hs1 : SlR rp_Motion F as1 ns1 cs1 motions1) (hs2 : SlR rp_Vote F as2 ns2 cs2 votes1) (hs3 : SlR (Rp.int .i64) F as3 ns3 cs3 weights1) (hs4 : SlR Rp.str F as4 ns4 cs4 names1) :
  Calls Tryz.prog 5 #[.slice as1 ns1 cs1, .slice as2 ns2 cs2, .slice as3 ns3 cs3, .slice as4 ns4 cs4] w fun e w' => e = .returned (.bool r) ∧ w' = w := by
 unfold ref40_Few at hm
 have h := HS.init hs
 refine calls_of 80 Tryz.func5 rfl rfl rfl ?_
 refine c_seq (c_region (r_assign rfl rfl rfl (r_nil (q_then (c_seq (c_seq (c_region (r_assign rfl rfl rfl (r_nil (q_then (c_block ?_)))))))))))
 intro a hax14
 obtain ⟨kont2, hkont2⟩ : ∃ kont2 : Option Bool, kont2 = (
       ref40_Few_L2 n names1 (
        (bif decide (60 < (votes1.length : Int)) then
         some (decide ((votes1.length : Int) ≤ 1000))
        else
         some false).bind fun v1 =>
        (bif v1 then
         some true
        else
         some (decide (1010 < (votes1.length : Int)))).bind fun v2 =>
        (bif v2 then
         some true
        else
         some (decide (25 < (weights1.length : Int)))).bind fun v3 =>
        (bif v3 then
         some true
        else
         some (decide (8 < (names1.length : Int)))).bind fun v4 =>
        bif v4 then
         some false
        else
         (bif decide ((motions1.length : Int) ≤ 8) then
          some true
         else
          (bif decide (40 < (motions1.length : Int)) then
           some (decide ((motions1.length : Int) ≤ 45))
          else
           some false).bind fun v6 =>
          some v6).bind fun v5 =>
         some v5) n 0) := ⟨_, rfl⟩
 replace hm : (fun m (s : Int) => ref40_Few_L1 n motions1 kont2 m s) n 0 = some r := by rw [hkont2]; exact hm
 refine loopX (id := 0) (fun m (s : Int) => ref40_Few_L1 n motions1 kont2 m s) (fun (y : Unit) => kont2) r (fun (s : Int) a w' => w = w' ∧ Has 80 a [(0, .slice as1 ns1 cs1), (1, .slice as2 ns2 cs2), (2, .slice as3 ns3 cs3), (3, .slice as4 ns4 cs4), (9, .int .i64 s)]) (fun (y : Unit) a w' => w = w' ∧ Has 80 a [(0, .slice as1 ns1 cs1), (1, .slice as2 ns2 cs2), (2, .slice as3 ns3 cs3), (3, .slice as4 ns4 cs4)]) (fun _ => rfl) ?_ ?_ hm ⟨rfl, hax14.cut (l := [0, 1, 2, 3, 9]) rfl⟩
 ·clear hm; rintro _u a wx1 hm ⟨rfl, hax1⟩
  rw [hkont2] at hm
  refine qw_apply (e := .exit 0) hax1 ?_
  refine q_block_hit (q_then (c_seq (c_seq (c_region (r_assign rfl rfl rfl (r_nil (q_then (c_block ?_))))))))
  intro a hax11
  obtain ⟨kont1, hkont1⟩ : ∃ kont1 : Option Bool, kont1 = (
       (bif decide (60 < (votes1.length : Int)) then
        some (decide ((votes1.length : Int) ≤ 1000))
       else
        some false).bind fun v1 =>
       (bif v1 then
        some true
       else
        some (decide (1010 < (votes1.length : Int)))).bind fun v2 =>
       (bif v2 then
        some true
       else
        some (decide (25 < (weights1.length : Int)))).bind fun v3 =>
       (bif v3 then
        some true
       else
        some (decide (8 < (names1.length : Int)))).bind fun v4 =>
       bif v4 then
        some false
       else
        (bif decide ((motions1.length : Int) ≤ 8) then
         some true
        else
         (bif decide (40 < (motions1.length : Int)) then
          some (decide ((motions1.length : Int) ≤ 45))
         else
          some false).bind fun v6 =>
         some v6).bind fun v5 =>
        some v5) := ⟨_, rfl⟩
  replace hm : (fun m (s : Int) => ref40_Few_L2 n names1 kont1 m s) n 0 = some r := by rw [hkont1]; exact hm
  refine loopX (id := 2) (fun m (s : Int) => ref40_Few_L2 n names1 kont1 m s) (fun (y : Unit) => kont1) r (fun (s : Int) a w' => w = w' ∧ Has 80 a [(0, .slice as1 ns1 cs1), (1, .slice as2 ns2 cs2), (2, .slice as3 ns3 cs3), (3, .slice as4 ns4 cs4), (10, .int .i64 s)]) (fun (y : Unit) a w' => w = w' ∧ Has 80 a [(0, .slice as1 ns1 cs1), (1, .slice as2 ns2 cs2), (2, .slice as3 ns3 cs3), (3, .slice as4 ns4 cs4)]) (fun _ => rfl) ?_ ?_ hm ⟨rfl, hax11.cut (l := [0, 1, 2, 3, 10]) rfl⟩
  ·clear hm; rintro _u a wx2 hm ⟨rfl, hax2⟩
   rw [hkont1] at hm
   refine qw_apply (e := .exit 2) hax2 ?_
   refine q_block_hit (q_then (c_seq (c_seq (c_region (r_move rfl rfl rfl ?_)))))
   refine r_lenS hs2.len u23 rfl rfl rfl ?_
   refine r_bin rfl rfl rfl rfl rfl ?_
   refine r_move rfl rfl rfl ?_
   obtain ⟨v1, hb1, hm⟩ := bind_some hm
   refine r_mid 4 (fun a w' => w = w' ∧ Has 80 a [(0, .slice as1 ns1 cs1), (1, .slice as2 ns2 cs2), (2, .slice as3 ns3 cs3), (3, .slice as4 ns4 cs4), (51, .bool v1)]) ?_ ?_
   ·rintro a wx3 ⟨rfl, hax3⟩
    refine rw_apply hax3 ?_
    refine r_move rfl rfl rfl ?_
    obtain ⟨v2, hb2, hm⟩ := bind_some hm
    refine r_mid 4 (fun a w' => w = w' ∧ Has 80 a [(0, .slice as1 ns1 cs1), (2, .slice as3 ns3 cs3), (3, .slice as4 ns4 cs4), (56, .bool v2)]) ?_ ?_
    ·rintro a wx4 ⟨rfl, hax4⟩
     refine rw_apply hax4 ?_
     refine r_move rfl rfl rfl ?_
     obtain ⟨v3, hb3, hm⟩ := bind_some hm
     refine r_mid 4 (fun a w' => w = w' ∧ Has 80 a [(0, .slice as1 ns1 cs1), (3, .slice as4 ns4 cs4), (61, .bool v3)]) ?_ ?_
     ·rintro a wx5 ⟨rfl, hax5⟩
      refine rw_apply hax5 ?_
      refine r_move rfl rfl rfl ?_
      obtain ⟨v4, hb4, hm⟩ := bind_some hm
      refine r_mid 4 (fun a w' => w = w' ∧ Has 80 a [(0, .slice as1 ns1 cs1), (66, .bool v4)]) ?_ ?_
      ·rintro a wx6 ⟨rfl, hax6⟩
       refine rw_apply hax6 ?_
       refine r_nil (q_then ?_)
       rcases cond_some hm with ⟨hb5, hm⟩ | ⟨hb5, hm⟩
       ·refine c_lit 66 rfl hb5 ?_
        refine c_true rfl (c_seq (c_region (r_assign rfl rfl rfl (r_nil (q_then (c_ret (q_then_ret ?_)))))))
        refine b_ret1 rfl rfl ?_
        obtain rfl := Option.some.inj hm
        exact ⟨rfl, rfl⟩
       ·refine c_lit 66 rfl hb5 ?_
        refine c_false rfl (c_skip (q_then (c_seq (c_region (r_move rfl rfl rfl ?_)))))
        refine r_lenS hs1.len u22 rfl rfl rfl ?_
        refine r_bin rfl rfl rfl rfl rfl ?_
        refine r_move rfl rfl rfl ?_
        obtain ⟨v5, hb6, hm⟩ := bind_some hm
        refine r_mid 9 (fun a w' => w = w' ∧ Has 80 a [(79, .bool v5)]) ?_ ?_
        ·rintro a wx7 ⟨rfl, hax7⟩
         refine rw_apply hax7 ?_
         refine r_assign rfl rfl rfl (r_nil (q_then (c_ret ?_)))
         refine b_ret1 rfl rfl ?_
         obtain rfl := Option.some.inj hm
         exact ⟨rfl, rfl⟩
        ·clear hm
         rcases cond_some hb6 with ⟨hb7, hb6⟩ | ⟨hb7, hb6⟩
         ·refine r_lit 70 rfl hb7 ?_
          refine r_off rfl (by decide) rfl (r_off rfl (by decide) rfl (r_off rfl (by decide) rfl (r_off rfl (by decide) rfl (r_off rfl (by decide) rfl (r_off rfl (by decide) rfl (r_off rfl (by decide) rfl (r_off rfl (by decide) rfl (r_pick_true rfl rfl rfl rfl (r_nil ?_)))))))))
          refine q_next (fun a ha => ?_)
          cases hb6
          exact ⟨rfl, ha.cut (l := [79]) rfl⟩
         ·refine r_lit 70 rfl hb7 ?_
          refine r_move rfl rfl rfl ?_
          refine r_lenS hs1.len u22 rfl rfl rfl ?_
          refine r_bin rfl rfl rfl rfl rfl ?_
          refine r_move rfl rfl rfl ?_
          obtain ⟨v6, hb8, hb6⟩ := bind_some hb6
          refine r_mid 4 (fun a w' => w = w' ∧ Has 80 a [(70, .bool false), (78, .bool v6)]) ?_ ?_
          ·rintro a wx8 ⟨rfl, hax8⟩
           refine rw_apply hax8 ?_
           refine r_pick_false rfl rfl rfl rfl (r_nil ?_)
           refine q_next (fun a ha => ?_)
           cases hb6
           exact ⟨rfl, ha.cut (l := [79]) rfl⟩
          ·clear hb6
           rcases cond_some hb8 with ⟨hb9, hb8⟩ | ⟨hb9, hb8⟩
           ·refine r_lit 74 rfl hb9 ?_
            refine r_move rfl rfl rfl ?_
            refine r_lenS hs1.len u22 rfl rfl rfl ?_
            refine r_bin rfl rfl rfl rfl rfl ?_
            refine r_pick_true rfl rfl rfl rfl (r_nil ?_)
            refine q_next (fun a ha => ?_)
            cases hb8
            exact ⟨rfl, ha.cut (l := [70, 78]) rfl⟩
           ·refine r_lit 74 rfl hb9 ?_
            refine r_off rfl (by decide) rfl (r_off rfl (by decide) rfl (r_off rfl (by decide) rfl (r_pick_false rfl rfl rfl rfl (r_nil ?_))))
            refine q_next (fun a ha => ?_)
            cases hb8
            exact ⟨rfl, ha.cut (l := [70, 78]) rfl⟩
      ·clear hm
       rcases cond_some hb4 with ⟨hb10, hb4⟩ | ⟨hb10, hb4⟩
       ·refine r_lit 62 rfl hb10 ?_
        refine r_off rfl (by decide) rfl (r_off rfl (by decide) rfl (r_off rfl (by decide) rfl (r_pick_true rfl rfl rfl rfl (r_nil ?_))))
        refine q_next (fun a ha => ?_)
        cases hb4
        exact ⟨rfl, ha.cut (l := [0, 66]) rfl⟩
       ·refine r_lit 62 rfl hb10 ?_
        refine r_move rfl rfl rfl ?_
        refine r_lenS hs4.len u25 rfl rfl rfl ?_
        refine r_bin rfl rfl rfl rfl rfl ?_
        refine r_pick_false rfl rfl rfl rfl (r_nil ?_)
        refine q_next (fun a ha => ?_)
        cases hb4
        exact ⟨rfl, ha.cut (l := [0, 66]) rfl⟩
     ·clear hm
      rcases cond_some hb3 with ⟨hb11, hb3⟩ | ⟨hb11, hb3⟩
      ·refine r_lit 57 rfl hb11 ?_
       refine r_off rfl (by decide) rfl (r_off rfl (by decide) rfl (r_off rfl (by decide) rfl (r_pick_true rfl rfl rfl rfl (r_nil ?_))))
       refine q_next (fun a ha => ?_)
       cases hb3
       exact ⟨rfl, ha.cut (l := [0, 3, 61]) rfl⟩
      ·refine r_lit 57 rfl hb11 ?_
       refine r_move rfl rfl rfl ?_
       refine r_lenS hs3.len u24 rfl rfl rfl ?_
       refine r_bin rfl rfl rfl rfl rfl ?_
       refine r_pick_false rfl rfl rfl rfl (r_nil ?_)
       refine q_next (fun a ha => ?_)
       cases hb3
       exact ⟨rfl, ha.cut (l := [0, 3, 61]) rfl⟩
    ·clear hm
     rcases cond_some hb2 with ⟨hb12, hb2⟩ | ⟨hb12, hb2⟩
     ·refine r_lit 52 rfl hb12 ?_
      refine r_off rfl (by decide) rfl (r_off rfl (by decide) rfl (r_off rfl (by decide) rfl (r_pick_true rfl rfl rfl rfl (r_nil ?_))))
      refine q_next (fun a ha => ?_)
      cases hb2
      exact ⟨rfl, ha.cut (l := [0, 2, 3, 56]) rfl⟩
     ·refine r_lit 52 rfl hb12 ?_
      refine r_move rfl rfl rfl ?_
      refine r_lenS hs2.len u23 rfl rfl rfl ?_
      refine r_bin rfl rfl rfl rfl rfl ?_
      refine r_pick_false rfl rfl rfl rfl (r_nil ?_)
      refine q_next (fun a ha => ?_)
      cases hb2
      exact ⟨rfl, ha.cut (l := [0, 2, 3, 56]) rfl⟩
   ·clear hm
    rcases cond_some hb1 with ⟨hb13, hb1⟩ | ⟨hb13, hb1⟩
    ·refine r_lit 47 rfl hb13 ?_
     refine r_move rfl rfl rfl ?_
     refine r_lenS hs2.len u23 rfl rfl rfl ?_
     refine r_bin rfl rfl rfl rfl rfl ?_
     refine r_pick_true rfl rfl rfl rfl (r_nil ?_)
     refine q_next (fun a ha => ?_)
     cases hb1
     exact ⟨rfl, ha.cut (l := [0, 1, 2, 3, 51]) rfl⟩
    ·refine r_lit 47 rfl hb13 ?_
     refine r_off rfl (by decide) rfl (r_off rfl (by decide) rfl (r_off rfl (by decide) rfl (r_pick_false rfl rfl rfl rfl (r_nil ?_))))
     refine q_next (fun a ha => ?_)
     cases hb1
     exact ⟨rfl, ha.cut (l := [0, 1, 2, 3, 51]) rfl⟩
  ·clear hm hkont1; intro hk1 mx1 K ihx1
   rintro i2 a wx9 hm ⟨rfl, hax9⟩
   simp only [ref40_Few_L2_s] at hm
   refine cw_apply hax9 ?_
   refine c_seq (c_seq (c_region (r_move rfl rfl rfl (r_move rfl rfl rfl ?_))))
   refine r_lenS hs4.len u25 rfl rfl rfl ?_
   refine r_bin rfl rfl rfl rfl rfl ?_
   refine r_move rfl rfl rfl ?_
   obtain ⟨v7, hb14, hm⟩ := bind_some hm
   refine r_mid 3 (fun a w' => w = w' ∧ Has 80 a [(0, .slice as1 ns1 cs1), (1, .slice as2 ns2 cs2), (2, .slice as3 ns3 cs3), (3, .slice as4 ns4 cs4), (10, .int .i64 i2), (35, .bool v7)]) ?_ ?_
   ·rintro a wx10 ⟨rfl, hax10⟩
    refine rw_apply hax10 ?_
    refine r_nil (q_then ?_)
    rcases cond_some hm with ⟨hb15, hm⟩ | ⟨hb15, hm⟩
    ·refine c_lit 35 rfl hb15 ?_
     refine c_true rfl (c_skip (q_then (c_seq (c_block (c_seq (c_region (r_move rfl rfl rfl (r_move rfl rfl rfl ?_))))))))
     obtain ⟨ex1, he1, hm⟩ := bind_some hm
     refine r_findex (r := Rp.str) u25 sz9 rfl rfl rfl rfl hs4 he1 ?_
     intro b1 o1 cs1 hf1 hr1
     have hc1 : cs1 = [vs ex1] := hr1
     subst hc1
     refine r_loadF1 (j := 0) ag9 rfl rfl h hf1 rfl rfl ?_
     refine r_slen u9 rfl rfl rfl ?_
     refine r_bin rfl rfl rfl rfl rfl ?_
     refine r_nil (q_then ?_)
     rcases cond_some hm with ⟨hb16, hm⟩ | ⟨hb16, hm⟩
     ·refine c_lit 43 rfl hb16 ?_
      refine c_true rfl (c_seq (c_region (r_assign rfl rfl rfl (r_nil (q_then (c_ret (q_block_ret (q_then_ret (q_then_ret (q_block_ret (q_then_ret ?_)))))))))))
      refine b_ret1 rfl rfl ?_
      obtain rfl := Option.some.inj hm
      exact ⟨rfl, rfl⟩
     ·refine c_lit 43 rfl hb16 ?_
      refine c_false rfl (c_skip (q_block (q_then (c_region (r_move rfl rfl rfl ?_)))))
      refine r_bin rfl rfl rfl rfl rfl ?_
      refine r_assign rfl rfl rfl (r_nil ?_)
      refine q_next (fun a ha => ihx1 (iadd .i64 i2 1) a _ hm ?_)
      exact ⟨rfl, ha.cut (l := [0, 1, 2, 3, 10]) rfl⟩
    ·refine c_lit 35 rfl hb15 ?_
     refine c_false rfl (c_exit (q_then_exit (q_then_exit ?_)))
     refine fun a ha => hk1 () a _ hm ?_
     exact ⟨rfl, ha.cut (l := [0, 1, 2, 3]) rfl⟩
   ·clear hm
    rcases cond_some hb14 with ⟨hb17, hb14⟩ | ⟨hb17, hb14⟩
    ·refine r_lit 32 rfl hb17 ?_
     refine r_move rfl rfl rfl ?_
     refine r_bin rfl rfl rfl rfl rfl ?_
     refine r_pick_true rfl rfl rfl rfl (r_nil ?_)
     refine q_next (fun a ha => ?_)
     cases hb14
     exact ⟨rfl, ha.cut (l := [0, 1, 2, 3, 10, 35]) rfl⟩
    ·refine r_lit 32 rfl hb17 ?_
     refine r_off rfl (by decide) rfl (r_off rfl (by decide) rfl (r_pick_false rfl rfl rfl rfl (r_nil ?_)))
     refine q_next (fun a ha => ?_)
     cases hb14
     exact ⟨rfl, ha.cut (l := [0, 1, 2, 3, 10, 35]) rfl⟩
 ·clear hm hkont2; intro hk2 mx2 K ihx2
  rintro i1 a wx11 hm ⟨rfl, hax12⟩
  simp only [ref40_Few_L1_s] at hm
  refine cw_apply hax12 ?_
  refine c_seq (c_seq (c_region (r_move rfl rfl rfl (r_move rfl rfl rfl ?_))))
  refine r_lenS hs1.len u22 rfl rfl rfl ?_
  refine r_bin rfl rfl rfl rfl rfl ?_
  refine r_move rfl rfl rfl ?_
  obtain ⟨v8, hb18, hm⟩ := bind_some hm
  refine r_mid 3 (fun a w' => w = w' ∧ Has 80 a [(0, .slice as1 ns1 cs1), (1, .slice as2 ns2 cs2), (2, .slice as3 ns3 cs3), (3, .slice as4 ns4 cs4), (9, .int .i64 i1), (18, .bool v8)]) ?_ ?_
  ·rintro a wx12 ⟨rfl, hax13⟩
   refine rw_apply hax13 ?_
   refine r_nil (q_then ?_)
   rcases cond_some hm with ⟨hb19, hm⟩ | ⟨hb19, hm⟩
   ·refine c_lit 18 rfl hb19 ?_
    refine c_true rfl (c_skip (q_then (c_seq (c_block (c_seq (c_region (r_move rfl rfl rfl (r_move rfl rfl rfl ?_))))))))
    obtain ⟨ex2, he2, hm⟩ := bind_some hm
    refine r_findex (r := rp_Motion) u22 sz48 rfl rfl rfl rfl hs1 he2 ?_
    intro b2 o2 cs2 hf2 hr2
    have hc2 : cs2 = [vs ex2.Text, .int .i64 ex2.Day, .int .i64 ex2.From] := hr2
    subst hc2
    refine r_fieldAddr fa48_0 rfl rfl rfl ?_
    refine r_loadF1 (j := 0) ag9 rfl rfl h hf2 rfl rfl ?_
    refine r_slen u9 rfl rfl rfl ?_
    refine r_bin rfl rfl rfl rfl rfl ?_
    refine r_nil (q_then ?_)
    rcases cond_some hm with ⟨hb20, hm⟩ | ⟨hb20, hm⟩
    ·refine c_lit 27 rfl hb20 ?_
     refine c_true rfl (c_seq (c_region (r_assign rfl rfl rfl (r_nil (q_then (c_ret (q_block_ret (q_then_ret (q_then_ret (q_block_ret (q_then_ret ?_)))))))))))
     refine b_ret1 rfl rfl ?_
     obtain rfl := Option.some.inj hm
     exact ⟨rfl, rfl⟩
    ·refine c_lit 27 rfl hb20 ?_
     refine c_false rfl (c_skip (q_block (q_then (c_region (r_move rfl rfl rfl ?_)))))
     refine r_bin rfl rfl rfl rfl rfl ?_
     refine r_assign rfl rfl rfl (r_nil ?_)
     refine q_next (fun a ha => ihx2 (iadd .i64 i1 1) a _ hm ?_)
     exact ⟨rfl, ha.cut (l := [0, 1, 2, 3, 9]) rfl⟩
   ·refine c_lit 18 rfl hb19 ?_
    refine c_false rfl (c_exit (q_then_exit (q_then_exit ?_)))
    refine fun a ha => hk2 () a _ hm ?_
    exact ⟨rfl, ha.cut (l := [0, 1, 2, 3]) rfl⟩
  ·clear hm
   rcases cond_some hb18 with ⟨hb21, hb18⟩ | ⟨hb21, hb18⟩
   ·refine r_lit 15 rfl hb21 ?_
    refine r_move rfl rfl rfl ?_
    refine r_bin rfl rfl rfl rfl rfl ?_
    refine r_pick_true rfl rfl rfl rfl (r_nil ?_)
    refine q_next (fun a ha => ?_)
    cases hb18
    exact ⟨rfl, ha.cut (l := [0, 1, 2, 3, 9, 18]) rfl⟩
   ·refine r_lit 15 rfl hb21 ?_
    refine r_off rfl (by decide) rfl (r_off rfl (by decide) rfl (r_pick_false rfl rfl rfl rfl (r_nil ?_)))
    refine q_next (fun a ha => ?_)
    cases hb18
    exact ⟨rfl, ha.cut (l := [0, 1, 2, 3, 9, 18]) rfl⟩
theorem u30 : Tryz.prog.underlying 30 = some (.slice 31) := by kernel_rfl
def ref40_SameErrors_L1 (n : Nat) (ax1 : (List Int)) (b1 : (List Int)) (kont1 : Option Bool) : Nat → Int → Option Bool
 | 0, _ => none
 | mx1 + 1, i1 =>
  bif decide (i1 < (ax1.length : Int)) then
   (ix ax1 i1).bind fun ex1 =>
   (ix b1 i1).bind fun ex2 =>
   bif ex1 != ex2 then
    some false
   else
    ref40_SameErrors_L1 n ax1 b1 kont1 mx1 (iadd .i64 i1 1)
  else
   kont1
theorem ref40_SameErrors_L1_s (n : Nat) (ax1 : (List Int)) (b1 : (List Int)) (kont1 : Option Bool) (mx1 : Nat) (i1 : Int) : ref40_SameErrors_L1 n ax1 b1 kont1 (mx1 + 1) i1 =
  bif decide (i1 < (ax1.length : Int)) then
   (ix ax1 i1).bind fun ex1 =>
   (ix b1 i1).bind fun ex2 =>
   bif ex1 != ex2 then
    some false
   else
    ref40_SameErrors_L1 n ax1 b1 kont1 mx1 (iadd .i64 i1 1)
  else
   kont1 := rfl
def ref40_SameErrors (n : Nat) (ax1 : (List Int)) (b1 : (List Int)) : Option Bool :=
 bif (ax1.length : Int) != (b1.length : Int) then
  some false
 else
  ref40_SameErrors_L1 n ax1 b1 (
   some true) n 0
set_option maxHeartbeats 1000000 in
set_option maxRecDepth 1000000 in
theorem ref40_SameErrors_ok (n : Nat) (ax1 : (List Int)) (b1 : (List Int)) (r : Bool) (hm : ref40_SameErrors n ax1 b1 = some r) {w : World} {F : Frz} (hs : Sat F w) {as1 : Option Addr} {ns1 : Nat} {cs1 : Nat} {as2 : Option Addr} {ns2 : Nat} {cs2 : Nat} (hs1 : SlR (Rp.int .i64) F as1 ns1 cs1 ax1) (hs2 : SlR (Rp.int .i64) F as2 ns2 cs2 b1) :
  Calls Tryz.prog 14 #[.slice as1 ns1 cs1, .slice as2 ns2 cs2] w fun e w' => ∃ v F' O', e = .returned v ∧ HS F w [] F' O' w' ∧ (v = .bool r ∧ O' = []) := by
 unfold ref40_SameErrors at hm
 have h := HS.init hs
 refine calls_of 26 Tryz.func14 rfl rfl rfl ?_
 refine c_seq (c_region (r_assign rfl rfl rfl (r_nil (q_then (c_seq (c_seq (c_region (r_move rfl rfl rfl ?_))))))))
 refine r_lenS hs1.len u30 rfl rfl rfl ?_
 refine r_move rfl rfl rfl ?_
 refine r_lenS hs2.len u30 rfl rfl rfl ?_
 refine r_bin rfl rfl rfl rfl rfl ?_
 refine r_nil (q_then ?_)
 rcases cond_some hm with ⟨hb1, hm⟩ | ⟨hb1, hm⟩
 ·refine c_lit 10 rfl hb1 ?_
  refine c_true rfl (c_seq (c_region (r_assign rfl rfl rfl (r_nil (q_then (c_ret (q_then_ret ?_)))))))
  refine b_ret1 rfl rfl ?_
  obtain rfl := Option.some.inj hm
  exact ⟨_, _, _, rfl, h.pick [] (by decide) rfl, rfl, rfl⟩
 ·refine c_lit 10 rfl hb1 ?_
  refine c_false rfl (c_skip (q_then (c_seq (c_seq (c_region (r_assign rfl rfl rfl (r_nil (q_then (c_block ?_)))))))))
  intro a hax3
  obtain ⟨kont1, hkont1⟩ : ∃ kont1 : Option Bool, kont1 = (
       some true) := ⟨_, rfl⟩
  replace hm : (fun m (s : Int) => ref40_SameErrors_L1 n ax1 b1 kont1 m s) n 0 = some r := by rw [hkont1]; exact hm
  refine loopX (id := 0) (fun m (s : Int) => ref40_SameErrors_L1 n ax1 b1 kont1 m s) (fun (y : Unit) => kont1) r (fun (s : Int) a w' => ∃ (Fx1 : Frz), Frz.le F Fx1 ∧ HS F w [] Fx1 [] w' ∧ Has 26 a [(0, .slice as1 ns1 cs1), (1, .slice as2 ns2 cs2), (5, .int .i64 s)]) (fun (y : Unit) a w' => ∃ (Fx2 : Frz), Frz.le F Fx2 ∧ HS F w [] Fx2 [] w' ∧ Has 26 a []) (fun _ => rfl) ?_ ?_ hm ⟨_, Frz.refl _, h.pick [] (by decide) rfl, hax3.cut (l := [0, 1, 5]) rfl⟩
  ·clear hm; rintro _u a wx1 hm ⟨Fx2, hF2, hx2, hax1⟩
   rw [hkont1] at hm
   refine qw_apply (e := .exit 0) hax1 ?_
   refine q_block_hit (q_then (c_seq (c_region (r_assign rfl rfl rfl (r_nil (q_then (c_ret ?_)))))))
   refine b_ret1 rfl rfl ?_
   obtain rfl := Option.some.inj hm
   exact ⟨_, _, _, rfl, hx2.pick [] (by decide) rfl, rfl, rfl⟩
  ·clear hm hkont1; intro hk1 mx1 K ihx1
   rintro i1 a wx2 hm ⟨Fx1, hF1, hx1, hax2⟩
   simp only [ref40_SameErrors_L1_s] at hm
   refine cw_apply hax2 ?_
   refine c_seq (c_seq (c_region (r_move rfl rfl rfl (r_move rfl rfl rfl ?_))))
   refine r_lenS hs1.len u30 rfl rfl rfl ?_
   refine r_bin rfl rfl rfl rfl rfl ?_
   refine r_nil (q_then ?_)
   rcases cond_some hm with ⟨hb2, hm⟩ | ⟨hb2, hm⟩
   ·refine c_lit 14 rfl hb2 ?_
    refine c_true rfl (c_skip (q_then (c_seq (c_block (c_seq ?_)))))
    refine c_regionD (by kernel_rfl) (by kernel_rfl) hx1 ?_
    refine q_stp rfl rfl rfl rfl (fun _ _ _ _ => r_move rfl rfl rfl (r_nil (qq rfl))) ?_
    refine q_stp rfl rfl rfl rfl (fun _ _ _ _ => r_move rfl rfl rfl (r_nil (qq rfl))) ?_
    obtain ⟨ex1, he1, hm⟩ := bind_some hm
    obtain ⟨b2, o1, cs1, hf1, hr1, hrun1⟩ := findex_ex (P := Tryz.prog) (r := (Rp.int .i64)) u30 sz31 (hs1.mono hF1) he1
    have hc1 : cs1 = [.int .i64 ex1] := hr1
    subst hc1
    refine q_findex rfl rfl rfl rfl hrun1 ?_
    refine q_stp rfl rfl rfl rfl (fun _ _ hleq hq => r_loadF1 (j := 0) ag31 rfl rfl hq (hf1.mono hleq) rfl rfl (r_nil (qq rfl))) ?_
    refine q_stp rfl rfl rfl rfl (fun _ _ _ _ => r_move rfl rfl rfl (r_nil (qq rfl))) ?_
    refine q_stp rfl rfl rfl rfl (fun _ _ _ _ => r_move rfl rfl rfl (r_nil (qq rfl))) ?_
    obtain ⟨ex2, he2, hm⟩ := bind_some hm
    obtain ⟨b3, o2, cs2, hf2, hr2, hrun2⟩ := findex_ex (P := Tryz.prog) (r := (Rp.int .i64)) u30 sz31 (hs2.mono hF1) he2
    have hc2 : cs2 = [.int .i64 ex2] := hr2
    subst hc2
    refine q_findex rfl rfl rfl rfl hrun2 ?_
    refine q_stp rfl rfl rfl rfl (fun _ _ hleq hq => r_loadF1 (j := 0) ag31 rfl rfl hq (hf2.mono hleq) rfl rfl (r_nil (qq rfl))) ?_
    refine q_stp rfl rfl rfl rfl (fun _ _ _ _ => r_bin rfl rfl rfl rfl rfl (r_nil (qq rfl))) ?_
    refine q_end ?_
    rintro wx3 ⟨Fx3, hF3, hx3⟩
    refine q_then ?_
    rcases cond_some hm with ⟨hb3, hm⟩ | ⟨hb3, hm⟩
    ·refine c_lit 25 rfl hb3 ?_
     refine c_true rfl (c_seq (c_region (r_assign rfl rfl rfl (r_nil (q_then (c_ret (q_block_ret (q_then_ret (q_then_ret (q_block_ret (q_then_ret ?_)))))))))))
     refine b_ret1 rfl rfl ?_
     obtain rfl := Option.some.inj hm
     exact ⟨_, _, _, rfl, hx3.pick [] (by decide) rfl, rfl, rfl⟩
    ·refine c_lit 25 rfl hb3 ?_
     refine c_false rfl (c_skip (q_block (q_then (c_region (r_move rfl rfl rfl ?_)))))
     refine r_bin rfl rfl rfl rfl rfl ?_
     refine r_assign rfl rfl rfl (r_nil ?_)
     refine q_next (fun a ha => ihx1 (iadd .i64 i1 1) a _ hm ?_)
     exact ⟨_, (hF1.trans hF3), hx3.pick [] (by decide) rfl, ha.cut (l := [0, 1, 5]) rfl⟩
   ·refine c_lit 14 rfl hb2 ?_
    refine c_false rfl (c_exit (q_then_exit (q_then_exit ?_)))
    refine fun a ha => hk1 () a _ hm ?_
    exact ⟨_, hF1, hx1.pick [] (by decide) rfl, ha.cut (l := []) rfl⟩
def law40_motion (_n : Nat) (fromx1 : Int) (name1 : Bs) : Option Motion :=
 (scat [116, 97, 114, 105, 102, 102, 32, 97, 32, 123, 32, 102, 101, 101, 32, 61, 32, 119, 101, 105, 103, 104, 116, 40] name1).bind fun t1 =>
 (scat t1 [41, 32, 59, 32, 125]).bind fun t2 =>
 some (⟨t2, 10, fromx1⟩ : Motion)
set_option maxHeartbeats 1000000 in
set_option maxRecDepth 1000000 in
theorem law40_motion_ok (n : Nat) (fromx1 : Int) (name1 : Bs) (r : Motion) (hm : law40_motion n fromx1 name1 = some r) {w : World} {F : Frz} (hs : Sat F w)  :
  Calls Tryz.prog 20 #[.int .i64 fromx1, vs name1] w fun e w' => ∃ v F' O', e = .returned v ∧ HS F w [] F' O' w' ∧ (v = .agg #[vs r.Text, .int .i64 r.Day, .int .i64 r.From] ∧ O' = []) := by
 unfold law40_motion at hm
 have h := HS.init hs
 refine calls_of 10 Tryz.func20 rfl rfl rfl ?_
 refine c_seq (c_region ?_)
 refine r_alloc ze48 rfl rfl rfl h ?_
 intro b1 wx1 hx1
 refine r_nil (q_then (c_seq (c_region (r_move rfl rfl rfl ?_))))
 obtain ⟨t1, hq1, hm⟩ := bind_some hm
 refine r_cat rfl rfl rfl rfl hq1 ?_
 obtain ⟨t2, hq2, hm⟩ := bind_some hm
 refine r_cat rfl rfl rfl rfl hq2 ?_
 refine r_move rfl rfl rfl ?_
 refine r_build (v := .agg #[vs t2, .int .i64 10, .int .i64 fromx1]) rfl rfl rfl (fun _ => by kernel_rfl) ?_
 refine r_store sz48 rfl hx1 rfl rfl rfl rfl (i := 0) rfl rfl rfl rfl ?_
 intro wx2 hx2
 refine r_nil (q_then (c_ret ?_))
 refine b_retC rfl ag48 sz48 rfl hx2 rfl (i := 0) rfl ?_
 obtain rfl := Option.some.inj hm
 exact ⟨_, _, _, rfl, hx2.pick [] (by decide) rfl, rfl, rfl⟩
end Go.Proofs.YtibkigpmkkkaeaaGreatDoor.M
