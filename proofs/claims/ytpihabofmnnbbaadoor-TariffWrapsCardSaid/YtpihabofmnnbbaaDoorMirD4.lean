/-
  THE MIRRORS of the tariff's and the lexer's functions, of the references and the laws, and that each call returns what its mirror says. Printed by gen.py.
-/
import Derived.Test.YtpihabofmnnbbaaDoorRows
import Derived.Test.YtpihabofmnnbbaaDoorRtZ
import Derived.Test.YtpihabofmnnbbaaDoorExpr
import Derived.Test.YtpihabofmnnbbaaDoorExtT
import Derived.Test.YtpihabofmnnbbaaDoorExtE
import Derived.Test.YtpihabofmnnbbaaDoorMirS
namespace Go.Proofs.YtpihabofmnnbbaaDoor.M
open Go Go.RowKit Rt

theorem ent41 : Ent Tryd.prog 41 := fun _ _ => by kernel_rfl

theorem ap36 : AppIs Tryd.prog 36 9 1 16 := AppIs.of (z := vs []) (by kernel_rfl) (by kernel_rfl) rfl (by decide) (by decide)

theorem ent40 : Ent Tryd.prog 40 := fun _ _ => by kernel_rfl

def lexer_Print_L1 (n : Nat) (l1 : (List Token)) (kont1 : (List Bs) → Option Bs) : Nat → Int → (List Bs) → Option Bs
 | 0, _, _ => none
 | mx1 + 1, i1, l2 =>
  bif decide (i1 < (l1.length : Int)) then
   (ix l1 i1).bind fun ex1 =>
   (bif ex1.Kind == 2 then
    (lexer_escaped n ex1.Text).bind fun v2 =>
    some v2
   else
    some ex1.Text).bind fun f1 =>
   (app 16 l2 [f1]).bind fun l4 =>
   lexer_Print_L1 n l1 kont1 mx1 (iadd .i64 i1 1) l4
  else
   kont1 l2

theorem lexer_Print_L1_s (n : Nat) (l1 : (List Token)) (kont1 : (List Bs) → Option Bs) (mx1 : Nat) (i1 : Int) (l2 : List Bs) : lexer_Print_L1 n l1 kont1 (mx1 + 1) i1 l2 =
  bif decide (i1 < (l1.length : Int)) then
   (ix l1 i1).bind fun ex1 =>
   (bif ex1.Kind == 2 then
    (lexer_escaped n ex1.Text).bind fun v2 =>
    some v2
   else
    some ex1.Text).bind fun f1 =>
   (app 16 l2 [f1]).bind fun l4 =>
   lexer_Print_L1 n l1 kont1 mx1 (iadd .i64 i1 1) l4
  else
   kont1 l2 := rfl

def lexer_Print (n : Nat) (l1 : (List Token)) : Option Bs :=
 lexer_Print_L1 n l1 (fun (l3 : List Bs) =>
  (strings_Join n l3 [32]).bind fun v1 =>
  some v1) n 0 ([] : List Bs)

set_option maxHeartbeats 1000000 in
set_option maxRecDepth 1000000 in
theorem lexer_Print_ok (n : Nat) (l1 : (List Token)) (r : Bs) (hm : lexer_Print n l1 = some r) {w : World} {F : Frz} (hs : Sat F w) {as1 : Option Addr} {ns1 : Nat} {cs1 : Nat} (hs1 : SlR rp_Token F as1 ns1 cs1 l1) :
  Calls Tryd.prog 20 #[.slice as1 ns1 cs1] w fun e w' => ∃ v F' O', e = .returned v ∧ HS F w [] F' O' w' ∧ (v = vs r ∧ O' = []) := by
 unfold lexer_Print at hm
 have h := HS.init hs
 refine calls_of 27 Tryd.func20 rfl rfl rfl ?_
 refine c_seq (c_region (r_assign rfl rfl rfl (r_nil (q_then (c_seq (c_region (r_assign rfl rfl rfl (r_nil (q_then (c_seq (c_seq (c_region (r_move rfl rfl rfl ?_)))))))))))))
 refine r_lenS hs1.len u48 rfl rfl rfl ?_
 refine r_move rfl rfl rfl (r_nil (q_then (c_block ?_)))
 have hx1 := h.nilRow 9 1
 intro a hax4
 obtain ⟨kont1, hkont1⟩ : ∃ kont1 : (List Bs) → Option Bs, kont1 = (fun (l3 : List Bs) =>
       (strings_Join n l3 [32]).bind fun v1 =>
       some v1) := ⟨_, rfl⟩
 replace hm : (fun m (s : Int × List Bs) => lexer_Print_L1 n l1 kont1 m s.1 s.2) n (0, ([] : List Bs)) = some r := by rw [hkont1]; exact hm
 refine loopX (id := 0) (fun m (s : Int × List Bs) => lexer_Print_L1 n l1 kont1 m s.1 s.2) (fun (y : List Bs) => kont1 y) r (fun (s : Int × List Bs) a w' => ∃ (Fx1 : Frz) (as2 : Option Addr) (ns2 : Nat) (cs2 : Nat) (xss2 : List Value), Frz.le F Fx1 ∧ HS F w [] Fx1 [.row 9 1 as2 ns2 cs2 xss2] w' ∧ (RowN Rp.str Fx1 ns2 xss2 s.2) ∧ Has 27 a [(3, .slice as2 ns2 cs2), (6, .slice as1 ns1 cs1), (7, .int .i64 (l1.length : Int)), (8, .int .i64 s.1)]) (fun (y : List Bs) a w' => ∃ (Fx2 : Frz) (as3 : Option Addr) (ns3 : Nat) (cs3 : Nat) (xss3 : List Value), Frz.le F Fx2 ∧ HS F w [] Fx2 [.row 9 1 as3 ns3 cs3 xss3] w' ∧ (RowN Rp.str Fx2 ns3 xss3 y) ∧ Has 27 a [(3, .slice as3 ns3 cs3)]) (fun _ => rfl) ?_ ?_ hm ⟨_, none, 0, 0, [], Frz.refl _, hx1.pick [0] (by decide) rfl, ((show RowN Rp.str _ 0 [] [] from ⟨rfl, rfl⟩)), hax4.cut (l := [3, 6, 7, 8]) rfl⟩
 ·clear hm; rintro l3 a wx1 hm ⟨Fx2, as3, ns3, cs3, xss3, hF2, hx3, hs3, hax1⟩
  rw [hkont1] at hm
  replace hm := hm
  refine qw_apply (e := .exit 0) hax1 ?_
  refine q_block_hit (q_then (c_seq (c_region (r_move rfl rfl rfl ?_))))
  obtain ⟨Fx3, hF3, hx4, hsx1⟩ := freezeRow hx3 (i := 0) rfl hs3
  obtain ⟨v1, hv1, hm⟩ := bind_some hm
  refine r_callG0 ent41 rfl rfl rfl rfl hx4 (strings_Join_ok _ _ _ _ hv1 hx4.sat hsx1) ?_
  rintro _ Fx4 _ wx2 hF4 hx5 ⟨rfl, rfl⟩
  refine r_assign rfl rfl rfl (r_nil (q_then (c_ret ?_)))
  refine b_ret1 rfl rfl ?_
  obtain rfl := Option.some.inj hm
  exact ⟨_, _, _, rfl, hx5.pick [] (by decide) rfl, rfl, rfl⟩
 ·clear hm hkont1; intro hk1 mx1 K ihx1
  rintro ⟨i1, l2⟩ a wx3 hm ⟨Fx1, as2, ns2, cs2, xss2, hF1, hx2, hs2, hax2⟩
  simp only [lexer_Print_L1_s] at hm
  refine cw_apply hax2 ?_
  refine c_seq (c_region ?_)
  refine r_bin rfl rfl rfl rfl rfl ?_
  refine r_nil (q_then (c_seq ?_))
  rcases cond_some hm with ⟨hb1, hm⟩ | ⟨hb1, hm⟩
  ·refine c_lit 9 rfl hb1 ?_
   refine c_true rfl (c_skip (q_then (c_seq (c_block (c_seq (c_region ?_))))))
   obtain ⟨ex1, he1, hm⟩ := bind_some hm
   refine r_findex (r := rp_Token) u48 sz62 rfl rfl rfl rfl (hs1.mono hF1) he1 ?_
   intro b1 o1 cs1 hf1 hr1
   have hc1 : cs1 = [.int .i64 ex1.Kind, vs ex1.Text, .int .i64 ex1.N, .int .i64 ex1.Pos] := hr1
   subst hc1
   refine r_loadFW ag62 sz62 rfl rfl hx2 hf1 rfl rfl ?_
   refine r_alloc ze62 rfl rfl rfl hx2 ?_
   intro b2 wx4 hx6
   refine r_store sz62 rfl hx6 rfl rfl rfl rfl (i := 0) rfl rfl rfl rfl ?_
   intro wx5 hx7
   refine r_nil (q_then (c_seq (c_seq (c_region ?_))))
   refine r_fieldAddr fa62_0 rfl rfl rfl ?_
   refine r_loadB1 ag3 rfl rfl hx7 rfl (i := 0) rfl rfl ?_
   refine r_bin rfl rfl rfl rfl rfl ?_
   refine r_nil (q_then ?_)
   obtain ⟨f1, hb2, hm⟩ := bind_some hm
   refine c_midT (fun a w' => ∃ (Fx5 : Frz), Frz.le Fx1 Fx5 ∧ HS F w [] Fx5 [.box b2 62 [.int .i64 ex1.Kind, vs f1, .int .i64 ex1.N, .int .i64 ex1.Pos], .row 9 1 as2 ns2 cs2 xss2] w' ∧ Has 27 a [(3, .slice as2 ns2 cs2), (5, .pointer (some ⟨b2, 0, none⟩)), (6, .slice as1 ns1 cs1), (7, .int .i64 (l1.length : Int)), (8, .int .i64 i1)]) ?_ ?_
   ·rintro a wx6 ⟨Fx5, hF5, hx8, hax3⟩
    refine cw_apply hax3 ?_
    refine c_region (r_move rfl rfl rfl ?_)
    refine r_fieldAddr fa62_1 rfl rfl rfl ?_
    refine r_loadB1 ag9 rfl rfl hx8 rfl (i := 0) rfl rfl ?_
    refine r_buildSlice (e := 9) (cs := [vs f1]) (q := 1) rfl rfl hx8 rfl (fun _ => by kernel_rfl) rfl rfl ?_
    intro b3 wx7 hx9
    obtain ⟨l4, hr2, hm⟩ := bind_some hm
    refine r_appendN (r := Rp.str) ap36 rfl rfl hx9 rfl rfl (i := 2) (j := 0) rfl rfl (hs2.mono hF5) ((show RowN Rp.str Fx5 1 [vs f1] [f1] from ⟨rfl, ⟨_, _, rfl, rfl, (rfl : RowR Rp.str _ [] [])⟩⟩)) hr2 ?_
    intro as4 cs4 wx8 hx10 hs4
    refine r_assign rfl rfl rfl (r_nil (q_block (q_then (c_region ?_))))
    refine r_bin rfl rfl rfl rfl rfl ?_
    refine r_move rfl rfl rfl (r_nil ?_)
    refine q_next (fun a ha => ihx1 ((iadd .i64 i1 1), l4) a _ hm ?_)
    exact ⟨_, as4, (ns2 + 1), cs4, (xss2 ++ [vs f1]), (hF1.trans hF5), hx10.pick [2] (by decide) rfl, hs4, ha.cut (l := [3, 6, 7, 8]) rfl⟩
   ·clear hm
    rcases cond_some hb2 with ⟨hb3, hb2⟩ | ⟨hb3, hb2⟩
    ·refine c_lit 14 rfl hb3 ?_
     refine c_true rfl (c_region ?_)
     refine r_fieldAddr fa62_1 rfl rfl rfl ?_
     refine r_loadB1 ag9 rfl rfl hx7 rfl (i := 0) rfl rfl ?_
     obtain ⟨v2, hv2, hb2⟩ := bind_some hb2
     refine r_callG0 ent40 rfl rfl rfl rfl hx7 (lexer_escaped_ok _ _ _ hv2 hx7.sat) ?_
     rintro _ Fx6 _ wx9 hF6 hx11 ⟨rfl, rfl⟩
     refine r_fieldAddr fa62_1 rfl rfl rfl ?_
     refine r_store sz9 rfl hx11 rfl rfl rfl rfl (i := 0) rfl rfl rfl rfl ?_
     intro wx10 hx12
     refine r_nil ?_
     refine q_next (fun a ha => ?_)
     cases hb2
     exact ⟨_, hF6, hx12.pick [0, 1] (by decide) rfl, ha.cut (l := [3, 5, 6, 7, 8]) rfl⟩
    ·refine c_lit 14 rfl hb3 ?_
     refine c_false rfl (c_skip ?_)
     refine q_next (fun a ha => ?_)
     cases hb2
     exact ⟨_, Frz.refl _, hx7.pick [0, 1] (by decide) rfl, ha.cut (l := [3, 5, 6, 7, 8]) rfl⟩
  ·refine c_lit 9 rfl hb1 ?_
   refine c_false rfl (c_exit (q_then_exit (q_then_exit ?_)))
   refine fun a ha => hk1 l2 a _ hm ?_
   exact ⟨_, as2, ns2, cs2, xss2, hF1, hx2.pick [0] (by decide) rfl, hs2, ha.cut (l := [3]) rfl⟩


def law35_inside_L2 (n : Nat) (s1 : Bs) (kont1 : Int → Option (Bs × Bs × Bs)) : Nat → Int → Option (Bs × Bs × Bs)
 | 0, _ => none
 | mx1 + 1, to1 =>
  (bif decide (to1 < (s1.length : Int)) then
   (sidx s1 to1).bind fun c1 =>
   some (c1 != 59)
  else
   some false).bind fun v1 =>
  bif v1 then
   law35_inside_L2 n s1 kont1 mx1 (iadd .i64 to1 1)
  else
   kont1 to1

theorem law35_inside_L2_s (n : Nat) (s1 : Bs) (kont1 : Int → Option (Bs × Bs × Bs)) (mx1 : Nat) (to1 : Int) : law35_inside_L2 n s1 kont1 (mx1 + 1) to1 =
  (bif decide (to1 < (s1.length : Int)) then
   (sidx s1 to1).bind fun c1 =>
   some (c1 != 59)
  else
   some false).bind fun v1 =>
  bif v1 then
   law35_inside_L2 n s1 kont1 mx1 (iadd .i64 to1 1)
  else
   kont1 to1 := rfl

def law35_inside_L1 (n : Nat) (s1 : Bs) (kont2 : Int → Option (Bs × Bs × Bs)) : Nat → Int → Option (Bs × Bs × Bs)
 | 0, _ => none
 | mx2 + 1, fromx1 =>
  (bif decide ((iadd .i64 fromx1 5) < (s1.length : Int)) then
   (ssl s1 fromx1 (iadd .i64 fromx1 5)).bind fun t4 =>
   some (!(t4 == [102, 101, 101, 32, 61]))
  else
   some false).bind fun v2 =>
  bif v2 then
   law35_inside_L1 n s1 kont2 mx2 (iadd .i64 fromx1 1)
  else
   kont2 fromx1

theorem law35_inside_L1_s (n : Nat) (s1 : Bs) (kont2 : Int → Option (Bs × Bs × Bs)) (mx2 : Nat) (fromx1 : Int) : law35_inside_L1 n s1 kont2 (mx2 + 1) fromx1 =
  (bif decide ((iadd .i64 fromx1 5) < (s1.length : Int)) then
   (ssl s1 fromx1 (iadd .i64 fromx1 5)).bind fun t4 =>
   some (!(t4 == [102, 101, 101, 32, 61]))
  else
   some false).bind fun v2 =>
  bif v2 then
   law35_inside_L1 n s1 kont2 mx2 (iadd .i64 fromx1 1)
  else
   kont2 fromx1 := rfl

def law35_inside (n : Nat) (s1 : Bs) : Option (Bs × Bs × Bs) :=
 law35_inside_L1 n s1 (fun (fromx2 : Int) =>
  law35_inside_L2 n s1 (fun (to2 : Int) =>
   (ssl s1 0 (imin (iadd .i64 fromx2 5) (s1.length : Int))).bind fun t1 =>
   (ssl s1 (imin (iadd .i64 fromx2 5) (s1.length : Int)) to2).bind fun t2 =>
   (ssl s1 to2 s1.length).bind fun t3 =>
   some (t1, t2, t3)) n (imin (iadd .i64 fromx2 5) (s1.length : Int))) n 0

set_option maxHeartbeats 1000000 in
set_option maxRecDepth 1000000 in
theorem law35_inside_ok (n : Nat) (s1 : Bs) (r : (Bs × Bs × Bs)) (hm : law35_inside n s1 = some r) {w : World} {F : Frz} (hs : Sat F w)  :
  Calls Tryd.prog 18 #[vs s1] w fun e w' => ∃ v F' O', e = .returned v ∧ HS F w [] F' O' w' ∧ (v = .tuple #[vs r.1, vs r.2.1, vs r.2.2] ∧ O' = []) := by
 unfold law35_inside at hm
 have h := HS.init hs
 refine calls_of 50 Tryd.func18 rfl rfl rfl ?_
 refine c_seq (c_region (r_assign rfl rfl rfl (r_assign rfl rfl rfl (r_assign rfl rfl rfl (r_nil (q_then (c_seq (c_region (r_assign rfl rfl rfl (r_nil (q_then (c_seq (c_block ?_)))))))))))))
 intro a hax8
 obtain ⟨kont2, hkont2⟩ : ∃ kont2 : Int → Option (Bs × Bs × Bs), kont2 = (fun (fromx2 : Int) =>
       law35_inside_L2 n s1 (fun (to2 : Int) =>
        (ssl s1 0 (imin (iadd .i64 fromx2 5) (s1.length : Int))).bind fun t1 =>
        (ssl s1 (imin (iadd .i64 fromx2 5) (s1.length : Int)) to2).bind fun t2 =>
        (ssl s1 to2 s1.length).bind fun t3 =>
        some (t1, t2, t3)) n (imin (iadd .i64 fromx2 5) (s1.length : Int))) := ⟨_, rfl⟩
 replace hm : (fun m (s : Int) => law35_inside_L1 n s1 kont2 m s) n 0 = some r := by rw [hkont2]; exact hm
 refine loopX (id := 0) (fun m (s : Int) => law35_inside_L1 n s1 kont2 m s) (fun (y : Int) => kont2 y) r (fun (s : Int) a w' => w = w' ∧ Has 50 a [(0, vs s1), (5, .int .i64 s)]) (fun (y : Int) a w' => w = w' ∧ Has 50 a [(0, vs s1), (5, .int .i64 y)]) (fun _ => rfl) ?_ ?_ hm ⟨rfl, hax8.cut (l := [0, 5]) rfl⟩
 ·clear hm; rintro fromx2 a wx1 hm ⟨rfl, hax1⟩
  rw [hkont2] at hm
  replace hm := hm
  refine qw_apply (e := .exit 0) hax1 ?_
  refine q_block_hit (q_then (c_seq (c_region (r_move rfl rfl rfl ?_))))
  refine r_bin rfl rfl rfl rfl rfl ?_
  refine r_move rfl rfl rfl ?_
  refine r_slen u9 rfl rfl rfl ?_
  refine r_min rfl rfl rfl rfl ?_
  refine r_assign rfl rfl rfl (r_nil (q_then (c_seq (c_region (r_move rfl rfl rfl (r_assign rfl rfl rfl (r_nil (q_then (c_seq (c_block ?_))))))))))
  intro a hax5
  obtain ⟨kont1, hkont1⟩ : ∃ kont1 : Int → Option (Bs × Bs × Bs), kont1 = (fun (to2 : Int) =>
       (ssl s1 0 (imin (iadd .i64 fromx2 5) (s1.length : Int))).bind fun t1 =>
       (ssl s1 (imin (iadd .i64 fromx2 5) (s1.length : Int)) to2).bind fun t2 =>
       (ssl s1 to2 s1.length).bind fun t3 =>
       some (t1, t2, t3)) := ⟨_, rfl⟩
  replace hm : (fun m (s : Int) => law35_inside_L2 n s1 kont1 m s) n (imin (iadd .i64 fromx2 5) (s1.length : Int)) = some r := by rw [hkont1]; exact hm
  refine loopX (id := 2) (fun m (s : Int) => law35_inside_L2 n s1 kont1 m s) (fun (y : Int) => kont1 y) r (fun (s : Int) a w' => w = w' ∧ Has 50 a [(0, vs s1), (5, .int .i64 (imin (iadd .i64 fromx2 5) (s1.length : Int))), (6, .int .i64 s)]) (fun (y : Int) a w' => w = w' ∧ Has 50 a [(0, vs s1), (5, .int .i64 (imin (iadd .i64 fromx2 5) (s1.length : Int))), (6, .int .i64 y)]) (fun _ => rfl) ?_ ?_ hm ⟨rfl, hax5.cut (l := [0, 5, 6]) rfl⟩
  ·clear hm; rintro to2 a wx2 hm ⟨rfl, hax2⟩
   rw [hkont1] at hm
   replace hm := hm
   refine qw_apply (e := .exit 2) hax2 ?_
   refine q_block_hit (q_then (c_seq ?_))
   refine c_regionD (by kernel_rfl) (by kernel_rfl) h ?_
   refine q_stp rfl rfl rfl rfl (fun _ _ _ _ => r_move rfl rfl rfl (r_nil (qq rfl))) ?_
   refine q_stp rfl rfl rfl rfl (fun _ _ _ _ => r_move rfl rfl rfl (r_nil (qq rfl))) ?_
   obtain ⟨t1, hc1, hm⟩ := bind_some hm
   refine q_stp rfl rfl rfl rfl (fun _ _ _ _ => r_ssl_h u9 rfl rfl rfl rfl hc1 (r_nil (qq rfl))) ?_
   refine q_stp rfl rfl rfl rfl (fun _ _ _ _ => r_move rfl rfl rfl (r_nil (qq rfl))) ?_
   refine q_stp rfl rfl rfl rfl (fun _ _ _ _ => r_move rfl rfl rfl (r_nil (qq rfl))) ?_
   refine q_stp rfl rfl rfl rfl (fun _ _ _ _ => r_move rfl rfl rfl (r_nil (qq rfl))) ?_
   obtain ⟨t2, hc2, hm⟩ := bind_some hm
   refine q_stp rfl rfl rfl rfl (fun _ _ _ _ => r_ssl_lh u9 rfl rfl rfl rfl rfl hc2 (r_nil (qq rfl))) ?_
   refine q_stp rfl rfl rfl rfl (fun _ _ _ _ => r_move rfl rfl rfl (r_nil (qq rfl))) ?_
   refine q_stp rfl rfl rfl rfl (fun _ _ _ _ => r_move rfl rfl rfl (r_nil (qq rfl))) ?_
   obtain ⟨t3, hc3, hm⟩ := bind_some hm
   refine q_stp rfl rfl rfl rfl (fun _ _ _ _ => r_ssl_l u9 rfl rfl rfl rfl hc3 (r_nil (qq rfl))) ?_
   refine q_stp rfl rfl rfl rfl (fun _ _ _ _ => r_assign rfl rfl rfl (r_nil (qq rfl))) ?_
   refine q_stp rfl rfl rfl rfl (fun _ _ _ _ => r_assign rfl rfl rfl (r_nil (qq rfl))) ?_
   refine q_stp rfl rfl rfl rfl (fun _ _ _ _ => r_assign rfl rfl rfl (r_nil (qq rfl))) ?_
   refine q_end ?_
   rintro wx3 ⟨Fx1, hF1, hx1⟩
   refine q_then (c_ret ?_)
   refine b_retA (vl := [vs t1, vs t2, vs t3]) rfl ⟨v_tmp rfl, v_tmp rfl, v_tmp rfl, trivial⟩ (by simp) ?_
   obtain rfl := Option.some.inj hm
   exact ⟨_, _, _, rfl, hx1.pick [] (by decide) rfl, rfl, rfl⟩
  ·clear hm hkont1; intro hk1 mx1 K ihx1
   rintro to1 a wx4 hm ⟨rfl, hax3⟩
   simp only [law35_inside_L2_s] at hm
   refine cw_apply hax3 ?_
   refine c_seq (c_seq (c_region (r_move rfl rfl rfl (r_move rfl rfl rfl ?_))))
   refine r_slen u9 rfl rfl rfl ?_
   refine r_bin rfl rfl rfl rfl rfl ?_
   refine r_move rfl rfl rfl ?_
   obtain ⟨v1, hb1, hm⟩ := bind_some hm
   refine r_mid 5 (fun a w' => w = w' ∧ Has 50 a [(0, vs s1), (5, .int .i64 (imin (iadd .i64 fromx2 5) (s1.length : Int))), (6, .int .i64 to1), (37, .bool v1)]) ?_ ?_
   ·rintro a wx5 ⟨rfl, hax4⟩
    refine rw_apply hax4 ?_
    refine r_nil (q_then ?_)
    rcases cond_some hm with ⟨hb2, hm⟩ | ⟨hb2, hm⟩
    ·refine c_lit 37 rfl hb2 ?_
     refine c_true rfl (c_skip (q_then (c_block (c_region (r_move rfl rfl rfl ?_)))))
     refine r_bin rfl rfl rfl rfl rfl ?_
     refine r_assign rfl rfl rfl (r_nil (q_block ?_))
     refine q_next (fun a ha => ihx1 (iadd .i64 to1 1) a _ hm ?_)
     exact ⟨rfl, ha.cut (l := [0, 5, 6]) rfl⟩
    ·refine c_lit 37 rfl hb2 ?_
     refine c_false rfl (c_exit (q_then_exit (q_then_exit ?_)))
     refine fun a ha => hk1 to1 a _ hm ?_
     exact ⟨rfl, ha.cut (l := [0, 5, 6]) rfl⟩
   ·clear hm
    rcases cond_some hb1 with ⟨hb3, hb1⟩ | ⟨hb3, hb1⟩
    ·refine r_lit 32 rfl hb3 ?_
     refine r_move rfl rfl rfl (r_move rfl rfl rfl ?_)
     obtain ⟨c1, hc4, hb1⟩ := bind_some hb1
     refine r_sidx u9 rfl rfl rfl rfl hc4 ?_
     refine r_bin rfl rfl rfl rfl rfl ?_
     refine r_pick_true rfl rfl rfl rfl (r_nil ?_)
     refine q_next (fun a ha => ?_)
     cases hb1
     exact ⟨rfl, ha.cut (l := [0, 5, 6, 37]) rfl⟩
    ·refine r_lit 32 rfl hb3 ?_
     refine r_off rfl (by decide) rfl (r_off rfl (by decide) rfl (r_off rfl (by decide) rfl (r_off rfl (by decide) rfl (r_pick_false rfl rfl rfl rfl (r_nil ?_)))))
     refine q_next (fun a ha => ?_)
     cases hb1
     exact ⟨rfl, ha.cut (l := [0, 5, 6, 37]) rfl⟩
 ·clear hm hkont2; intro hk2 mx2 K ihx2
  rintro fromx1 a wx6 hm ⟨rfl, hax6⟩
  simp only [law35_inside_L1_s] at hm
  refine cw_apply hax6 ?_
  refine c_seq (c_seq (c_region (r_move rfl rfl rfl ?_)))
  refine r_bin rfl rfl rfl rfl rfl ?_
  refine r_move rfl rfl rfl ?_
  refine r_slen u9 rfl rfl rfl ?_
  refine r_bin rfl rfl rfl rfl rfl ?_
  refine r_move rfl rfl rfl ?_
  obtain ⟨v2, hb4, hm⟩ := bind_some hm
  refine r_mid 7 (fun a w' => w = w' ∧ Has 50 a [(0, vs s1), (5, .int .i64 fromx1), (19, .bool v2)]) ?_ ?_
  ·rintro a wx7 ⟨rfl, hax7⟩
   refine rw_apply hax7 ?_
   refine r_nil (q_then ?_)
   rcases cond_some hm with ⟨hb5, hm⟩ | ⟨hb5, hm⟩
   ·refine c_lit 19 rfl hb5 ?_
    refine c_true rfl (c_skip (q_then (c_block (c_region (r_move rfl rfl rfl ?_)))))
    refine r_bin rfl rfl rfl rfl rfl ?_
    refine r_assign rfl rfl rfl (r_nil (q_block ?_))
    refine q_next (fun a ha => ihx2 (iadd .i64 fromx1 1) a _ hm ?_)
    exact ⟨rfl, ha.cut (l := [0, 5]) rfl⟩
   ·refine c_lit 19 rfl hb5 ?_
    refine c_false rfl (c_exit (q_then_exit (q_then_exit ?_)))
    refine fun a ha => hk2 fromx1 a _ hm ?_
    exact ⟨rfl, ha.cut (l := [0, 5]) rfl⟩
  ·clear hm
   rcases cond_some hb4 with ⟨hb6, hb4⟩ | ⟨hb6, hb4⟩
   ·refine r_lit 12 rfl hb6 ?_
    refine r_move rfl rfl rfl (r_move rfl rfl rfl (r_move rfl rfl rfl ?_))
    refine r_bin rfl rfl rfl rfl rfl ?_
    obtain ⟨t4, hc5, hb4⟩ := bind_some hb4
    refine r_ssl_lh u9 rfl rfl rfl rfl rfl hc5 ?_
    refine r_str rfl rfl rfl rfl rfl ?_
    refine r_pick_true rfl rfl rfl rfl (r_nil ?_)
    refine q_next (fun a ha => ?_)
    cases hb4
    exact ⟨rfl, ha.cut (l := [0, 5, 19]) rfl⟩
   ·refine r_lit 12 rfl hb6 ?_
    refine r_off rfl (by decide) rfl (r_off rfl (by decide) rfl (r_off rfl (by decide) rfl (r_off rfl (by decide) rfl (r_off rfl (by decide) rfl (r_off rfl (by decide) rfl (r_pick_false rfl rfl rfl rfl (r_nil ?_)))))))
    refine q_next (fun a ha => ?_)
    cases hb4
    exact ⟨rfl, ha.cut (l := [0, 5, 19]) rfl⟩


theorem ent7 : Ent Tryd.prog 7 := fun _ _ => by kernel_rfl

theorem ent8 : Ent Tryd.prog 8 := fun _ _ => by kernel_rfl

theorem ent18 : Ent Tryd.prog 18 := fun _ _ => by kernel_rfl

theorem ent20 : Ent Tryd.prog 20 := fun _ _ => by kernel_rfl

def law35_TariffWraps_L2 (n : Nat) (v12 : ((List Token) × Int × Int)) (kont1 : Bs → Option Bool) : Nat → Bs → Int → Option Bool
 | 0, _, _ => none
 | mx1 + 1, spread1, i2 =>
  bif decide (i2 < (v12.1.length : Int)) then
   (scat spread1 [10]).bind fun t7 =>
   (lsl v12.1 i2 (iadd .i64 i2 1)).bind fun l1 =>
   (lexer_Print n l1).bind fun v21 =>
   (scat t7 v21).bind fun t8 =>
   (scat t8 [35, 59]).bind fun t9 =>
   law35_TariffWraps_L2 n v12 kont1 mx1 t9 (iadd .i64 i2 1)
  else
   kont1 spread1

theorem law35_TariffWraps_L2_s (n : Nat) (v12 : ((List Token) × Int × Int)) (kont1 : Bs → Option Bool) (mx1 : Nat) (spread1 : Bs) (i2 : Int) : law35_TariffWraps_L2 n v12 kont1 (mx1 + 1) spread1 i2 =
  bif decide (i2 < (v12.1.length : Int)) then
   (scat spread1 [10]).bind fun t7 =>
   (lsl v12.1 i2 (iadd .i64 i2 1)).bind fun l1 =>
   (lexer_Print n l1).bind fun v21 =>
   (scat t7 v21).bind fun t8 =>
   (scat t8 [35, 59]).bind fun t9 =>
   law35_TariffWraps_L2 n v12 kont1 mx1 t9 (iadd .i64 i2 1)
  else
   kont1 spread1 := rfl

def law35_TariffWraps_L1 (n : Nat) (blanks1 : Int) (kont2 : Bs → Option Bool) : Nat → Bs → Int → Option Bool
 | 0, _, _ => none
 | mx2 + 1, front1, i1 =>
  bif decide (i1 < (IntKind.i64.wrap blanks1)) then
   (scat front1 [32]).bind fun t10 =>
   law35_TariffWraps_L1 n blanks1 kont2 mx2 t10 (iadd .i64 i1 1)
  else
   kont2 front1

theorem law35_TariffWraps_L1_s (n : Nat) (blanks1 : Int) (kont2 : Bs → Option Bool) (mx2 : Nat) (front1 : Bs) (i1 : Int) : law35_TariffWraps_L1 n blanks1 kont2 (mx2 + 1) front1 i1 =
  bif decide (i1 < (IntKind.i64.wrap blanks1)) then
   (scat front1 [32]).bind fun t10 =>
   law35_TariffWraps_L1 n blanks1 kont2 mx2 t10 (iadd .i64 i1 1)
  else
   kont2 front1 := rfl

def law35_TariffWraps (n : Nat) (t1 : Tariff) (s2 : Bs) (blanks1 : Int) : Option Bool :=
 (law35_small n).bind fun v1 =>
 (law35_limited n t1).bind fun v2 =>
 (bif !v2 then
  some true
 else
  some (decide (800 < (s2.length : Int)))).bind fun v3 =>
 bif v3 then
  some v1
 else
  law35_TariffWraps_L1 n blanks1 (fun (front2 : Bs) =>
   (tariff_Parse n s2).bind fun v4 =>
   (scat front2 s2).bind fun t2 =>
   (tariff_Parse n t2).bind fun v5 =>
   (bif v4.2.2 != v5.2.2 then
    some true
   else
    (bif v4.2.2 != 0 then
     some (v5.2.1 != (iadd .i64 v4.2.1 (front2.length : Int)))
    else
     some false).bind fun v22 =>
    some v22).bind fun v6 =>
   bif v6 then
    some false
   else
    (tariff_Print n t1).bind fun v7 =>
    (bif !v7.2 then
     some true
    else
     some (t1.Name == [102, 101, 101])).bind fun v8 =>
    (bif v8 then
     some true
    else
     some (decide (1500 < (v7.1.length : Int)))).bind fun v9 =>
    bif v9 then
     some v1
    else
     (law35_inside n v7.1).bind fun v10 =>
     (scat v10.1 [40]).bind fun t3 =>
     (scat t3 v10.2.1).bind fun t4 =>
     (scat t4 [41]).bind fun t5 =>
     (scat t5 v10.2.2).bind fun t6 =>
     (tariff_Parse n t6).bind fun v11 =>
     (lexer_Scan n v7.1).bind fun v12 =>
     law35_TariffWraps_L2 n v12 (fun (spread2 : Bs) =>
      (tariff_Parse n spread2).bind fun v13 =>
      (bif v1 then
       some (v11.2.2 == 0)
      else
       some false).bind fun v14 =>
      (bif v14 then
       some (v12.2.2 == 0)
      else
       some false).bind fun v15 =>
      (bif v15 then
       some (v13.2.2 == 0)
      else
       some false).bind fun v16 =>
      (bif v16 then
       (ref35_SameTariff n v11.1 t1).bind fun v20 =>
       some v20
      else
       some false).bind fun v17 =>
      (bif v17 then
       (ref35_SameTariff n v13.1 t1).bind fun v19 =>
       some v19
      else
       some false).bind fun v18 =>
      some v18) n [35, 32, 116] 0) n [] 0

set_option maxHeartbeats 1000000 in
set_option maxRecDepth 1000000 in
theorem law35_TariffWraps_ok (n : Nat) (t1 : Tariff) (s2 : Bs) (blanks1 : Int) (r : Bool) (hm : law35_TariffWraps n t1 s2 blanks1 = some r) {w : World} {F : Frz} (hs : Sat F w) {as1 : Option Addr} {ns1 : Nat} {cs1 : Nat} (hs1 : SlR rp_Expr F as1 ns1 cs1 t1.Fee.Args) (hg0 : FX F 0 [.int .u8 40, .int .u8 41, .int .u8 44, .int .u8 59, .int .u8 58, .int .u8 61, .int .u8 60, .int .u8 43, .int .u8 45, .int .u8 42, .int .u8 47, .int .u8 123, .int .u8 125]) (hg1 : FX F 1 (Lib.pow10Tab.map (Value.int .u64))) :
  Calls Tryd.prog 6 #[.agg #[vs t1.Name, .int .i64 t1.Fee.Op, .int .i64 t1.Fee.N, vs t1.Fee.Name, .slice as1 ns1 cs1, .int .i64 t1.Cap], vs s2, .int .u8 blanks1] w fun e w' => ∃ v F' O', e = .returned v ∧ HS F w [] F' O' w' ∧ (v = .bool r ∧ O' = []) := by
 unfold law35_TariffWraps at hm
 have h := HS.init hs
 refine calls_of 166 Tryd.func6 rfl rfl rfl ?_
 refine c_seq (c_region ?_)
 refine r_box rfl rfl rfl rfl h ?_
 intro b1 wx1 hx1
 refine r_assign rfl rfl rfl (r_nil (q_then (c_seq (c_region ?_))))
 obtain ⟨v1, hv1, hm⟩ := bind_some hm
 refine r_callG0 ent7 rfl rfl rfl rfl hx1 (law35_small_ok _ _ hv1 hx1.sat hg0 hg1) ?_
 rintro _ Fx1 _ wx2 hF1 hx2 ⟨rfl, rfl⟩
 refine r_assign rfl rfl rfl (r_nil (q_then (c_seq (c_seq (c_region ?_)))))
 refine r_loadBW ag26 sz26 rfl rfl hx2 rfl (i := 0) rfl rfl ?_
 obtain ⟨v2, hv2, hm⟩ := bind_some hm
 refine r_callG0 ent8 rfl rfl rfl rfl hx2 (law35_limited_ok _ _ _ hv2 hx2.sat (hs1.mono hF1)) ?_
 rintro _ Fx2 _ wx3 hF2 hx3 ⟨rfl, rfl⟩
 refine r_not rfl rfl rfl (r_move rfl rfl rfl ?_)
 obtain ⟨v3, hb1, hm⟩ := bind_some hm
 refine r_mid 4 (fun a w' => wx3 = w' ∧ Has 166 a [(1, vs s2), (2, .int .u8 blanks1), (3, .pointer (some ⟨b1, 0, none⟩)), (7, .bool v1), (40, .bool v3)]) ?_ ?_
 ·rintro a wx4 ⟨rfl, hax1⟩
  refine rw_apply hax1 ?_
  refine r_nil (q_then ?_)
  rcases cond_some hm with ⟨hb2, hm⟩ | ⟨hb2, hm⟩
  ·refine c_lit 40 rfl hb2 ?_
   refine c_true rfl (c_seq (c_region (r_move rfl rfl rfl (r_assign rfl rfl rfl (r_nil (q_then (c_ret (q_then_ret ?_))))))))
   refine b_ret1 rfl rfl ?_
   obtain rfl := Option.some.inj hm
   exact ⟨_, _, _, rfl, hx3.pick [] (by decide) rfl, rfl, rfl⟩
  ·refine c_lit 40 rfl hb2 ?_
   refine c_false rfl (c_skip (q_then (c_seq (c_region (r_assign rfl rfl rfl (r_nil (q_then (c_seq (c_seq (c_region (r_assign rfl rfl rfl (r_nil (q_then (c_block ?_))))))))))))))
   intro a hax16
   obtain ⟨kont2, hkont2⟩ : ∃ kont2 : Bs → Option Bool, kont2 = (fun (front2 : Bs) =>
       (tariff_Parse n s2).bind fun v4 =>
       (scat front2 s2).bind fun t2 =>
       (tariff_Parse n t2).bind fun v5 =>
       (bif v4.2.2 != v5.2.2 then
        some true
       else
        (bif v4.2.2 != 0 then
         some (v5.2.1 != (iadd .i64 v4.2.1 (front2.length : Int)))
        else
         some false).bind fun v22 =>
        some v22).bind fun v6 =>
       bif v6 then
        some false
       else
        (tariff_Print n t1).bind fun v7 =>
        (bif !v7.2 then
         some true
        else
         some (t1.Name == [102, 101, 101])).bind fun v8 =>
        (bif v8 then
         some true
        else
         some (decide (1500 < (v7.1.length : Int)))).bind fun v9 =>
        bif v9 then
         some v1
        else
         (law35_inside n v7.1).bind fun v10 =>
         (scat v10.1 [40]).bind fun t3 =>
         (scat t3 v10.2.1).bind fun t4 =>
         (scat t4 [41]).bind fun t5 =>
         (scat t5 v10.2.2).bind fun t6 =>
         (tariff_Parse n t6).bind fun v11 =>
         (lexer_Scan n v7.1).bind fun v12 =>
         law35_TariffWraps_L2 n v12 (fun (spread2 : Bs) =>
          (tariff_Parse n spread2).bind fun v13 =>
          (bif v1 then
           some (v11.2.2 == 0)
          else
           some false).bind fun v14 =>
          (bif v14 then
           some (v12.2.2 == 0)
          else
           some false).bind fun v15 =>
          (bif v15 then
           some (v13.2.2 == 0)
          else
           some false).bind fun v16 =>
          (bif v16 then
           (ref35_SameTariff n v11.1 t1).bind fun v20 =>
           some v20
          else
           some false).bind fun v17 =>
          (bif v17 then
           (ref35_SameTariff n v13.1 t1).bind fun v19 =>
           some v19
          else
           some false).bind fun v18 =>
          some v18) n [35, 32, 116] 0) := ⟨_, rfl⟩
   replace hm : (fun m (s : Bs × Int) => law35_TariffWraps_L1 n blanks1 kont2 m s.1 s.2) n ([], 0) = some r := by rw [hkont2]; exact hm
   refine loopX (id := 0) (fun m (s : Bs × Int) => law35_TariffWraps_L1 n blanks1 kont2 m s.1 s.2) (fun (y : Bs) => kont2 y) r (fun (s : Bs × Int) a w' => wx3 = w' ∧ Has 166 a [(1, vs s2), (2, .int .u8 blanks1), (3, .pointer (some ⟨b1, 0, none⟩)), (7, .bool v1), (8, vs s.1), (9, .int .i64 s.2)]) (fun (y : Bs) a w' => wx3 = w' ∧ Has 166 a [(1, vs s2), (3, .pointer (some ⟨b1, 0, none⟩)), (7, .bool v1), (8, vs y)]) (fun _ => rfl) ?_ ?_ hm ⟨rfl, hax16.cut (l := [1, 2, 3, 7, 8, 9]) rfl⟩
   ·clear hm; rintro front2 a wx5 hm ⟨rfl, hax2⟩
    rw [hkont2] at hm
    replace hm := hm
    refine qw_apply (e := .exit 0) hax2 ?_
    refine q_block_hit (q_then (c_seq (c_region (r_move rfl rfl rfl ?_))))
    obtain ⟨v4, hv3, hm⟩ := bind_some hm
    refine r_callG0 ent10 rfl rfl rfl rfl hx3 (tariff_Parse_ok _ _ _ hv3 hx3.sat ((hg0.mono hF1).mono hF2)) ?_
    rintro _ Fx3 _ wx6 hF3 hx4 ⟨as3, ns3, cs3, rfl, rfl, hs3⟩
    refine r_move rfl rfl rfl (r_extract rfl rfl rfl rfl (r_extract rfl rfl rfl rfl (r_extract rfl rfl rfl rfl ?_)))
    refine r_alloc ze26 rfl rfl rfl hx4 ?_
    intro b2 wx7 hx5
    refine r_store sz26 rfl hx5 rfl rfl rfl rfl (i := 0) rfl rfl rfl rfl ?_
    intro wx8 hx6
    refine r_assign rfl rfl rfl (r_assign rfl rfl rfl (r_nil (q_then (c_seq (c_region (r_move rfl rfl rfl (r_move rfl rfl rfl ?_)))))))
    obtain ⟨t2, hq1, hm⟩ := bind_some hm
    refine r_cat rfl rfl rfl rfl hq1 ?_
    obtain ⟨v5, hv4, hm⟩ := bind_some hm
    refine r_callG0 ent10 rfl rfl rfl rfl hx6 (tariff_Parse_ok _ _ _ hv4 hx6.sat (((hg0.mono hF1).mono hF2).mono hF3)) ?_
    rintro _ Fx4 _ wx9 hF4 hx7 ⟨as4, ns4, cs4, rfl, rfl, hs4⟩
    refine r_move rfl rfl rfl (r_extract rfl rfl rfl rfl (r_extract rfl rfl rfl rfl (r_extract rfl rfl rfl rfl ?_)))
    refine r_alloc ze26 rfl rfl rfl hx7 ?_
    intro b3 wx10 hx8
    refine r_store sz26 rfl hx8 rfl rfl rfl rfl (i := 0) rfl rfl rfl rfl ?_
    intro wx11 hx9
    refine r_assign rfl rfl rfl (r_assign rfl rfl rfl (r_nil (q_then (c_seq (c_seq (c_region (r_move rfl rfl rfl (r_move rfl rfl rfl ?_))))))))
    refine r_bin rfl rfl rfl rfl rfl ?_
    refine r_move rfl rfl rfl ?_
    obtain ⟨v6, hb3, hm⟩ := bind_some hm
    refine r_mid 11 (fun a w' => wx11 = w' ∧ Has 166 a [(3, .pointer (some ⟨b1, 0, none⟩)), (7, .bool v1), (78, .bool v6)]) ?_ ?_
    ·rintro a wx12 ⟨rfl, hax3⟩
     refine rw_apply hax3 ?_
     refine r_nil (q_then ?_)
     rcases cond_some hm with ⟨hb4, hm⟩ | ⟨hb4, hm⟩
     ·refine c_lit 78 rfl hb4 ?_
      refine c_true rfl (c_seq (c_region (r_assign rfl rfl rfl (r_nil (q_then (c_ret (q_then_ret ?_)))))))
      refine b_ret1 rfl rfl ?_
      obtain rfl := Option.some.inj hm
      exact ⟨_, _, _, rfl, hx9.pick [] (by decide) rfl, rfl, rfl⟩
     ·refine c_lit 78 rfl hb4 ?_
      refine c_false rfl (c_skip (q_then (c_seq (c_region ?_))))
      refine r_loadBW ag26 sz26 rfl rfl hx9 rfl (i := 2) rfl rfl ?_
      have hG1 := ((hF1.trans hF2).trans hF3).trans hF4
      obtain ⟨v7, hv5, hm⟩ := bind_some hm
      refine r_callG0 ent9 rfl rfl rfl rfl hx9 (tariff_Print_ok _ _ _ hv5 hx9.sat (hs1.mono hG1) (hg1.mono hG1)) ?_
      rintro _ Fx5 _ wx13 hF5 hx10 ⟨rfl, rfl⟩
      refine r_move rfl rfl rfl (r_extract rfl rfl rfl rfl (r_extract rfl rfl rfl rfl (r_assign rfl rfl rfl (r_assign rfl rfl rfl (r_nil (q_then (c_seq (c_seq (c_region (r_move rfl rfl rfl (r_not rfl rfl rfl (r_move rfl rfl rfl ?_))))))))))))
      obtain ⟨v8, hb5, hm⟩ := bind_some hm
      refine r_mid 4 (fun a w' => wx13 = w' ∧ Has 166 a [(3, .pointer (some ⟨b1, 0, none⟩)), (7, .bool v1), (16, vs v7.1), (90, .bool v8)]) ?_ ?_
      ·rintro a wx14 ⟨rfl, hax4⟩
       refine rw_apply hax4 ?_
       refine r_move rfl rfl rfl ?_
       obtain ⟨v9, hb6, hm⟩ := bind_some hm
       refine r_mid 4 (fun a w' => wx13 = w' ∧ Has 166 a [(3, .pointer (some ⟨b1, 0, none⟩)), (7, .bool v1), (16, vs v7.1), (95, .bool v9)]) ?_ ?_
       ·rintro a wx15 ⟨rfl, hax5⟩
        refine rw_apply hax5 ?_
        refine r_nil (q_then ?_)
        rcases cond_some hm with ⟨hb7, hm⟩ | ⟨hb7, hm⟩
        ·refine c_lit 95 rfl hb7 ?_
         refine c_true rfl (c_seq (c_region (r_move rfl rfl rfl (r_assign rfl rfl rfl (r_nil (q_then (c_ret (q_then_ret ?_))))))))
         refine b_ret1 rfl rfl ?_
         obtain rfl := Option.some.inj hm
         exact ⟨_, _, _, rfl, hx10.pick [] (by decide) rfl, rfl, rfl⟩
        ·refine c_lit 95 rfl hb7 ?_
         refine c_false rfl (c_skip (q_then (c_seq (c_region (r_move rfl rfl rfl ?_)))))
         obtain ⟨v10, hv6, hm⟩ := bind_some hm
         refine r_callG0 ent18 rfl rfl rfl rfl hx10 (law35_inside_ok _ _ _ hv6 hx10.sat) ?_
         rintro _ Fx6 _ wx16 hF6 hx11 ⟨rfl, rfl⟩
         refine r_move rfl rfl rfl (r_extract rfl rfl rfl rfl (r_extract rfl rfl rfl rfl (r_extract rfl rfl rfl rfl (r_assign rfl rfl rfl (r_assign rfl rfl rfl (r_assign rfl rfl rfl (r_nil (q_then (c_seq (c_region (r_move rfl rfl rfl ?_)))))))))))
         obtain ⟨t3, hq2, hm⟩ := bind_some hm
         refine r_cat rfl rfl rfl rfl hq2 ?_
         refine r_move rfl rfl rfl ?_
         obtain ⟨t4, hq3, hm⟩ := bind_some hm
         refine r_cat rfl rfl rfl rfl hq3 ?_
         obtain ⟨t5, hq4, hm⟩ := bind_some hm
         refine r_cat rfl rfl rfl rfl hq4 ?_
         refine r_move rfl rfl rfl ?_
         obtain ⟨t6, hq5, hm⟩ := bind_some hm
         refine r_cat rfl rfl rfl rfl hq5 ?_
         obtain ⟨v11, hv7, hm⟩ := bind_some hm
         refine r_callG0 ent10 rfl rfl rfl rfl hx11 (tariff_Parse_ok _ _ _ hv7 hx11.sat (((hg0.mono hG1).mono hF5).mono hF6)) ?_
         rintro _ Fx7 _ wx17 hF7 hx12 ⟨as5, ns5, cs5, rfl, rfl, hs5⟩
         refine r_move rfl rfl rfl (r_extract rfl rfl rfl rfl (r_extract rfl rfl rfl rfl (r_extract rfl rfl rfl rfl ?_)))
         refine r_alloc ze26 rfl rfl rfl hx12 ?_
         intro b4 wx18 hx13
         refine r_store sz26 rfl hx13 rfl rfl rfl rfl (i := 0) rfl rfl rfl rfl ?_
         intro wx19 hx14
         refine r_assign rfl rfl rfl (r_assign rfl rfl rfl (r_nil (q_then (c_seq (c_region (r_move rfl rfl rfl ?_))))))
         obtain ⟨v12, hv8, hm⟩ := bind_some hm
         refine r_callG0 ent19 rfl rfl rfl rfl hx14 (lexer_Scan_ok _ _ _ hv8 hx14.sat ((((hg0.mono hG1).mono hF5).mono hF6).mono hF7)) ?_
         rintro _ Fx8 _ wx20 hF8 hx15 ⟨as6, ns6, cs6, rfl, rfl, hs6⟩
         refine r_move rfl rfl rfl (r_extract rfl rfl rfl rfl (r_extract rfl rfl rfl rfl (r_extract rfl rfl rfl rfl (r_assign rfl rfl rfl (r_assign rfl rfl rfl (r_assign rfl rfl rfl (r_nil (q_then (c_seq (c_region (r_assign rfl rfl rfl (r_nil (q_then (c_seq (c_seq (c_region (r_assign rfl rfl rfl (r_nil (q_then (c_block ?_))))))))))))))))))))
         intro a hax13
         obtain ⟨kont1, hkont1⟩ : ∃ kont1 : Bs → Option Bool, kont1 = (fun (spread2 : Bs) =>
       (tariff_Parse n spread2).bind fun v13 =>
       (bif v1 then
        some (v11.2.2 == 0)
       else
        some false).bind fun v14 =>
       (bif v14 then
        some (v12.2.2 == 0)
       else
        some false).bind fun v15 =>
       (bif v15 then
        some (v13.2.2 == 0)
       else
        some false).bind fun v16 =>
       (bif v16 then
        (ref35_SameTariff n v11.1 t1).bind fun v20 =>
        some v20
       else
        some false).bind fun v17 =>
       (bif v17 then
        (ref35_SameTariff n v13.1 t1).bind fun v19 =>
        some v19
       else
        some false).bind fun v18 =>
       some v18) := ⟨_, rfl⟩
         replace hm : (fun m (s : Bs × Int) => law35_TariffWraps_L2 n v12 kont1 m s.1 s.2) n ([35, 32, 116], 0) = some r := by rw [hkont1]; exact hm
         refine loopX (id := 2) (fun m (s : Bs × Int) => law35_TariffWraps_L2 n v12 kont1 m s.1 s.2) (fun (y : Bs) => kont1 y) r (fun (s : Bs × Int) a w' => ∃ (Fx9 : Frz), Frz.le Fx8 Fx9 ∧ HS F w [] Fx9 [.box b4 26 [vs v11.1.Name, .int .i64 v11.1.Fee.Op, .int .i64 v11.1.Fee.N, vs v11.1.Fee.Name, .slice as5 ns5 cs5, .int .i64 v11.1.Cap], .box b1 26 [vs t1.Name, .int .i64 t1.Fee.Op, .int .i64 t1.Fee.N, vs t1.Fee.Name, .slice as1 ns1 cs1, .int .i64 t1.Cap]] w' ∧ Has 166 a [(3, .pointer (some ⟨b1, 0, none⟩)), (7, .bool v1), (21, .pointer (some ⟨b4, 0, none⟩)), (23, .int .i64 v11.2.2), (24, .slice as6 ns6 cs6), (26, .int .i64 v12.2.2), (27, vs s.1), (28, .int .i64 s.2)]) (fun (y : Bs) a w' => ∃ (Fx10 : Frz), Frz.le Fx8 Fx10 ∧ HS F w [] Fx10 [.box b4 26 [vs v11.1.Name, .int .i64 v11.1.Fee.Op, .int .i64 v11.1.Fee.N, vs v11.1.Fee.Name, .slice as5 ns5 cs5, .int .i64 v11.1.Cap], .box b1 26 [vs t1.Name, .int .i64 t1.Fee.Op, .int .i64 t1.Fee.N, vs t1.Fee.Name, .slice as1 ns1 cs1, .int .i64 t1.Cap]] w' ∧ Has 166 a [(3, .pointer (some ⟨b1, 0, none⟩)), (7, .bool v1), (21, .pointer (some ⟨b4, 0, none⟩)), (23, .int .i64 v11.2.2), (26, .int .i64 v12.2.2), (27, vs y)]) (fun _ => rfl) ?_ ?_ hm ⟨_, Frz.refl _, hx15.pick [0, 3] (by decide) rfl, hax13.cut (l := [3, 7, 21, 23, 24, 26, 27, 28]) rfl⟩
         ·clear hm; rintro spread2 a wx21 hm ⟨Fx10, hF10, hx17, hax6⟩
          rw [hkont1] at hm
          replace hm := hm
          refine qw_apply (e := .exit 2) hax6 ?_
          refine q_block_hit (q_then (c_seq (c_region (r_move rfl rfl rfl ?_))))
          have hG2 := ((((hG1.trans hF5).trans hF6).trans hF7).trans hF8).trans hF10
          obtain ⟨v13, hv9, hm⟩ := bind_some hm
          refine r_callG0 ent10 rfl rfl rfl rfl hx17 (tariff_Parse_ok _ _ _ hv9 hx17.sat (hg0.mono hG2)) ?_
          rintro _ Fx11 _ wx22 hF11 hx18 ⟨as7, ns7, cs7, rfl, rfl, hs7⟩
          refine r_move rfl rfl rfl (r_extract rfl rfl rfl rfl (r_extract rfl rfl rfl rfl (r_extract rfl rfl rfl rfl ?_)))
          refine r_alloc ze26 rfl rfl rfl hx18 ?_
          intro b5 wx23 hx19
          refine r_store sz26 rfl hx19 rfl rfl rfl rfl (i := 0) rfl rfl rfl rfl ?_
          intro wx24 hx20
          refine r_assign rfl rfl rfl (r_assign rfl rfl rfl (r_nil (q_then (c_seq (c_region (r_move rfl rfl rfl (r_move rfl rfl rfl ?_)))))))
          obtain ⟨v14, hb8, hm⟩ := bind_some hm
          refine r_mid 3 (fun a w' => wx24 = w' ∧ Has 166 a [(3, .pointer (some ⟨b1, 0, none⟩)), (21, .pointer (some ⟨b4, 0, none⟩)), (26, .int .i64 v12.2.2), (29, .pointer (some ⟨b5, 0, none⟩)), (31, .int .i64 v13.2.2), (147, .bool v14)]) ?_ ?_
          ·rintro a wx25 ⟨rfl, hax7⟩
           refine rw_apply hax7 ?_
           refine r_move rfl rfl rfl ?_
           obtain ⟨v15, hb9, hm⟩ := bind_some hm
           refine r_mid 3 (fun a w' => wx24 = w' ∧ Has 166 a [(3, .pointer (some ⟨b1, 0, none⟩)), (21, .pointer (some ⟨b4, 0, none⟩)), (29, .pointer (some ⟨b5, 0, none⟩)), (31, .int .i64 v13.2.2), (151, .bool v15)]) ?_ ?_
           ·rintro a wx26 ⟨rfl, hax8⟩
            refine rw_apply hax8 ?_
            refine r_move rfl rfl rfl ?_
            obtain ⟨v16, hb10, hm⟩ := bind_some hm
            refine r_mid 3 (fun a w' => wx24 = w' ∧ Has 166 a [(3, .pointer (some ⟨b1, 0, none⟩)), (21, .pointer (some ⟨b4, 0, none⟩)), (29, .pointer (some ⟨b5, 0, none⟩)), (155, .bool v16)]) ?_ ?_
            ·rintro a wx27 ⟨rfl, hax9⟩
             refine rw_apply hax9 ?_
             refine r_move rfl rfl rfl ?_
             obtain ⟨v17, hb11, hm⟩ := bind_some hm
             refine r_mid 4 (fun a w' => ∃ (Fx12 : Frz), Frz.le Fx11 Fx12 ∧ HS F w [] Fx12 [.box b5 26 [vs v13.1.Name, .int .i64 v13.1.Fee.Op, .int .i64 v13.1.Fee.N, vs v13.1.Fee.Name, .slice as7 ns7 cs7, .int .i64 v13.1.Cap], .box b4 26 [vs v11.1.Name, .int .i64 v11.1.Fee.Op, .int .i64 v11.1.Fee.N, vs v11.1.Fee.Name, .slice as5 ns5 cs5, .int .i64 v11.1.Cap], .box b1 26 [vs t1.Name, .int .i64 t1.Fee.Op, .int .i64 t1.Fee.N, vs t1.Fee.Name, .slice as1 ns1 cs1, .int .i64 t1.Cap]] w' ∧ Has 166 a [(3, .pointer (some ⟨b1, 0, none⟩)), (29, .pointer (some ⟨b5, 0, none⟩)), (160, .bool v17)]) ?_ ?_
             ·rintro a wx28 ⟨Fx12, hF12, hx21, hax10⟩
              refine rw_apply hax10 ?_
              refine r_move rfl rfl rfl ?_
              obtain ⟨v18, hb12, hm⟩ := bind_some hm
              refine r_mid 4 (fun a w' => ∃ (Fx13 : Frz), Frz.le Fx12 Fx13 ∧ HS F w [] Fx13 [.box b5 26 [vs v13.1.Name, .int .i64 v13.1.Fee.Op, .int .i64 v13.1.Fee.N, vs v13.1.Fee.Name, .slice as7 ns7 cs7, .int .i64 v13.1.Cap], .box b4 26 [vs v11.1.Name, .int .i64 v11.1.Fee.Op, .int .i64 v11.1.Fee.N, vs v11.1.Fee.Name, .slice as5 ns5 cs5, .int .i64 v11.1.Cap], .box b1 26 [vs t1.Name, .int .i64 t1.Fee.Op, .int .i64 t1.Fee.N, vs t1.Fee.Name, .slice as1 ns1 cs1, .int .i64 t1.Cap]] w' ∧ Has 166 a [(165, .bool v18)]) ?_ ?_
              ·rintro a wx29 ⟨Fx13, hF13, hx22, hax11⟩
               refine rw_apply hax11 ?_
               refine r_assign rfl rfl rfl (r_nil (q_then (c_ret ?_)))
               refine b_ret1 rfl rfl ?_
               obtain rfl := Option.some.inj hm
               exact ⟨_, _, _, rfl, hx22.pick [] (by decide) rfl, rfl, rfl⟩
              ·clear hm
               rcases cond_some hb12 with ⟨hb13, hb12⟩ | ⟨hb13, hb12⟩
               ·refine r_lit 161 rfl hb13 ?_
                refine r_loadBW ag26 sz26 rfl rfl hx21 rfl (i := 0) rfl rfl ?_
                refine r_loadBW ag26 sz26 rfl rfl hx21 rfl (i := 2) rfl rfl ?_
                obtain ⟨v19, hv10, hb12⟩ := bind_some hb12
                refine r_callG0 ent11 rfl rfl rfl rfl hx21 (ref35_SameTariff_ok _ _ _ _ hv10 hx21.sat (hs7.mono hF12) (((hs1.mono hG2).mono hF11).mono hF12)) ?_
                rintro _ Fx14 _ wx30 hF14 hx23 ⟨rfl, rfl⟩
                refine r_pick_true rfl rfl rfl rfl (r_nil ?_)
                refine q_next (fun a ha => ?_)
                cases hb12
                exact ⟨_, hF14, hx23.pick [0, 1, 2] (by decide) rfl, ha.cut (l := [165]) rfl⟩
               ·refine r_lit 161 rfl hb13 ?_
                refine r_off rfl (by decide) rfl (r_off rfl (by decide) rfl (r_off rfl (by decide) rfl (r_pick_false rfl rfl rfl rfl (r_nil ?_))))
                refine q_next (fun a ha => ?_)
                cases hb12
                exact ⟨_, Frz.refl _, hx21.pick [0, 1, 2] (by decide) rfl, ha.cut (l := [165]) rfl⟩
             ·clear hm
              rcases cond_some hb11 with ⟨hb14, hb11⟩ | ⟨hb14, hb11⟩
              ·refine r_lit 156 rfl hb14 ?_
               refine r_loadBW ag26 sz26 rfl rfl hx20 rfl (i := 1) rfl rfl ?_
               refine r_loadBW ag26 sz26 rfl rfl hx20 rfl (i := 2) rfl rfl ?_
               obtain ⟨v20, hv11, hb11⟩ := bind_some hb11
               refine r_callG0 ent11 rfl rfl rfl rfl hx20 (ref35_SameTariff_ok _ _ _ _ hv11 hx20.sat (((hs5.mono hF8).mono hF10).mono hF11) ((hs1.mono hG2).mono hF11)) ?_
               rintro _ Fx15 _ wx31 hF15 hx24 ⟨rfl, rfl⟩
               refine r_pick_true rfl rfl rfl rfl (r_nil ?_)
               refine q_next (fun a ha => ?_)
               cases hb11
               exact ⟨_, hF15, hx24.pick [0, 1, 2] (by decide) rfl, ha.cut (l := [3, 29, 160]) rfl⟩
              ·refine r_lit 156 rfl hb14 ?_
               refine r_off rfl (by decide) rfl (r_off rfl (by decide) rfl (r_off rfl (by decide) rfl (r_pick_false rfl rfl rfl rfl (r_nil ?_))))
               refine q_next (fun a ha => ?_)
               cases hb11
               exact ⟨_, Frz.refl _, hx20.pick [0, 1, 2] (by decide) rfl, ha.cut (l := [3, 29, 160]) rfl⟩
            ·clear hm
             rcases cond_some hb10 with ⟨hb15, hb10⟩ | ⟨hb15, hb10⟩
             ·refine r_lit 152 rfl hb15 ?_
              refine r_move rfl rfl rfl ?_
              refine r_bin rfl rfl rfl rfl rfl ?_
              refine r_pick_true rfl rfl rfl rfl (r_nil ?_)
              refine q_next (fun a ha => ?_)
              cases hb10
              exact ⟨rfl, ha.cut (l := [3, 21, 29, 155]) rfl⟩
             ·refine r_lit 152 rfl hb15 ?_
              refine r_off rfl (by decide) rfl (r_off rfl (by decide) rfl (r_pick_false rfl rfl rfl rfl (r_nil ?_)))
              refine q_next (fun a ha => ?_)
              cases hb10
              exact ⟨rfl, ha.cut (l := [3, 21, 29, 155]) rfl⟩
           ·clear hm
            rcases cond_some hb9 with ⟨hb16, hb9⟩ | ⟨hb16, hb9⟩
            ·refine r_lit 148 rfl hb16 ?_
             refine r_move rfl rfl rfl ?_
             refine r_bin rfl rfl rfl rfl rfl ?_
             refine r_pick_true rfl rfl rfl rfl (r_nil ?_)
             refine q_next (fun a ha => ?_)
             cases hb9
             exact ⟨rfl, ha.cut (l := [3, 21, 29, 31, 151]) rfl⟩
            ·refine r_lit 148 rfl hb16 ?_
             refine r_off rfl (by decide) rfl (r_off rfl (by decide) rfl (r_pick_false rfl rfl rfl rfl (r_nil ?_)))
             refine q_next (fun a ha => ?_)
             cases hb9
             exact ⟨rfl, ha.cut (l := [3, 21, 29, 31, 151]) rfl⟩
          ·clear hm
           rcases cond_some hb8 with ⟨hb17, hb8⟩ | ⟨hb17, hb8⟩
           ·refine r_lit 144 rfl hb17 ?_
            refine r_move rfl rfl rfl ?_
            refine r_bin rfl rfl rfl rfl rfl ?_
            refine r_pick_true rfl rfl rfl rfl (r_nil ?_)
            refine q_next (fun a ha => ?_)
            cases hb8
            exact ⟨rfl, ha.cut (l := [3, 21, 26, 29, 31, 147]) rfl⟩
           ·refine r_lit 144 rfl hb17 ?_
            refine r_off rfl (by decide) rfl (r_off rfl (by decide) rfl (r_pick_false rfl rfl rfl rfl (r_nil ?_)))
            refine q_next (fun a ha => ?_)
            cases hb8
            exact ⟨rfl, ha.cut (l := [3, 21, 26, 29, 31, 147]) rfl⟩
         ·clear hm hkont1; intro hk1 mx1 K ihx1
          rintro ⟨spread1, i2⟩ a wx32 hm ⟨Fx9, hF9, hx16, hax12⟩
          simp only [law35_TariffWraps_L2_s] at hm
          refine cw_apply hax12 ?_
          refine c_seq (c_seq (c_region (r_move rfl rfl rfl (r_move rfl rfl rfl ?_))))
          refine r_lenS hs6.len u48 rfl rfl rfl ?_
          refine r_bin rfl rfl rfl rfl rfl ?_
          refine r_nil (q_then ?_)
          rcases cond_some hm with ⟨hb18, hm⟩ | ⟨hb18, hm⟩
          ·refine c_lit 124 rfl hb18 ?_
           refine c_true rfl (c_skip (q_then (c_seq (c_block (c_region (r_move rfl rfl rfl ?_))))))
           obtain ⟨t7, hq6, hm⟩ := bind_some hm
           refine r_cat rfl rfl rfl rfl hq6 ?_
           refine r_move rfl rfl rfl (r_move rfl rfl rfl (r_move rfl rfl rfl ?_))
           refine r_bin rfl rfl rfl rfl rfl ?_
           obtain ⟨l1, hc1, hm⟩ := bind_some hm
           refine r_fsl_lh u48 (r := rp_Token) sz62 rfl rfl rfl rfl rfl (hs6.mono hF9) hc1 ?_
           intro as8 ns8 cs8 hs8
           obtain ⟨v21, hv12, hm⟩ := bind_some hm
           refine r_callG0 ent20 rfl rfl rfl rfl hx16 (lexer_Print_ok _ _ _ hv12 hx16.sat hs8) ?_
           rintro _ Fx16 _ wx33 hF16 hx25 ⟨rfl, rfl⟩
           obtain ⟨t8, hq7, hm⟩ := bind_some hm
           refine r_cat rfl rfl rfl rfl hq7 ?_
           obtain ⟨t9, hq8, hm⟩ := bind_some hm
           refine r_cat rfl rfl rfl rfl hq8 ?_
           refine r_assign rfl rfl rfl (r_nil (q_block (q_then (c_region (r_move rfl rfl rfl ?_)))))
           refine r_bin rfl rfl rfl rfl rfl ?_
           refine r_assign rfl rfl rfl (r_nil ?_)
           refine q_next (fun a ha => ihx1 (t9, (iadd .i64 i2 1)) a _ hm ?_)
           exact ⟨_, (hF9.trans hF16), hx25.pick [0, 1] (by decide) rfl, ha.cut (l := [3, 7, 21, 23, 24, 26, 27, 28]) rfl⟩
          ·refine c_lit 124 rfl hb18 ?_
           refine c_false rfl (c_exit (q_then_exit (q_then_exit ?_)))
           refine fun a ha => hk1 spread1 a _ hm ?_
           exact ⟨_, hF9, hx16.pick [0, 1] (by decide) rfl, ha.cut (l := [3, 7, 21, 23, 26, 27]) rfl⟩
       ·clear hm
        rcases cond_some hb6 with ⟨hb19, hb6⟩ | ⟨hb19, hb6⟩
        ·refine r_lit 91 rfl hb19 ?_
         refine r_off rfl (by decide) rfl (r_off rfl (by decide) rfl (r_off rfl (by decide) rfl (r_pick_true rfl rfl rfl rfl (r_nil ?_))))
         refine q_next (fun a ha => ?_)
         cases hb6
         exact ⟨rfl, ha.cut (l := [3, 7, 16, 95]) rfl⟩
        ·refine r_lit 91 rfl hb19 ?_
         refine r_move rfl rfl rfl ?_
         refine r_slen u9 rfl rfl rfl ?_
         refine r_bin rfl rfl rfl rfl rfl ?_
         refine r_pick_false rfl rfl rfl rfl (r_nil ?_)
         refine q_next (fun a ha => ?_)
         cases hb6
         exact ⟨rfl, ha.cut (l := [3, 7, 16, 95]) rfl⟩
      ·clear hm
       rcases cond_some hb5 with ⟨hb20, hb5⟩ | ⟨hb20, hb5⟩
       ·refine r_lit 86 rfl hb20 ?_
        refine r_off rfl (by decide) rfl (r_off rfl (by decide) rfl (r_off rfl (by decide) rfl (r_pick_true rfl rfl rfl rfl (r_nil ?_))))
        refine q_next (fun a ha => ?_)
        cases hb5
        exact ⟨rfl, ha.cut (l := [3, 7, 16, 90]) rfl⟩
       ·refine r_lit 86 rfl hb20 ?_
        refine r_fieldAddr fa26_0 rfl rfl rfl ?_
        refine r_loadB1 ag9 rfl rfl hx10 rfl (i := 2) rfl rfl ?_
        refine r_str rfl rfl rfl rfl rfl ?_
        refine r_pick_false rfl rfl rfl rfl (r_nil ?_)
        refine q_next (fun a ha => ?_)
        cases hb5
        exact ⟨rfl, ha.cut (l := [3, 7, 16, 90]) rfl⟩
    ·clear hm
     rcases cond_some hb3 with ⟨hb21, hb3⟩ | ⟨hb21, hb3⟩
     ·refine r_lit 67 rfl hb21 ?_
      refine r_off rfl (by decide) rfl (r_off rfl (by decide) rfl (r_off rfl (by decide) rfl (r_off rfl (by decide) rfl (r_off rfl (by decide) rfl (r_off rfl (by decide) rfl (r_off rfl (by decide) rfl (r_off rfl (by decide) rfl (r_off rfl (by decide) rfl (r_off rfl (by decide) rfl (r_pick_true rfl rfl rfl rfl (r_nil ?_)))))))))))
      refine q_next (fun a ha => ?_)
      cases hb3
      exact ⟨rfl, ha.cut (l := [3, 7, 78]) rfl⟩
     ·refine r_lit 67 rfl hb21 ?_
      refine r_move rfl rfl rfl ?_
      refine r_bin rfl rfl rfl rfl rfl ?_
      refine r_move rfl rfl rfl ?_
      obtain ⟨v22, hb22, hb3⟩ := bind_some hb3
      refine r_mid 7 (fun a w' => wx11 = w' ∧ Has 166 a [(3, .pointer (some ⟨b1, 0, none⟩)), (7, .bool v1), (67, .bool false), (77, .bool v22)]) ?_ ?_
      ·rintro a wx34 ⟨rfl, hax14⟩
       refine rw_apply hax14 ?_
       refine r_pick_false rfl rfl rfl rfl (r_nil ?_)
       refine q_next (fun a ha => ?_)
       cases hb3
       exact ⟨rfl, ha.cut (l := [3, 7, 78]) rfl⟩
      ·clear hb3
       rcases cond_some hb22 with ⟨hb23, hb22⟩ | ⟨hb23, hb22⟩
       ·refine r_lit 70 rfl hb23 ?_
        refine r_move rfl rfl rfl (r_move rfl rfl rfl (r_move rfl rfl rfl ?_))
        refine r_slen u9 rfl rfl rfl ?_
        refine r_bin rfl rfl rfl rfl rfl ?_
        refine r_bin rfl rfl rfl rfl rfl ?_
        refine r_pick_true rfl rfl rfl rfl (r_nil ?_)
        refine q_next (fun a ha => ?_)
        cases hb22
        exact ⟨rfl, ha.cut (l := [3, 7, 67, 77]) rfl⟩
       ·refine r_lit 70 rfl hb23 ?_
        refine r_off rfl (by decide) rfl (r_off rfl (by decide) rfl (r_off rfl (by decide) rfl (r_off rfl (by decide) rfl (r_off rfl (by decide) rfl (r_off rfl (by decide) rfl (r_pick_false rfl rfl rfl rfl (r_nil ?_)))))))
        refine q_next (fun a ha => ?_)
        cases hb22
        exact ⟨rfl, ha.cut (l := [3, 7, 67, 77]) rfl⟩
   ·clear hm hkont2; intro hk2 mx2 K ihx2
    rintro ⟨front1, i1⟩ a wx35 hm ⟨rfl, hax15⟩
    simp only [law35_TariffWraps_L1_s] at hm
    refine cw_apply hax15 ?_
    refine c_seq (c_seq (c_region (r_move rfl rfl rfl (r_move rfl rfl rfl ?_))))
    refine r_conv u5 u3 rfl rfl rfl ?_
    refine r_bin rfl rfl rfl rfl rfl ?_
    refine r_nil (q_then ?_)
    rcases cond_some hm with ⟨hb24, hm⟩ | ⟨hb24, hm⟩
    ·refine c_lit 45 rfl hb24 ?_
     refine c_true rfl (c_skip (q_then (c_seq (c_block (c_region (r_move rfl rfl rfl ?_))))))
     obtain ⟨t10, hq9, hm⟩ := bind_some hm
     refine r_cat rfl rfl rfl rfl hq9 ?_
     refine r_assign rfl rfl rfl (r_nil (q_block (q_then (c_region (r_move rfl rfl rfl ?_)))))
     refine r_bin rfl rfl rfl rfl rfl ?_
     refine r_assign rfl rfl rfl (r_nil ?_)
     refine q_next (fun a ha => ihx2 (t10, (iadd .i64 i1 1)) a _ hm ?_)
     exact ⟨rfl, ha.cut (l := [1, 2, 3, 7, 8, 9]) rfl⟩
    ·refine c_lit 45 rfl hb24 ?_
     refine c_false rfl (c_exit (q_then_exit (q_then_exit ?_)))
     refine fun a ha => hk2 front1 a _ hm ?_
     exact ⟨rfl, ha.cut (l := [1, 3, 7, 8]) rfl⟩
 ·clear hm
  rcases cond_some hb1 with ⟨hb25, hb1⟩ | ⟨hb25, hb1⟩
  ·refine r_lit 36 rfl hb25 ?_
   refine r_off rfl (by decide) rfl (r_off rfl (by decide) rfl (r_off rfl (by decide) rfl (r_pick_true rfl rfl rfl rfl (r_nil ?_))))
   refine q_next (fun a ha => ?_)
   cases hb1
   exact ⟨rfl, ha.cut (l := [1, 2, 3, 7, 40]) rfl⟩
  ·refine r_lit 36 rfl hb25 ?_
   refine r_move rfl rfl rfl ?_
   refine r_slen u9 rfl rfl rfl ?_
   refine r_bin rfl rfl rfl rfl rfl ?_
   refine r_pick_false rfl rfl rfl rfl (r_nil ?_)
   refine q_next (fun a ha => ?_)
   cases hb1
   exact ⟨rfl, ha.cut (l := [1, 2, 3, 7, 40]) rfl⟩


end Go.Proofs.YtpihabofmnnbbaaDoor.M
