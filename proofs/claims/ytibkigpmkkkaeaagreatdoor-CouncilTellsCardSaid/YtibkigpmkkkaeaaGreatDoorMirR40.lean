/-
  THE MIRRORS of the council's functions, of the tariff's and the lexer's, of the references and the laws, and that each call returns what its mirror says. Printed by gen.py.
-/
import Derived.Test.YtibkigpmkkkaeaaGreatDoorRows
import Derived.Test.YtibkigpmkkkaeaaGreatDoorRtH
import Derived.Test.YtibkigpmkkkaeaaGreatDoorExpr
import Derived.Test.YtibkigpmkkkaeaaGreatDoorMirR35
namespace Go.Proofs.YtibkigpmkkkaeaaGreatDoor.M
open Go Go.RowKit Rt
def ref40_Vote_L1 (n : Nat) (votes1 : (List Vote)) (commune1 : Int) (motion1 : Int) (kont1 : Int → Option Int) : Nat → Int → Int → Option Int
 | 0, _, _ => none
 | mx1 + 1, out1, i1 =>
  bif decide (i1 < (votes1.length : Int)) then
   (ix votes1 i1).bind fun ex1 =>
   (bif ex1.Commune == commune1 then
    (ix votes1 i1).bind fun ex3 =>
    some (ex3.Motion == motion1)
   else
    some false).bind fun v1 =>
   bif v1 then
    (ix votes1 i1).bind fun ex2 =>
    bif ex2.Yes then
     ref40_Vote_L1 n votes1 commune1 motion1 kont1 mx1 2 (iadd .i64 i1 1)
    else
     ref40_Vote_L1 n votes1 commune1 motion1 kont1 mx1 1 (iadd .i64 i1 1)
   else
    ref40_Vote_L1 n votes1 commune1 motion1 kont1 mx1 out1 (iadd .i64 i1 1)
  else
   kont1 out1
theorem ref40_Vote_L1_s (n : Nat) (votes1 : (List Vote)) (commune1 : Int) (motion1 : Int) (kont1 : Int → Option Int) (mx1 : Nat) (out1 : Int) (i1 : Int) : ref40_Vote_L1 n votes1 commune1 motion1 kont1 (mx1 + 1) out1 i1 =
  bif decide (i1 < (votes1.length : Int)) then
   (ix votes1 i1).bind fun ex1 =>
   (bif ex1.Commune == commune1 then
    (ix votes1 i1).bind fun ex3 =>
    some (ex3.Motion == motion1)
   else
    some false).bind fun v1 =>
   bif v1 then
    (ix votes1 i1).bind fun ex2 =>
    bif ex2.Yes then
     ref40_Vote_L1 n votes1 commune1 motion1 kont1 mx1 2 (iadd .i64 i1 1)
    else
     ref40_Vote_L1 n votes1 commune1 motion1 kont1 mx1 1 (iadd .i64 i1 1)
   else
    ref40_Vote_L1 n votes1 commune1 motion1 kont1 mx1 out1 (iadd .i64 i1 1)
  else
   kont1 out1 := rfl
def ref40_Vote (n : Nat) (votes1 : (List Vote)) (commune1 : Int) (motion1 : Int) : Option Int :=
 ref40_Vote_L1 n votes1 commune1 motion1 (fun (out2 : Int) =>
  some out2) n 0 0
set_option maxHeartbeats 1000000 in
set_option maxRecDepth 1000000 in
theorem ref40_Vote_ok (n : Nat) (votes1 : (List Vote)) (commune1 : Int) (motion1 : Int) (r : Int) (hm : ref40_Vote n votes1 commune1 motion1 = some r) {w : World} {F : Frz} (hs : Sat F w) {as1 : Option Addr} {ns1 : Nat} {cs1 : Nat} (hs1 : SlR rp_Vote F as1 ns1 cs1 votes1) :
  Calls Tryz.prog 30 #[.slice as1 ns1 cs1, .int .i64 commune1, .int .i64 motion1] w fun e w' => e = .returned (.int .i64 r) ∧ w' = w := by
 unfold ref40_Vote at hm
 have h := HS.init hs
 refine calls_of 37 Tryz.func30 rfl rfl rfl ?_
 refine c_seq (c_region (r_assign rfl rfl rfl (r_nil (q_then (c_seq (c_region (r_assign rfl rfl rfl (r_nil (q_then (c_seq (c_seq (c_region (r_assign rfl rfl rfl (r_nil (q_then (c_block ?_))))))))))))))))
 intro a hax4
 obtain ⟨kont1, hkont1⟩ : ∃ kont1 : Int → Option Int, kont1 = (fun (out2 : Int) =>
       some out2) := ⟨_, rfl⟩
 replace hm : (fun m (s : Int × Int) => ref40_Vote_L1 n votes1 commune1 motion1 kont1 m s.1 s.2) n (0, 0) = some r := by rw [hkont1]; exact hm
 refine loopX (id := 0) (fun m (s : Int × Int) => ref40_Vote_L1 n votes1 commune1 motion1 kont1 m s.1 s.2) (fun (y : Int) => kont1 y) r (fun (s : Int × Int) a w' => w = w' ∧ Has 37 a [(0, .slice as1 ns1 cs1), (1, .int .i64 commune1), (2, .int .i64 motion1), (7, .int .i64 s.1), (8, .int .i64 s.2)]) (fun (y : Int) a w' => w = w' ∧ Has 37 a [(7, .int .i64 y)]) (fun _ => rfl) ?_ ?_ hm ⟨rfl, hax4.cut (l := [0, 1, 2, 7, 8]) rfl⟩
 ·clear hm; rintro out2 a wx1 hm ⟨rfl, hax1⟩
  rw [hkont1] at hm
  replace hm := hm
  refine qw_apply (e := .exit 0) hax1 ?_
  refine q_block_hit (q_then (c_seq (c_region (r_move rfl rfl rfl (r_assign rfl rfl rfl (r_nil (q_then (c_ret ?_))))))))
  refine b_ret1 rfl rfl ?_
  obtain rfl := Option.some.inj hm
  exact ⟨rfl, rfl⟩
 ·clear hm hkont1; intro hk1 mx1 K ihx1
  rintro ⟨out1, i1⟩ a wx2 hm ⟨rfl, hax2⟩
  simp only [ref40_Vote_L1_s] at hm
  refine cw_apply hax2 ?_
  refine c_seq (c_seq (c_region (r_move rfl rfl rfl (r_move rfl rfl rfl ?_))))
  refine r_lenS hs1.len u23 rfl rfl rfl ?_
  refine r_bin rfl rfl rfl rfl rfl ?_
  refine r_nil (q_then ?_)
  rcases cond_some hm with ⟨hb1, hm⟩ | ⟨hb1, hm⟩
  ·refine c_lit 12 rfl hb1 ?_
   refine c_true rfl (c_skip (q_then (c_seq (c_block (c_seq (c_region (r_move rfl rfl rfl (r_move rfl rfl rfl ?_))))))))
   obtain ⟨ex1, he1, hm⟩ := bind_some hm
   refine r_findex (r := rp_Vote) u23 sz52 rfl rfl rfl rfl hs1 he1 ?_
   intro b1 o1 cs1 hf1 hr1
   have hc1 : cs1 = [.int .i64 ex1.Motion, .int .i64 ex1.Commune, .bool ex1.Yes] := hr1
   subst hc1
   refine r_fieldAddr fa52_1 rfl rfl rfl ?_
   refine r_loadF1 (j := 1) ag3 rfl rfl h hf1 rfl rfl ?_
   refine r_move rfl rfl rfl ?_
   refine r_bin rfl rfl rfl rfl rfl ?_
   refine r_move rfl rfl rfl ?_
   obtain ⟨v1, hb2, hm⟩ := bind_some hm
   refine r_mid 8 (fun a w' => w = w' ∧ Has 37 a [(0, .slice as1 ns1 cs1), (1, .int .i64 commune1), (2, .int .i64 motion1), (7, .int .i64 out1), (8, .int .i64 i1), (30, .bool v1)]) ?_ ?_
   ·rintro a wx3 ⟨rfl, hax3⟩
    refine rw_apply hax3 ?_
    refine r_nil (q_then ?_)
    rcases cond_some hm with ⟨hb3, hm⟩ | ⟨hb3, hm⟩
    ·refine c_lit 30 rfl hb3 ?_
     refine c_true rfl (c_seq (c_region (r_assign rfl rfl rfl (r_nil (q_then (c_seq (c_region (r_move rfl rfl rfl (r_move rfl rfl rfl ?_)))))))))
     obtain ⟨ex2, he2, hm⟩ := bind_some hm
     refine r_findex (r := rp_Vote) u23 sz52 rfl rfl rfl rfl hs1 he2 ?_
     intro b2 o2 cs2 hf2 hr2
     have hc2 : cs2 = [.int .i64 ex2.Motion, .int .i64 ex2.Commune, .bool ex2.Yes] := hr2
     subst hc2
     refine r_fieldAddr fa52_2 rfl rfl rfl ?_
     refine r_loadF1 (j := 2) ag4 rfl rfl h hf2 rfl rfl ?_
     refine r_nil (q_then ?_)
     rcases cond_some hm with ⟨hb4, hm⟩ | ⟨hb4, hm⟩
     ·refine c_lit 35 rfl hb4 ?_
      refine c_true rfl (c_region (r_assign rfl rfl rfl (r_nil (q_block (q_then (c_region (r_move rfl rfl rfl ?_)))))))
      refine r_bin rfl rfl rfl rfl rfl ?_
      refine r_assign rfl rfl rfl (r_nil ?_)
      refine q_next (fun a ha => ihx1 (2, (iadd .i64 i1 1)) a _ hm ?_)
      exact ⟨rfl, ha.cut (l := [0, 1, 2, 7, 8]) rfl⟩
     ·refine c_lit 35 rfl hb4 ?_
      refine c_false rfl (c_skip (q_block (q_then (c_region (r_move rfl rfl rfl ?_)))))
      refine r_bin rfl rfl rfl rfl rfl ?_
      refine r_assign rfl rfl rfl (r_nil ?_)
      refine q_next (fun a ha => ihx1 (1, (iadd .i64 i1 1)) a _ hm ?_)
      exact ⟨rfl, ha.cut (l := [0, 1, 2, 7, 8]) rfl⟩
    ·refine c_lit 30 rfl hb3 ?_
     refine c_false rfl (c_skip (q_block (q_then (c_region (r_move rfl rfl rfl ?_)))))
     refine r_bin rfl rfl rfl rfl rfl ?_
     refine r_assign rfl rfl rfl (r_nil ?_)
     refine q_next (fun a ha => ihx1 (out1, (iadd .i64 i1 1)) a _ hm ?_)
     exact ⟨rfl, ha.cut (l := [0, 1, 2, 7, 8]) rfl⟩
   ·clear hm
    rcases cond_some hb2 with ⟨hb5, hb2⟩ | ⟨hb5, hb2⟩
    ·refine r_lit 22 rfl hb5 ?_
     refine r_move rfl rfl rfl (r_move rfl rfl rfl ?_)
     obtain ⟨ex3, he3, hb2⟩ := bind_some hb2
     refine r_findex (r := rp_Vote) u23 sz52 rfl rfl rfl rfl hs1 he3 ?_
     intro b3 o3 cs3 hf3 hr3
     have hc3 : cs3 = [.int .i64 ex3.Motion, .int .i64 ex3.Commune, .bool ex3.Yes] := hr3
     subst hc3
     refine r_fieldAddr fa52_0 rfl rfl rfl ?_
     refine r_loadF1 (j := 0) ag3 rfl rfl h hf3 rfl rfl ?_
     refine r_move rfl rfl rfl ?_
     refine r_bin rfl rfl rfl rfl rfl ?_
     refine r_pick_true rfl rfl rfl rfl (r_nil ?_)
     refine q_next (fun a ha => ?_)
     cases hb2
     exact ⟨rfl, ha.cut (l := [0, 1, 2, 7, 8, 30]) rfl⟩
    ·refine r_lit 22 rfl hb5 ?_
     refine r_off rfl (by decide) rfl (r_off rfl (by decide) rfl (r_off rfl (by decide) rfl (r_off rfl (by decide) rfl (r_off rfl (by decide) rfl (r_off rfl (by decide) rfl (r_off rfl (by decide) rfl (r_pick_false rfl rfl rfl rfl (r_nil ?_))))))))
     refine q_next (fun a ha => ?_)
     cases hb2
     exact ⟨rfl, ha.cut (l := [0, 1, 2, 7, 8, 30]) rfl⟩
  ·refine c_lit 12 rfl hb1 ?_
   refine c_false rfl (c_exit (q_then_exit (q_then_exit ?_)))
   refine fun a ha => hk1 out1 a _ hm ?_
   exact ⟨rfl, ha.cut (l := [7]) rfl⟩
theorem ent26 : Ent Tryz.prog 26 := fun _ _ => by kernel_rfl
theorem ent30 : Ent Tryz.prog 30 := fun _ _ => by kernel_rfl
def ref40_Count_L1 (n : Nat) (weights1 : (List Int)) (votes1 : (List Vote)) (motion1 : Int) (kont1 : (List Int) → Option (Int × Int)) : Nat → Int → (List Int) → Option (Int × Int)
 | 0, _, _ => none
 | mx1 + 1, c1, l1 =>
  bif decide (c1 < (weights1.length : Int)) then
   (ref40_Vote n votes1 c1 motion1).bind fun v2 =>
   (ix l1 v2).bind fun ex3 =>
   (ix weights1 c1).bind fun ex4 =>
   (ix l1 v2).bind fun _ =>
   (lset l1 v2 (iadd .i64 ex3 ex4)).bind fun l3 =>
   ref40_Count_L1 n weights1 votes1 motion1 kont1 mx1 (iadd .i64 c1 1) l3
  else
   kont1 l1
theorem ref40_Count_L1_s (n : Nat) (weights1 : (List Int)) (votes1 : (List Vote)) (motion1 : Int) (kont1 : (List Int) → Option (Int × Int)) (mx1 : Nat) (c1 : Int) (l1 : List Int) : ref40_Count_L1 n weights1 votes1 motion1 kont1 (mx1 + 1) c1 l1 =
  bif decide (c1 < (weights1.length : Int)) then
   (ref40_Vote n votes1 c1 motion1).bind fun v2 =>
   (ix l1 v2).bind fun ex3 =>
   (ix weights1 c1).bind fun ex4 =>
   (ix l1 v2).bind fun _ =>
   (lset l1 v2 (iadd .i64 ex3 ex4)).bind fun l3 =>
   ref40_Count_L1 n weights1 votes1 motion1 kont1 mx1 (iadd .i64 c1 1) l3
  else
   kont1 l1 := rfl
def ref40_Count (n : Nat) (weights1 : (List Int)) (votes1 : (List Vote)) (motion1 : Int) : Option (Int × Int) :=
 (ref40_Weights n weights1).bind fun v1 =>
 bif !v1 then
  some (0, 0)
 else
  ref40_Count_L1 n weights1 votes1 motion1 (fun (l2 : List Int) =>
   (ix l2 2).bind fun ex1 =>
   (ix l2 1).bind fun ex2 =>
   some (ex1, ex2)) n 0 [0, 0, 0]
set_option maxHeartbeats 1000000 in
set_option maxRecDepth 1000000 in
theorem ref40_Count_ok (n : Nat) (weights1 : (List Int)) (votes1 : (List Vote)) (motion1 : Int) (r : (Int × Int)) (hm : ref40_Count n weights1 votes1 motion1 = some r) {w : World} {F : Frz} (hs : Sat F w) {as1 : Option Addr} {ns1 : Nat} {cs1 : Nat} {as2 : Option Addr} {ns2 : Nat} {cs2 : Nat} (hs1 : SlR (Rp.int .i64) F as1 ns1 cs1 weights1) (hs2 : SlR rp_Vote F as2 ns2 cs2 votes1) :
  Calls Tryz.prog 10 #[.slice as1 ns1 cs1, .slice as2 ns2 cs2, .int .i64 motion1] w fun e w' => ∃ v F' O', e = .returned v ∧ HS F w [] F' O' w' ∧ (v = .tuple #[.int .i64 r.1, .int .i64 r.2] ∧ O' = []) := by
 unfold ref40_Count at hm
 have h := HS.init hs
 refine calls_of 43 Tryz.func10 rfl rfl rfl ?_
 refine c_seq (c_region (r_assign rfl rfl rfl (r_assign rfl rfl rfl (r_nil (q_then (c_seq (c_seq (c_region (r_move rfl rfl rfl ?_)))))))))
 obtain ⟨v1, hv1, hm⟩ := bind_some hm
 refine r_callP0 ent26 rfl rfl rfl rfl (ref40_Weights_ok _ _ _ hv1 h.sat hs1) ?_
 refine r_not rfl rfl rfl (r_nil (q_then ?_))
 rcases cond_some hm with ⟨hb1, hm⟩ | ⟨hb1, hm⟩
 ·refine c_lit 13 rfl hb1 ?_
  refine c_true rfl (c_seq (c_region (r_assign rfl rfl rfl (r_assign rfl rfl rfl (r_nil (q_then (c_ret (q_then_ret ?_))))))))
  refine b_retA (vl := [.int .i64 0, .int .i64 0]) rfl ⟨v_tmp rfl, v_tmp rfl, trivial⟩ (by simp) ?_
  obtain rfl := Option.some.inj hm
  exact ⟨_, _, _, rfl, h.pick [] (by decide) rfl, rfl, rfl⟩
 ·refine c_lit 13 rfl hb1 ?_
  refine c_false rfl (c_skip (q_then (c_seq (c_region ?_))))
  refine r_buildSlice (e := 3) (cs := [.int .i64 0, .int .i64 0, .int .i64 0]) (q := 1) rfl rfl h rfl (fun _ => by kernel_rfl) rfl rfl ?_
  intro b1 wx1 hx1
  refine r_assign rfl rfl rfl (r_nil (q_then (c_seq (c_seq (c_region (r_assign rfl rfl rfl (r_nil (q_then (c_block ?_)))))))))
  intro a hax7
  obtain ⟨kont1, hkont1⟩ : ∃ kont1 : (List Int) → Option (Int × Int), kont1 = (fun (l2 : List Int) =>
       (ix l2 2).bind fun ex1 =>
       (ix l2 1).bind fun ex2 =>
       some (ex1, ex2)) := ⟨_, rfl⟩
  replace hm : (fun m (s : Int × List Int) => ref40_Count_L1 n weights1 votes1 motion1 kont1 m s.1 s.2) n (0, [0, 0, 0]) = some r := by rw [hkont1]; exact hm
  refine loopX (id := 0) (fun m (s : Int × List Int) => ref40_Count_L1 n weights1 votes1 motion1 kont1 m s.1 s.2) (fun (y : List Int) => kont1 y) r (fun (s : Int × List Int) a w' => ∃ (Fx1 : Frz) (as3 : Option Addr) (ns3 : Nat) (cs3 : Nat) (xss3 : List Value), Frz.le F Fx1 ∧ HS F w [] Fx1 [.row 3 1 as3 ns3 cs3 xss3] w' ∧ (RowN (Rp.int .i64) Fx1 ns3 xss3 s.2) ∧ Has 43 a [(0, .slice as1 ns1 cs1), (1, .slice as2 ns2 cs2), (2, .int .i64 motion1), (8, .slice as3 ns3 cs3), (9, .int .i64 s.1)]) (fun (y : List Int) a w' => ∃ (Fx2 : Frz) (as4 : Option Addr) (ns4 : Nat) (cs4 : Nat) (xss4 : List Value), Frz.le F Fx2 ∧ HS F w [] Fx2 [.row 3 1 as4 ns4 cs4 xss4] w' ∧ (RowN (Rp.int .i64) Fx2 ns4 xss4 y) ∧ Has 43 a [(8, .slice as4 ns4 cs4)]) (fun _ => rfl) ?_ ?_ hm ⟨_, (some ⟨b1, 0, none⟩), 3, 3, [.int .i64 0, .int .i64 0, .int .i64 0], Frz.refl _, hx1.pick [0] (by decide) rfl, ((show RowN (Rp.int .i64) F 3 [.int .i64 0, .int .i64 0, .int .i64 0] [0, 0, 0] from ⟨rfl, ⟨_, _, rfl, rfl, ⟨_, _, rfl, rfl, ⟨_, _, rfl, rfl, (rfl : RowR (Rp.int .i64) _ [] [])⟩⟩⟩⟩)), hax7.cut (l := [0, 1, 2, 8, 9]) rfl⟩
  ·clear hm; rintro l2 a wx2 hm ⟨Fx2, as4, ns4, cs4, xss4, hF2, hx3, hs4, hax1⟩
   rw [hkont1] at hm
   replace hm := hm
   refine qw_apply (e := .exit 0) hax1 ?_
   refine q_block_hit (q_then (c_seq ?_))
   refine c_regionD (by kernel_rfl) (by kernel_rfl) hx3 ?_
   refine q_stp rfl rfl rfl rfl (fun _ _ _ _ => r_move rfl rfl rfl (r_nil (qq rfl))) ?_
   obtain ⟨ex1, he1, hm⟩ := bind_some hm
   obtain ⟨b2, o1, cs1, hax2, ho1, hr1, hp1, hrun1⟩ := rindex_ex (P := Tryz.prog) (r := (Rp.int .i64)) u24 sz3 hx3 (p := 0) rfl rfl hs4 he1
   have hc1 : cs1 = [.int .i64 ex1] := hr1
   subst hc1
   refine q_findex rfl rfl rfl rfl hrun1 ?_
   refine q_stp rfl rfl rfl rfl (fun _ _ _ hq => r_loadR1 (j := 0) ag3 rfl rfl hq rfl (p := 0) rfl rfl hax2 ho1 hp1 rfl (r_nil (qq rfl))) ?_
   refine q_stp rfl rfl rfl rfl (fun _ _ _ _ => r_move rfl rfl rfl (r_nil (qq rfl))) ?_
   obtain ⟨ex2, he2, hm⟩ := bind_some hm
   obtain ⟨b3, o2, cs2, hax3, ho2, hr2, hp2, hrun2⟩ := rindex_ex (P := Tryz.prog) (r := (Rp.int .i64)) u24 sz3 hx3 (p := 0) rfl rfl hs4 he2
   have hc2 : cs2 = [.int .i64 ex2] := hr2
   subst hc2
   refine q_findex rfl rfl rfl rfl hrun2 ?_
   refine q_stp rfl rfl rfl rfl (fun _ _ _ hq => r_loadR1 (j := 0) ag3 rfl rfl hq rfl (p := 0) rfl rfl hax3 ho2 hp2 rfl (r_nil (qq rfl))) ?_
   refine q_stp rfl rfl rfl rfl (fun _ _ _ _ => r_assign rfl rfl rfl (r_nil (qq rfl))) ?_
   refine q_stp rfl rfl rfl rfl (fun _ _ _ _ => r_assign rfl rfl rfl (r_nil (qq rfl))) ?_
   refine q_end ?_
   rintro wx3 ⟨Fx3, hF3, hx4⟩
   refine q_then (c_ret ?_)
   refine b_retA (vl := [.int .i64 ex1, .int .i64 ex2]) rfl ⟨v_tmp rfl, v_tmp rfl, trivial⟩ (by simp) ?_
   obtain rfl := Option.some.inj hm
   exact ⟨_, _, _, rfl, hx4.pick [] (by decide) rfl, rfl, rfl⟩
  ·clear hm hkont1; intro hk1 mx1 K ihx1
   rintro ⟨c1, l1⟩ a wx4 hm ⟨Fx1, as3, ns3, cs3, xss3, hF1, hx2, hs3, hax4⟩
   simp only [ref40_Count_L1_s] at hm
   refine cw_apply hax4 ?_
   refine c_seq (c_seq (c_region (r_move rfl rfl rfl (r_move rfl rfl rfl ?_))))
   refine r_lenS hs1.len u24 rfl rfl rfl ?_
   refine r_bin rfl rfl rfl rfl rfl ?_
   refine r_nil (q_then ?_)
   rcases cond_some hm with ⟨hb2, hm⟩ | ⟨hb2, hm⟩
   ·refine c_lit 18 rfl hb2 ?_
    refine c_true rfl (c_skip (q_then (c_seq (c_block (c_seq (c_region (r_move rfl rfl rfl (r_move rfl rfl rfl (r_move rfl rfl rfl ?_)))))))))
    obtain ⟨v2, hv2, hm⟩ := bind_some hm
    refine r_callP0 ent30 rfl rfl rfl rfl (ref40_Vote_ok _ _ _ _ _ hv2 hx2.sat (hs2.mono hF1)) ?_
    refine r_assign rfl rfl rfl (r_nil (q_then ?_))
    refine c_regionH (SH Fx1 []) 13 rfl (by kernel_rfl) hx2 ?_
    intro wx5 hx5
    refine d_tk 0 rfl (by kernel_rfl) rfl rfl rfl rfl (hx5.sh (Frz.refl _) [] (by decide) rfl) (fun _ _ _ _ _ => r_move rfl rfl rfl (r_nil (qq rfl))) ?_
    refine d_tk 1 rfl (by kernel_rfl) rfl rfl rfl rfl (hx5.sh (Frz.refl _) [] (by decide) rfl) (fun _ _ _ _ _ => r_move rfl rfl rfl (r_nil (qq rfl))) ?_
    refine d_tk 2 rfl (by kernel_rfl) rfl rfl rfl rfl (hx5.sh (Frz.refl _) [] (by decide) rfl) (fun _ _ _ _ _ => r_move rfl rfl rfl (r_nil (qq rfl))) ?_
    refine d_tk 3 rfl (by kernel_rfl) rfl rfl rfl rfl (hx5.sh (Frz.refl _) [] (by decide) rfl) (fun _ _ _ _ _ => r_move rfl rfl rfl (r_nil (qq rfl))) ?_
    obtain ⟨ex3, he3, hm⟩ := bind_some hm
    obtain ⟨b4, o3, cs3, hax5, ho3, hr3, hp3, hrun3⟩ := rindex_ex (P := Tryz.prog) (r := (Rp.int .i64)) u24 sz3 hx5 (p := 0) rfl rfl hs3 he3
    have hc3 : cs3 = [.int .i64 ex3] := hr3
    subst hc3
    refine d_findex 4 rfl (by kernel_rfl) (by kernel_rfl) (by kernel_rfl) rfl rfl rfl rfl hrun3 (hx5.sh (Frz.refl _) [] (by decide) rfl) ?_
    refine d_tk 6 rfl (by kernel_rfl) rfl rfl rfl rfl (hx5.sh (Frz.refl _) [] (by decide) rfl) (fun _ _ _ _ _ => r_move rfl rfl rfl (r_nil (qq rfl))) ?_
    refine d_tk 7 rfl (by kernel_rfl) rfl rfl rfl rfl (hx5.sh (Frz.refl _) [] (by decide) rfl) (fun _ _ _ _ _ => r_move rfl rfl rfl (r_nil (qq rfl))) ?_
    obtain ⟨ex4, he4, hm⟩ := bind_some hm
    obtain ⟨b5, o4, cs4, hf1, hr4, hrun4⟩ := findex_ex (P := Tryz.prog) (r := (Rp.int .i64)) u24 sz3 (hs1.mono hF1) he4
    have hc4 : cs4 = [.int .i64 ex4] := hr4
    subst hc4
    refine d_findex 8 rfl (by kernel_rfl) (by kernel_rfl) (by kernel_rfl) rfl rfl rfl rfl hrun4 (hx5.sh (Frz.refl _) [] (by decide) rfl) ?_
    refine d_tk 9 rfl (by kernel_rfl) rfl rfl rfl rfl (hx5.sh (Frz.refl _) [] (by decide) rfl) (fun _ _ _ hleq hq => r_loadF1 (j := 0) ag3 rfl rfl hq (hf1.mono hleq) rfl rfl (r_nil (qq rfl))) ?_
    refine d_step 5 rfl (by kernel_rfl) ?_
    refine r_loadR1 (j := 0) ag3 rfl rfl hx5 rfl (p := 0) rfl rfl hax5 ho3 hp3 rfl ?_
    refine d_next (hx5.sh (Frz.refl _) [] (by decide) rfl) ?_
    refine d_tk 10 rfl (by kernel_rfl) rfl rfl rfl rfl (hx5.sh (Frz.refl _) [] (by decide) rfl) (fun _ _ _ _ _ => r_bin rfl rfl rfl rfl rfl (r_nil (qq rfl))) ?_
    obtain ⟨ex5, he5, hm⟩ := bind_some hm
    obtain ⟨b6, o5, cs5, hax6, ho4, hr5, hp4, hrun5⟩ := rindex_ex (P := Tryz.prog) (r := (Rp.int .i64)) u24 sz3 hx5 (p := 0) rfl rfl hs3 he5
    have hc5 : cs5 = [.int .i64 ex5] := hr5
    subst hc5
    refine d_findex 11 rfl (by kernel_rfl) (by kernel_rfl) (by kernel_rfl) rfl rfl rfl rfl hrun5 (hx5.sh (Frz.refl _) [] (by decide) rfl) ?_
    refine d_step 12 rfl (by kernel_rfl) ?_
    obtain ⟨l3, hl1, hm⟩ := bind_some hm
    refine r_storeRW (r := (Rp.int .i64)) sz3 rfl hx5 rfl rfl rfl rfl rfl (p := 0) rfl rfl hax6 ho4 hs3 rfl rfl hl1 ?_
    intro wx6 xs1 hx6 hr6
    refine d_next (hx6.sh (Frz.refl _) [] (by decide) rfl) ?_
    refine d_done (by kernel_rfl) ?_
    refine q_block (q_then (c_region (r_move rfl rfl rfl ?_)))
    refine r_bin rfl rfl rfl rfl rfl ?_
    refine r_assign rfl rfl rfl (r_nil ?_)
    refine q_next (fun a ha => ihx1 ((iadd .i64 c1 1), l3) a _ hm ?_)
    exact ⟨_, as3, ns3, cs3, xs1, hF1, hx6.pick [0] (by decide) rfl, hr6, ha.cut (l := [0, 1, 2, 8, 9]) rfl⟩
   ·refine c_lit 18 rfl hb2 ?_
    refine c_false rfl (c_exit (q_then_exit (q_then_exit ?_)))
    refine fun a ha => hk1 l1 a _ hm ?_
    exact ⟨_, as3, ns3, cs3, xss3, hF1, hx2.pick [0] (by decide) rfl, hs3, ha.cut (l := [8]) rfl⟩
theorem ent10 : Ent Tryz.prog 10 := fun _ _ => by kernel_rfl
def ref40_Passes_L1 (n : Nat) (weights1 : (List Int)) (kont1 : Int → Option Bool) : Nat → Int → Int → Option Bool
 | 0, _, _ => none
 | mx1 + 1, all1, c1 =>
  (bif decide (c1 < (weights1.length : Int)) then
   (ref40_Weights n weights1).bind fun v3 =>
   some v3
  else
   some false).bind fun v2 =>
  bif v2 then
   (ix weights1 c1).bind fun ex1 =>
   ref40_Passes_L1 n weights1 kont1 mx1 (iadd .i64 all1 ex1) (iadd .i64 c1 1)
  else
   kont1 all1
theorem ref40_Passes_L1_s (n : Nat) (weights1 : (List Int)) (kont1 : Int → Option Bool) (mx1 : Nat) (all1 : Int) (c1 : Int) : ref40_Passes_L1 n weights1 kont1 (mx1 + 1) all1 c1 =
  (bif decide (c1 < (weights1.length : Int)) then
   (ref40_Weights n weights1).bind fun v3 =>
   some v3
  else
   some false).bind fun v2 =>
  bif v2 then
   (ix weights1 c1).bind fun ex1 =>
   ref40_Passes_L1 n weights1 kont1 mx1 (iadd .i64 all1 ex1) (iadd .i64 c1 1)
  else
   kont1 all1 := rfl
def ref40_Passes (n : Nat) (weights1 : (List Int)) (votes1 : (List Vote)) (motion1 : Int) : Option Bool :=
 (ref40_Count n weights1 votes1 motion1).bind fun v1 =>
 ref40_Passes_L1 n weights1 (fun (all2 : Int) =>
  some (decide (all2 < (imul .i64 2 v1.1)))) n 0 0
set_option maxHeartbeats 1000000 in
set_option maxRecDepth 1000000 in
theorem ref40_Passes_ok (n : Nat) (weights1 : (List Int)) (votes1 : (List Vote)) (motion1 : Int) (r : Bool) (hm : ref40_Passes n weights1 votes1 motion1 = some r) {w : World} {F : Frz} (hs : Sat F w) {as1 : Option Addr} {ns1 : Nat} {cs1 : Nat} {as2 : Option Addr} {ns2 : Nat} {cs2 : Nat} (hs1 : SlR (Rp.int .i64) F as1 ns1 cs1 weights1) (hs2 : SlR rp_Vote F as2 ns2 cs2 votes1) :
  Calls Tryz.prog 19 #[.slice as1 ns1 cs1, .slice as2 ns2 cs2, .int .i64 motion1] w fun e w' => ∃ v F' O', e = .returned v ∧ HS F w [] F' O' w' ∧ (v = .bool r ∧ O' = []) := by
 unfold ref40_Passes at hm
 have h := HS.init hs
 refine calls_of 38 Tryz.func19 rfl rfl rfl ?_
 refine c_seq (c_region (r_assign rfl rfl rfl (r_nil (q_then (c_seq (c_region (r_move rfl rfl rfl (r_move rfl rfl rfl (r_move rfl rfl rfl ?_)))))))))
 obtain ⟨v1, hv1, hm⟩ := bind_some hm
 refine r_callG0 ent10 rfl rfl rfl rfl h (ref40_Count_ok _ _ _ _ _ hv1 h.sat hs1 hs2) ?_
 rintro _ Fx1 _ wx1 hF1 hx1 ⟨rfl, rfl⟩
 refine r_move rfl rfl rfl (r_extract rfl rfl rfl rfl (r_extract rfl rfl rfl rfl (r_assign rfl rfl rfl (r_assign rfl rfl rfl (r_nil (q_then (c_seq (c_region (r_assign rfl rfl rfl (r_nil (q_then (c_seq (c_seq (c_region (r_assign rfl rfl rfl (r_nil (q_then (c_block ?_))))))))))))))))))
 intro a hax4
 obtain ⟨kont1, hkont1⟩ : ∃ kont1 : Int → Option Bool, kont1 = (fun (all2 : Int) =>
       some (decide (all2 < (imul .i64 2 v1.1)))) := ⟨_, rfl⟩
 replace hm : (fun m (s : Int × Int) => ref40_Passes_L1 n weights1 kont1 m s.1 s.2) n (0, 0) = some r := by rw [hkont1]; exact hm
 refine loopX (id := 0) (fun m (s : Int × Int) => ref40_Passes_L1 n weights1 kont1 m s.1 s.2) (fun (y : Int) => kont1 y) r (fun (s : Int × Int) a w' => wx1 = w' ∧ Has 38 a [(0, .slice as1 ns1 cs1), (7, .int .i64 v1.1), (9, .int .i64 s.1), (10, .int .i64 s.2)]) (fun (y : Int) a w' => wx1 = w' ∧ Has 38 a [(7, .int .i64 v1.1), (9, .int .i64 y)]) (fun _ => rfl) ?_ ?_ hm ⟨rfl, hax4.cut (l := [0, 7, 9, 10]) rfl⟩
 ·clear hm; rintro all2 a wx2 hm ⟨rfl, hax1⟩
  rw [hkont1] at hm
  replace hm := hm
  refine qw_apply (e := .exit 0) hax1 ?_
  refine q_block_hit (q_then (c_seq (c_region (r_move rfl rfl rfl ?_))))
  refine r_bin rfl rfl rfl rfl rfl ?_
  refine r_move rfl rfl rfl ?_
  refine r_bin rfl rfl rfl rfl rfl ?_
  refine r_assign rfl rfl rfl (r_nil (q_then (c_ret ?_)))
  refine b_ret1 rfl rfl ?_
  obtain rfl := Option.some.inj hm
  exact ⟨_, _, _, rfl, hx1.pick [] (by decide) rfl, rfl, rfl⟩
 ·clear hm hkont1; intro hk1 mx1 K ihx1
  rintro ⟨all1, c1⟩ a wx3 hm ⟨rfl, hax2⟩
  simp only [ref40_Passes_L1_s] at hm
  refine cw_apply hax2 ?_
  refine c_seq (c_seq (c_region (r_move rfl rfl rfl (r_move rfl rfl rfl ?_))))
  refine r_lenS hs1.len u24 rfl rfl rfl ?_
  refine r_bin rfl rfl rfl rfl rfl ?_
  refine r_move rfl rfl rfl ?_
  obtain ⟨v2, hb1, hm⟩ := bind_some hm
  refine r_mid 3 (fun a w' => wx1 = w' ∧ Has 38 a [(0, .slice as1 ns1 cs1), (7, .int .i64 v1.1), (9, .int .i64 all1), (10, .int .i64 c1), (25, .bool v2)]) ?_ ?_
  ·rintro a wx4 ⟨rfl, hax3⟩
   refine rw_apply hax3 ?_
   refine r_nil (q_then ?_)
   rcases cond_some hm with ⟨hb2, hm⟩ | ⟨hb2, hm⟩
   ·refine c_lit 25 rfl hb2 ?_
    refine c_true rfl (c_skip (q_then (c_seq (c_block (c_region (r_move rfl rfl rfl (r_move rfl rfl rfl (r_move rfl rfl rfl ?_))))))))
    obtain ⟨ex1, he1, hm⟩ := bind_some hm
    refine r_findex (r := (Rp.int .i64)) u24 sz3 rfl rfl rfl rfl (hs1.mono hF1) he1 ?_
    intro b1 o1 cs1 hf1 hr1
    have hc1 : cs1 = [.int .i64 ex1] := hr1
    subst hc1
    refine r_loadF1 (j := 0) ag3 rfl rfl hx1 hf1 rfl rfl ?_
    refine r_bin rfl rfl rfl rfl rfl ?_
    refine r_assign rfl rfl rfl (r_nil (q_block (q_then (c_region (r_move rfl rfl rfl ?_)))))
    refine r_bin rfl rfl rfl rfl rfl ?_
    refine r_assign rfl rfl rfl (r_nil ?_)
    refine q_next (fun a ha => ihx1 ((iadd .i64 all1 ex1), (iadd .i64 c1 1)) a _ hm ?_)
    exact ⟨rfl, ha.cut (l := [0, 7, 9, 10]) rfl⟩
   ·refine c_lit 25 rfl hb2 ?_
    refine c_false rfl (c_exit (q_then_exit (q_then_exit ?_)))
    refine fun a ha => hk1 all1 a _ hm ?_
    exact ⟨rfl, ha.cut (l := [7, 9]) rfl⟩
  ·clear hm
   rcases cond_some hb1 with ⟨hb3, hb1⟩ | ⟨hb3, hb1⟩
   ·refine r_lit 22 rfl hb3 ?_
    refine r_move rfl rfl rfl ?_
    obtain ⟨v3, hv2, hb1⟩ := bind_some hb1
    refine r_callP0 ent26 rfl rfl rfl rfl (ref40_Weights_ok _ _ _ hv2 hx1.sat (hs1.mono hF1)) ?_
    refine r_pick_true rfl rfl rfl rfl (r_nil ?_)
    refine q_next (fun a ha => ?_)
    cases hb1
    exact ⟨rfl, ha.cut (l := [0, 7, 9, 10, 25]) rfl⟩
   ·refine r_lit 22 rfl hb3 ?_
    refine r_off rfl (by decide) rfl (r_off rfl (by decide) rfl (r_pick_false rfl rfl rfl rfl (r_nil ?_)))
    refine q_next (fun a ha => ?_)
    cases hb1
    exact ⟨rfl, ha.cut (l := [0, 7, 9, 10, 25]) rfl⟩
theorem ent29 : Ent Tryz.prog 29 := fun _ _ => by kernel_rfl
theorem ent33 : Ent Tryz.prog 33 := fun _ _ => by kernel_rfl
def ref40_Check (n : Nat) (mx1 : Motion) (names1 : (List Bs)) (notice1 : Int) : Option Int :=
 (ref40_in n notice1 0 1000).bind fun v1 =>
 (bif !v1 then
  some true
 else
  (ref40_in n mx1.Day 0 100000).bind fun v7 =>
  some (!v7)).bind fun v2 =>
 (bif v2 then
  some true
 else
  (ref40_in n mx1.From 0 100000).bind fun v6 =>
  some (!v6)).bind fun v3 =>
 bif v3 then
  some 1
 else
  (ref35_Parse n mx1.Text).bind fun v4 =>
  bif v4.2.2 != 0 then
   some v4.2.2
  else
   (ref35_Check n v4.1 names1).bind fun v5 =>
   bif v5 != 0 then
    some v5
   else
    bif decide (mx1.From < (iadd .i64 mx1.Day notice1)) then
     some 18
    else
     some 0
set_option maxHeartbeats 1000000 in
set_option maxRecDepth 1000000 in
theorem ref40_Check_ok (n : Nat) (mx1 : Motion) (names1 : (List Bs)) (notice1 : Int) (r : Int) (hm : ref40_Check n mx1 names1 notice1 = some r) {w : World} {F : Frz} (hs : Sat F w) {as1 : Option Addr} {ns1 : Nat} {cs1 : Nat} (hs1 : SlR Rp.str F as1 ns1 cs1 names1) :
  Calls Tryz.prog 17 #[.agg #[vs mx1.Text, .int .i64 mx1.Day, .int .i64 mx1.From], .slice as1 ns1 cs1, .int .i64 notice1] w fun e w' => ∃ v F' O', e = .returned v ∧ HS F w [] F' O' w' ∧ (v = .int .i64 r ∧ O' = []) := by
 unfold ref40_Check at hm
 have h := HS.init hs
 refine calls_of 48 Tryz.func17 rfl rfl rfl ?_
 refine c_seq (c_region ?_)
 refine r_box rfl rfl rfl rfl h ?_
 intro b1 wx1 hx1
 refine r_assign rfl rfl rfl (r_nil (q_then (c_seq (c_seq (c_region (r_move rfl rfl rfl ?_))))))
 obtain ⟨v1, hv1, hm⟩ := bind_some hm
 refine r_callP0 ent27 rfl rfl rfl rfl (ref40_in_ok _ _ _ _ _ hv1) ?_
 refine r_not rfl rfl rfl (r_move rfl rfl rfl ?_)
 obtain ⟨v2, hb1, hm⟩ := bind_some hm
 refine r_mid 5 (fun a w' => wx1 = w' ∧ Has 48 a [(1, .slice as1 ns1 cs1), (2, .int .i64 notice1), (3, .pointer (some ⟨b1, 0, none⟩)), (18, .bool v2)]) ?_ ?_
 ·rintro a wx2 ⟨rfl, hax1⟩
  refine rw_apply hax1 ?_
  refine r_move rfl rfl rfl ?_
  obtain ⟨v3, hb2, hm⟩ := bind_some hm
  refine r_mid 5 (fun a w' => wx1 = w' ∧ Has 48 a [(1, .slice as1 ns1 cs1), (2, .int .i64 notice1), (3, .pointer (some ⟨b1, 0, none⟩)), (24, .bool v3)]) ?_ ?_
  ·rintro a wx3 ⟨rfl, hax2⟩
   refine rw_apply hax2 ?_
   refine r_nil (q_then ?_)
   rcases cond_some hm with ⟨hb3, hm⟩ | ⟨hb3, hm⟩
   ·refine c_lit 24 rfl hb3 ?_
    refine c_true rfl (c_seq (c_region (r_assign rfl rfl rfl (r_nil (q_then (c_ret (q_then_ret ?_)))))))
    refine b_ret1 rfl rfl ?_
    obtain rfl := Option.some.inj hm
    exact ⟨_, _, _, rfl, hx1.pick [] (by decide) rfl, rfl, rfl⟩
   ·refine c_lit 24 rfl hb3 ?_
    refine c_false rfl (c_skip (q_then (c_seq (c_region ?_))))
    refine r_fieldAddr fa48_0 rfl rfl rfl ?_
    refine r_loadB1 ag9 rfl rfl hx1 rfl (i := 0) rfl rfl ?_
    obtain ⟨v4, hv2, hm⟩ := bind_some hm
    refine r_callG0 ent29 rfl rfl rfl rfl hx1 (ref35_Parse_ok _ _ _ hv2 hx1.sat) ?_
    rintro _ Fx1 _ wx4 hF1 hx2 ⟨as2, ns2, cs2, rfl, rfl, hs2⟩
    refine r_move rfl rfl rfl (r_extract rfl rfl rfl rfl (r_extract rfl rfl rfl rfl (r_extract rfl rfl rfl rfl ?_)))
    refine r_alloc ze40 rfl rfl rfl hx2 ?_
    intro b2 wx5 hx3
    refine r_store sz40 rfl hx3 rfl rfl rfl rfl (i := 0) rfl rfl rfl rfl ?_
    intro wx6 hx4
    refine r_assign rfl rfl rfl (r_assign rfl rfl rfl (r_nil (q_then (c_seq (c_seq (c_region (r_move rfl rfl rfl ?_)))))))
    refine r_bin rfl rfl rfl rfl rfl ?_
    refine r_nil (q_then ?_)
    rcases cond_some hm with ⟨hb4, hm⟩ | ⟨hb4, hm⟩
    ·refine c_lit 33 rfl hb4 ?_
     refine c_true rfl (c_seq (c_region (r_move rfl rfl rfl (r_assign rfl rfl rfl (r_nil (q_then (c_ret (q_then_ret ?_))))))))
     refine b_ret1 rfl rfl ?_
     obtain rfl := Option.some.inj hm
     exact ⟨_, _, _, rfl, hx4.pick [] (by decide) rfl, rfl, rfl⟩
    ·refine c_lit 33 rfl hb4 ?_
     refine c_false rfl (c_skip (q_then (c_seq (c_region ?_))))
     refine r_loadBW ag40 sz40 rfl rfl hx4 rfl (i := 0) rfl rfl ?_
     refine r_move rfl rfl rfl ?_
     obtain ⟨v5, hv3, hm⟩ := bind_some hm
     refine r_callG0 ent33 rfl rfl rfl rfl hx4 (ref35_Check_ok _ _ _ _ hv3 hx4.sat hs2 (hs1.mono hF1)) ?_
     rintro _ Fx2 _ wx7 hF2 hx5 ⟨rfl, rfl⟩
     refine r_assign rfl rfl rfl (r_nil (q_then (c_seq (c_seq (c_region (r_move rfl rfl rfl ?_))))))
     refine r_bin rfl rfl rfl rfl rfl ?_
     refine r_nil (q_then ?_)
     rcases cond_some hm with ⟨hb5, hm⟩ | ⟨hb5, hm⟩
     ·refine c_lit 39 rfl hb5 ?_
      refine c_true rfl (c_seq (c_region (r_move rfl rfl rfl (r_assign rfl rfl rfl (r_nil (q_then (c_ret (q_then_ret ?_))))))))
      refine b_ret1 rfl rfl ?_
      obtain rfl := Option.some.inj hm
      exact ⟨_, _, _, rfl, hx5.pick [] (by decide) rfl, rfl, rfl⟩
     ·refine c_lit 39 rfl hb5 ?_
      refine c_false rfl (c_skip (q_then (c_seq (c_seq (c_region ?_)))))
      refine r_fieldAddr fa48_2 rfl rfl rfl ?_
      refine r_loadB1 ag3 rfl rfl hx5 rfl (i := 1) rfl rfl ?_
      refine r_fieldAddr fa48_1 rfl rfl rfl ?_
      refine r_loadB1 ag3 rfl rfl hx5 rfl (i := 1) rfl rfl ?_
      refine r_move rfl rfl rfl ?_
      refine r_bin rfl rfl rfl rfl rfl ?_
      refine r_bin rfl rfl rfl rfl rfl ?_
      refine r_nil (q_then ?_)
      rcases cond_some hm with ⟨hb6, hm⟩ | ⟨hb6, hm⟩
      ·refine c_lit 47 rfl hb6 ?_
       refine c_true rfl (c_seq (c_region (r_assign rfl rfl rfl (r_nil (q_then (c_ret (q_then_ret ?_)))))))
       refine b_ret1 rfl rfl ?_
       obtain rfl := Option.some.inj hm
       exact ⟨_, _, _, rfl, hx5.pick [] (by decide) rfl, rfl, rfl⟩
      ·refine c_lit 47 rfl hb6 ?_
       refine c_false rfl (c_skip (q_then (c_seq (c_region (r_assign rfl rfl rfl (r_nil (q_then (c_ret ?_))))))))
       refine b_ret1 rfl rfl ?_
       obtain rfl := Option.some.inj hm
       exact ⟨_, _, _, rfl, hx5.pick [] (by decide) rfl, rfl, rfl⟩
  ·clear hm
   rcases cond_some hb2 with ⟨hb7, hb2⟩ | ⟨hb7, hb2⟩
   ·refine r_lit 19 rfl hb7 ?_
    refine r_off rfl (by decide) rfl (r_off rfl (by decide) rfl (r_off rfl (by decide) rfl (r_off rfl (by decide) rfl (r_pick_true rfl rfl rfl rfl (r_nil ?_)))))
    refine q_next (fun a ha => ?_)
    cases hb2
    exact ⟨rfl, ha.cut (l := [1, 2, 3, 24]) rfl⟩
   ·refine r_lit 19 rfl hb7 ?_
    refine r_fieldAddr fa48_2 rfl rfl rfl ?_
    refine r_loadB1 ag3 rfl rfl hx1 rfl (i := 0) rfl rfl ?_
    obtain ⟨v6, hv4, hb2⟩ := bind_some hb2
    refine r_callP0 ent27 rfl rfl rfl rfl (ref40_in_ok _ _ _ _ _ hv4) ?_
    refine r_not rfl rfl rfl (r_pick_false rfl rfl rfl rfl (r_nil ?_))
    refine q_next (fun a ha => ?_)
    cases hb2
    exact ⟨rfl, ha.cut (l := [1, 2, 3, 24]) rfl⟩
 ·clear hm
  rcases cond_some hb1 with ⟨hb8, hb1⟩ | ⟨hb8, hb1⟩
  ·refine r_lit 13 rfl hb8 ?_
   refine r_off rfl (by decide) rfl (r_off rfl (by decide) rfl (r_off rfl (by decide) rfl (r_off rfl (by decide) rfl (r_pick_true rfl rfl rfl rfl (r_nil ?_)))))
   refine q_next (fun a ha => ?_)
   cases hb1
   exact ⟨rfl, ha.cut (l := [1, 2, 3, 18]) rfl⟩
  ·refine r_lit 13 rfl hb8 ?_
   refine r_fieldAddr fa48_1 rfl rfl rfl ?_
   refine r_loadB1 ag3 rfl rfl hx1 rfl (i := 0) rfl rfl ?_
   obtain ⟨v7, hv5, hb1⟩ := bind_some hb1
   refine r_callP0 ent27 rfl rfl rfl rfl (ref40_in_ok _ _ _ _ _ hv5) ?_
   refine r_not rfl rfl rfl (r_pick_false rfl rfl rfl rfl (r_nil ?_))
   refine q_next (fun a ha => ?_)
   cases hb1
   exact ⟨rfl, ha.cut (l := [1, 2, 3, 18]) rfl⟩
theorem ent17 : Ent Tryz.prog 17 := fun _ _ => by kernel_rfl
theorem ent19 : Ent Tryz.prog 19 := fun _ _ => by kernel_rfl
def ref40_Adopt_L1 (n : Nat) (motions1 : (List Motion)) (votes1 : (List Vote)) (weights1 : (List Int)) (names1 : (List Bs)) (notice1 : Int) (kont1 : (List Int) → (List Version) → Option ((List Version) × (List Int) × Int)) : Nat → Int → (List Int) → (List Version) → Option ((List Version) × (List Int) × Int)
 | 0, _, _, _ => none
 | mx1 + 1, i1, l1, l2 =>
  bif decide (i1 < (motions1.length : Int)) then
   (ix motions1 i1).bind fun ex1 =>
   (ref40_Check n ex1 names1 notice1).bind fun v5 =>
   (bif v5 == 0 then
    (ref40_Passes n weights1 votes1 i1).bind fun v8 =>
    some (!v8)
   else
    some false).bind fun v6 =>
   (bif v6 then
    some 7
   else
    some v5).bind fun ex2 =>
   (bif ex2 == 0 then
    (ix motions1 i1).bind fun ex3 =>
    (ref35_Parse n ex3.Text).bind fun v7 =>
    (ix motions1 i1).bind fun ex4 =>
    (app 88 l2 [(⟨ex4.From, v7.1⟩ : Version)]).bind fun l7 =>
    some l7
   else
    some l2).bind fun l5 =>
   (app 8 l1 [ex2]).bind fun l6 =>
   ref40_Adopt_L1 n motions1 votes1 weights1 names1 notice1 kont1 mx1 (iadd .i64 i1 1) l6 l5
  else
   kont1 l1 l2
theorem ref40_Adopt_L1_s (n : Nat) (motions1 : (List Motion)) (votes1 : (List Vote)) (weights1 : (List Int)) (names1 : (List Bs)) (notice1 : Int) (kont1 : (List Int) → (List Version) → Option ((List Version) × (List Int) × Int)) (mx1 : Nat) (i1 : Int) (l1 : List Int) (l2 : List Version) : ref40_Adopt_L1 n motions1 votes1 weights1 names1 notice1 kont1 (mx1 + 1) i1 l1 l2 =
  bif decide (i1 < (motions1.length : Int)) then
   (ix motions1 i1).bind fun ex1 =>
   (ref40_Check n ex1 names1 notice1).bind fun v5 =>
   (bif v5 == 0 then
    (ref40_Passes n weights1 votes1 i1).bind fun v8 =>
    some (!v8)
   else
    some false).bind fun v6 =>
   (bif v6 then
    some 7
   else
    some v5).bind fun ex2 =>
   (bif ex2 == 0 then
    (ix motions1 i1).bind fun ex3 =>
    (ref35_Parse n ex3.Text).bind fun v7 =>
    (ix motions1 i1).bind fun ex4 =>
    (app 88 l2 [(⟨ex4.From, v7.1⟩ : Version)]).bind fun l7 =>
    some l7
   else
    some l2).bind fun l5 =>
   (app 8 l1 [ex2]).bind fun l6 =>
   ref40_Adopt_L1 n motions1 votes1 weights1 names1 notice1 kont1 mx1 (iadd .i64 i1 1) l6 l5
  else
   kont1 l1 l2 := rfl
def ref40_Adopt (n : Nat) (motions1 : (List Motion)) (votes1 : (List Vote)) (weights1 : (List Int)) (names1 : (List Bs)) (notice1 : Int) : Option ((List Version) × (List Int) × Int) :=
 (bif decide (40 < (motions1.length : Int)) then
  some true
 else
  some (decide (1000 < (votes1.length : Int)))).bind fun v1 =>
 bif v1 then
  some ([], [], 6)
 else
  (ref40_Weights n weights1).bind fun v2 =>
  (bif !v2 then
   some true
  else
   (ref40_in n notice1 0 1000).bind fun v10 =>
   some (!v10)).bind fun v3 =>
  (bif v3 then
   some true
  else
   (ref35_Names n names1).bind fun v9 =>
   some (!v9)).bind fun v4 =>
  bif v4 then
   some ([], [], 1)
  else
   ref40_Adopt_L1 n motions1 votes1 weights1 names1 notice1 (fun (l3 : List Int) (l4 : List Version) =>
    some (l4, l3, 0)) n 0 ([] : List Int) ([] : List Version)
set_option maxHeartbeats 1000000 in
set_option maxRecDepth 1000000 in
theorem ref40_Adopt_ok (n : Nat) (motions1 : (List Motion)) (votes1 : (List Vote)) (weights1 : (List Int)) (names1 : (List Bs)) (notice1 : Int) (r : ((List Version) × (List Int) × Int)) (hm : ref40_Adopt n motions1 votes1 weights1 names1 notice1 = some r) {w : World} {F : Frz} (hs : Sat F w) {as1 : Option Addr} {ns1 : Nat} {cs1 : Nat} {as2 : Option Addr} {ns2 : Nat} {cs2 : Nat} {as3 : Option Addr} {ns3 : Nat} {cs3 : Nat} {as4 : Option Addr} {ns4 : Nat} {cs4 : Nat} (hs1 : SlR rp_Motion F as1 ns1 cs1 motions1) (hs2 : SlR rp_Vote F as2 ns2 cs2 votes1) (hs3 : SlR (Rp.int .i64) F as3 ns3 cs3 weights1) (hs4 : SlR Rp.str F as4 ns4 cs4 names1) :
  Calls Tryz.prog 8 #[.slice as1 ns1 cs1, .slice as2 ns2 cs2, .slice as3 ns3 cs3, .slice as4 ns4 cs4, .int .i64 notice1] w fun e w' => ∃ v F' O', e = .returned v ∧ HS F w [] F' O' w' ∧ (∃ (a0_0 : Option Addr) (n0_0 : Nat) (c0_0 : Nat) (a1_0 : Option Addr) (n1_0 : Nat) (c1_0 : Nat), v = .tuple #[.slice a0_0 n0_0 c0_0, .slice a1_0 n1_0 c1_0, .int .i64 r.2.2] ∧ O' = [] ∧ SlR rp_Version F' a0_0 n0_0 c0_0 r.1 ∧ SlR (Rp.int .i64) F' a1_0 n1_0 c1_0 r.2.1) := by
 unfold ref40_Adopt at hm
 have h := HS.init hs
 refine calls_of 91 Tryz.func8 rfl rfl rfl ?_
 refine c_seq (c_region (r_assign rfl rfl rfl (r_assign rfl rfl rfl (r_assign rfl rfl rfl (r_nil (q_then (c_seq (c_seq (c_region (r_move rfl rfl rfl ?_))))))))))
 refine r_lenS hs1.len u22 rfl rfl rfl ?_
 refine r_bin rfl rfl rfl rfl rfl ?_
 refine r_move rfl rfl rfl ?_
 obtain ⟨v1, hb1, hm⟩ := bind_some hm
 refine r_mid 4 (fun a w' => w = w' ∧ Has 91 a [(0, .slice as1 ns1 cs1), (1, .slice as2 ns2 cs2), (2, .slice as3 ns3 cs3), (3, .slice as4 ns4 cs4), (4, .int .i64 notice1), (27, .bool v1)]) ?_ ?_
 ·rintro a wx1 ⟨rfl, hax1⟩
  refine rw_apply hax1 ?_
  refine r_nil (q_then ?_)
  rcases cond_some hm with ⟨hb2, hm⟩ | ⟨hb2, hm⟩
  ·refine c_lit 27 rfl hb2 ?_
   refine c_true rfl (c_seq (c_region (r_assign rfl rfl rfl (r_assign rfl rfl rfl (r_assign rfl rfl rfl (r_nil (q_then (c_ret (q_then_ret ?_)))))))))
   refine b_retA (vl := [.slice none 0 0, .slice none 0 0, .int .i64 6]) rfl ⟨v_tmp rfl, v_tmp rfl, v_tmp rfl, trivial⟩ (by simp) ?_
   obtain rfl := Option.some.inj hm
   exact ⟨_, _, _, rfl, h.pick [] (by decide) rfl, none, 0, 0, none, 0, 0, rfl, rfl, SlR.nil _ _, SlR.nil _ _⟩
  ·refine c_lit 27 rfl hb2 ?_
   refine c_false rfl (c_skip (q_then (c_seq (c_seq (c_region (r_move rfl rfl rfl ?_))))))
   obtain ⟨v2, hv1, hm⟩ := bind_some hm
   refine r_callP0 ent26 rfl rfl rfl rfl (ref40_Weights_ok _ _ _ hv1 h.sat hs3) ?_
   refine r_not rfl rfl rfl (r_move rfl rfl rfl ?_)
   obtain ⟨v3, hb3, hm⟩ := bind_some hm
   refine r_mid 4 (fun a w' => w = w' ∧ Has 91 a [(0, .slice as1 ns1 cs1), (1, .slice as2 ns2 cs2), (2, .slice as3 ns3 cs3), (3, .slice as4 ns4 cs4), (4, .int .i64 notice1), (35, .bool v3)]) ?_ ?_
   ·rintro a wx2 ⟨rfl, hax2⟩
    refine rw_apply hax2 ?_
    refine r_move rfl rfl rfl ?_
    obtain ⟨v4, hb4, hm⟩ := bind_some hm
    refine r_mid 4 (fun a w' => ∃ (Fx1 : Frz), Frz.le F Fx1 ∧ HS F w [] Fx1 [] w' ∧ Has 91 a [(0, .slice as1 ns1 cs1), (1, .slice as2 ns2 cs2), (2, .slice as3 ns3 cs3), (3, .slice as4 ns4 cs4), (4, .int .i64 notice1), (40, .bool v4)]) ?_ ?_
    ·rintro a wx3 ⟨Fx1, hF1, hx1, hax3⟩
     refine rw_apply hax3 ?_
     refine r_nil (q_then ?_)
     rcases cond_some hm with ⟨hb5, hm⟩ | ⟨hb5, hm⟩
     ·refine c_lit 40 rfl hb5 ?_
      refine c_true rfl (c_seq (c_region (r_assign rfl rfl rfl (r_assign rfl rfl rfl (r_assign rfl rfl rfl (r_nil (q_then (c_ret (q_then_ret ?_)))))))))
      refine b_retA (vl := [.slice none 0 0, .slice none 0 0, .int .i64 1]) rfl ⟨v_tmp rfl, v_tmp rfl, v_tmp rfl, trivial⟩ (by simp) ?_
      obtain rfl := Option.some.inj hm
      exact ⟨_, _, _, rfl, hx1.pick [] (by decide) rfl, none, 0, 0, none, 0, 0, rfl, rfl, SlR.nil _ _, SlR.nil _ _⟩
     ·refine c_lit 40 rfl hb5 ?_
      refine c_false rfl (c_skip (q_then (c_seq (c_region (r_assign rfl rfl rfl (r_nil (q_then (c_seq (c_region (r_assign rfl rfl rfl (r_nil (q_then (c_seq (c_seq (c_region (r_assign rfl rfl rfl (r_nil (q_then (c_block ?_)))))))))))))))))))
      have hx2 := hx1.nilRow 56 7
      have hx3 := hx2.nilRow 31 1
      intro a hax9
      obtain ⟨kont1, hkont1⟩ : ∃ kont1 : (List Int) → (List Version) → Option ((List Version) × (List Int) × Int), kont1 = (fun (l3 : List Int) (l4 : List Version) =>
       some (l4, l3, 0)) := ⟨_, rfl⟩
      replace hm : (fun m (s : Int × List Int × List Version) => ref40_Adopt_L1 n motions1 votes1 weights1 names1 notice1 kont1 m s.1 s.2.1 s.2.2) n (0, ([] : List Int), ([] : List Version)) = some r := by rw [hkont1]; exact hm
      refine loopX (id := 0) (fun m (s : Int × List Int × List Version) => ref40_Adopt_L1 n motions1 votes1 weights1 names1 notice1 kont1 m s.1 s.2.1 s.2.2) (fun (y : List Int × List Version) => kont1 y.1 y.2) r (fun (s : Int × List Int × List Version) a w' => ∃ (Fx2 : Frz) (as5 : Option Addr) (ns5 : Nat) (cs5 : Nat) (xss5 : List Value) (as6 : Option Addr) (ns6 : Nat) (cs6 : Nat) (xss6 : List Value), Frz.le Fx1 Fx2 ∧ HS F w [] Fx2 [.row 31 1 as5 ns5 cs5 xss5, .row 56 7 as6 ns6 cs6 xss6] w' ∧ (RowN (Rp.int .i64) Fx2 ns5 xss5 s.2.1) ∧ (RowN rp_Version Fx2 ns6 xss6 s.2.2) ∧ Has 91 a [(0, .slice as1 ns1 cs1), (1, .slice as2 ns2 cs2), (2, .slice as3 ns3 cs3), (3, .slice as4 ns4 cs4), (4, .int .i64 notice1), (13, .slice as6 ns6 cs6), (14, .slice as5 ns5 cs5), (15, .int .i64 s.1)]) (fun (y : List Int × List Version) a w' => ∃ (Fx3 : Frz) (as7 : Option Addr) (ns7 : Nat) (cs7 : Nat) (xss7 : List Value) (as8 : Option Addr) (ns8 : Nat) (cs8 : Nat) (xss8 : List Value), Frz.le Fx1 Fx3 ∧ HS F w [] Fx3 [.row 31 1 as7 ns7 cs7 xss7, .row 56 7 as8 ns8 cs8 xss8] w' ∧ (RowN (Rp.int .i64) Fx3 ns7 xss7 y.1) ∧ (RowN rp_Version Fx3 ns8 xss8 y.2) ∧ Has 91 a [(13, .slice as8 ns8 cs8), (14, .slice as7 ns7 cs7)]) (fun _ => rfl) ?_ ?_ hm ⟨_, none, 0, 0, [], none, 0, 0, [], Frz.refl _, hx3.pick [0, 1] (by decide) rfl, ((show RowN (Rp.int .i64) _ 0 [] [] from ⟨rfl, rfl⟩)), ((show RowN rp_Version _ 0 [] [] from ⟨rfl, rfl⟩)), hax9.cut (l := [0, 1, 2, 3, 4, 13, 14, 15]) rfl⟩
      ·clear hm; rintro ⟨l3, l4⟩ a wx4 hm ⟨Fx3, as7, ns7, cs7, xss7, as8, ns8, cs8, xss8, hF3, hx5, hs7, hs8, hax4⟩
       rw [hkont1] at hm
       replace hm := hm
       refine qw_apply (e := .exit 0) hax4 ?_
       refine q_block_hit (q_then (c_seq (c_region (r_move rfl rfl rfl (r_move rfl rfl rfl (r_assign rfl rfl rfl (r_assign rfl rfl rfl (r_assign rfl rfl rfl (r_nil (q_then (c_ret ?_)))))))))))
       obtain ⟨Fx4, hF4, hx6, hsx1⟩ := freezeRow hx5 (i := 1) rfl hs8
       obtain ⟨Fx5, hF5, hx7, hsx2⟩ := freezeRow hx6 (i := 0) rfl (hs7.mono hF4)
       refine b_retA (vl := [.slice as8 ns8 cs8, .slice as7 ns7 cs7, .int .i64 0]) rfl ⟨v_tmp rfl, v_tmp rfl, v_tmp rfl, trivial⟩ (by simp) ?_
       obtain rfl := Option.some.inj hm
       exact ⟨_, _, _, rfl, hx7.pick [] (by decide) rfl, as8, ns8, cs8, as7, ns7, cs7, rfl, rfl, (hsx1.mono hF5), hsx2⟩
      ·clear hm hkont1; intro hk1 mx1 K ihx1
       rintro ⟨i1, l1, l2⟩ a wx5 hm ⟨Fx2, as5, ns5, cs5, xss5, as6, ns6, cs6, xss6, hF2, hx4, hs5, hs6, hax5⟩
       simp only [ref40_Adopt_L1_s] at hm
       refine cw_apply hax5 ?_
       refine c_seq (c_seq (c_region (r_move rfl rfl rfl (r_move rfl rfl rfl ?_))))
       refine r_lenS hs1.len u22 rfl rfl rfl ?_
       refine r_bin rfl rfl rfl rfl rfl ?_
       refine r_nil (q_then ?_)
       rcases cond_some hm with ⟨hb6, hm⟩ | ⟨hb6, hm⟩
       ·refine c_lit 44 rfl hb6 ?_
        refine c_true rfl (c_skip (q_then (c_seq (c_block (c_seq (c_region (r_move rfl rfl rfl (r_move rfl rfl rfl ?_))))))))
        obtain ⟨ex1, he1, hm⟩ := bind_some hm
        refine r_findex (r := rp_Motion) u22 sz48 rfl rfl rfl rfl ((hs1.mono hF1).mono hF2) he1 ?_
        intro b1 o1 cs1 hf1 hr1
        have hc1 : cs1 = [vs ex1.Text, .int .i64 ex1.Day, .int .i64 ex1.From] := hr1
        subst hc1
        refine r_loadFW ag48 sz48 rfl rfl hx4 hf1 rfl rfl ?_
        refine r_move rfl rfl rfl (r_move rfl rfl rfl ?_)
        obtain ⟨v5, hv2, hm⟩ := bind_some hm
        refine r_callG0 ent17 rfl rfl rfl rfl hx4 (ref40_Check_ok _ _ _ _ _ hv2 hx4.sat ((hs4.mono hF1).mono hF2)) ?_
        rintro _ Fx6 _ wx6 hF6 hx8 ⟨rfl, rfl⟩
        refine r_assign rfl rfl rfl (r_nil (q_then (c_seq (c_seq (c_region (r_move rfl rfl rfl ?_))))))
        refine r_bin rfl rfl rfl rfl rfl ?_
        refine r_move rfl rfl rfl ?_
        obtain ⟨v6, hb7, hm⟩ := bind_some hm
        refine r_mid 6 (fun a w' => ∃ (Fx7 : Frz), Frz.le Fx6 Fx7 ∧ HS F w [] Fx7 [.row 31 1 as5 ns5 cs5 xss5, .row 56 7 as6 ns6 cs6 xss6] w' ∧ Has 91 a [(0, .slice as1 ns1 cs1), (1, .slice as2 ns2 cs2), (2, .slice as3 ns3 cs3), (3, .slice as4 ns4 cs4), (4, .int .i64 notice1), (13, .slice as6 ns6 cs6), (14, .slice as5 ns5 cs5), (15, .int .i64 i1), (16, .int .i64 v5), (62, .bool v6)]) ?_ ?_
        ·rintro a wx7 ⟨Fx7, hF7, hx9, hax6⟩
         refine rw_apply hax6 ?_
         refine r_nil (q_then ?_)
         obtain ⟨ex2, hb8, hm⟩ := bind_some hm
         refine c_midT (fun a w' => wx7 = w' ∧ Has 91 a [(0, .slice as1 ns1 cs1), (1, .slice as2 ns2 cs2), (2, .slice as3 ns3 cs3), (3, .slice as4 ns4 cs4), (4, .int .i64 notice1), (13, .slice as6 ns6 cs6), (14, .slice as5 ns5 cs5), (15, .int .i64 i1), (16, .int .i64 ex2)]) ?_ ?_
         ·rintro a wx8 ⟨rfl, hax7⟩
          refine cw_apply hax7 ?_
          refine c_seq (c_seq (c_region (r_move rfl rfl rfl ?_)))
          refine r_bin rfl rfl rfl rfl rfl ?_
          refine r_nil (q_then ?_)
          obtain ⟨l5, hb9, hm⟩ := bind_some hm
          refine c_midT (fun a w' => ∃ (Fx8 : Frz) (as9 : Option Addr) (ns9 : Nat) (cs9 : Nat) (xss9 : List Value), Frz.le Fx7 Fx8 ∧ HS F w [] Fx8 [.row 31 1 as5 ns5 cs5 xss5, .row 56 7 as9 ns9 cs9 xss9] w' ∧ (RowN rp_Version Fx8 ns9 xss9 l5) ∧ Has 91 a [(0, .slice as1 ns1 cs1), (1, .slice as2 ns2 cs2), (2, .slice as3 ns3 cs3), (3, .slice as4 ns4 cs4), (4, .int .i64 notice1), (13, .slice as9 ns9 cs9), (14, .slice as5 ns5 cs5), (15, .int .i64 i1), (16, .int .i64 ex2)]) ?_ ?_
          ·rintro a wx9 ⟨Fx8, as9, ns9, cs9, xss9, hF8, hx10, hs9, hax8⟩
           refine cw_apply hax8 ?_
           refine c_region (r_move rfl rfl rfl (r_move rfl rfl rfl ?_))
           refine r_buildSlice (e := 31) (cs := [.int .i64 ex2]) (q := 1) rfl rfl hx10 rfl (fun _ => by kernel_rfl) rfl rfl ?_
           intro b2 wx10 hx11
           obtain ⟨l6, hr2, hm⟩ := bind_some hm
           refine r_appendN (r := (Rp.int .i64)) ap30 rfl rfl hx11 rfl rfl (i := 1) (j := 0) rfl rfl (((hs5.mono hF6).mono hF7).mono hF8) ((show RowN (Rp.int .i64) Fx8 1 [.int .i64 ex2] [ex2] from ⟨rfl, ⟨_, _, rfl, rfl, (rfl : RowR (Rp.int .i64) _ [] [])⟩⟩)) hr2 ?_
           intro as10 cs10 wx11 hx12 hs10
           refine r_assign rfl rfl rfl (r_nil (q_block (q_then (c_region (r_move rfl rfl rfl ?_)))))
           refine r_bin rfl rfl rfl rfl rfl ?_
           refine r_assign rfl rfl rfl (r_nil ?_)
           refine q_next (fun a ha => ihx1 ((iadd .i64 i1 1), l6, l5) a _ hm ?_)
           exact ⟨_, as10, (ns5 + 1), cs10, (xss5 ++ [.int .i64 ex2]), as9, ns9, cs9, xss9, (((hF2.trans hF6).trans hF7).trans hF8), hx12.pick [1, 2] (by decide) rfl, hs10, hs9, ha.cut (l := [0, 1, 2, 3, 4, 13, 14, 15]) rfl⟩
          ·clear hm
           rcases cond_some hb9 with ⟨hb10, hb9⟩ | ⟨hb10, hb9⟩
           ·refine c_lit 64 rfl hb10 ?_
            refine c_true rfl (c_seq (c_region (r_move rfl rfl rfl (r_move rfl rfl rfl ?_))))
            obtain ⟨ex3, he2, hb9⟩ := bind_some hb9
            refine r_findex (r := rp_Motion) u22 sz48 rfl rfl rfl rfl ((((hs1.mono hF1).mono hF2).mono hF6).mono hF7) he2 ?_
            intro b3 o2 cs2 hf2 hr3
            have hc2 : cs2 = [vs ex3.Text, .int .i64 ex3.Day, .int .i64 ex3.From] := hr3
            subst hc2
            refine r_fieldAddr fa48_0 rfl rfl rfl ?_
            refine r_loadF1 (j := 0) ag9 rfl rfl hx9 hf2 rfl rfl ?_
            obtain ⟨v7, hv3, hb9⟩ := bind_some hb9
            refine r_callG0 ent29 rfl rfl rfl rfl hx9 (ref35_Parse_ok _ _ _ hv3 hx9.sat) ?_
            rintro _ Fx9 _ wx12 hF9 hx13 ⟨as11, ns11, cs11, rfl, rfl, hs11⟩
            refine r_move rfl rfl rfl (r_extract rfl rfl rfl rfl (r_extract rfl rfl rfl rfl (r_extract rfl rfl rfl rfl ?_)))
            refine r_alloc ze40 rfl rfl rfl hx13 ?_
            intro b4 wx13 hx14
            refine r_store sz40 rfl hx14 rfl rfl rfl rfl (i := 0) rfl rfl rfl rfl ?_
            intro wx14 hx15
            refine r_assign rfl rfl rfl (r_assign rfl rfl rfl (r_nil (q_then ?_)))
            refine c_regionH (SH Fx9 [.box b4 40 [vs v7.1.Name, .int .i64 v7.1.Fee.Op, .int .i64 v7.1.Fee.N, vs v7.1.Fee.Name, .slice as11 ns11 cs11, .int .i64 v7.1.Cap], .row 31 1 as5 ns5 cs5 xss5]) 11 rfl (by kernel_rfl) hx15 ?_
            intro wx15 hx16
            refine d_tk 0 rfl (by kernel_rfl) rfl rfl rfl rfl (hx16.sh (Frz.refl _) [0, 1] (by decide) rfl) (fun _ _ _ _ _ => r_move rfl rfl rfl (r_nil (qq rfl))) ?_
            refine d_tk 1 rfl (by kernel_rfl) rfl rfl rfl rfl (hx16.sh (Frz.refl _) [0, 1] (by decide) rfl) (fun _ _ _ _ _ => r_move rfl rfl rfl (r_nil (qq rfl))) ?_
            refine d_tk 2 rfl (by kernel_rfl) rfl rfl rfl rfl (hx16.sh (Frz.refl _) [0, 1] (by decide) rfl) (fun _ _ _ _ _ => r_move rfl rfl rfl (r_nil (qq rfl))) ?_
            obtain ⟨ex4, he3, hb9⟩ := bind_some hb9
            obtain ⟨b5, o3, cs3, hf3, hr4, hrun1⟩ := findex_ex (P := Tryz.prog) (r := rp_Motion) u22 sz48 (((((hs1.mono hF1).mono hF2).mono hF6).mono hF7).mono hF9) he3
            have hc3 : cs3 = [vs ex4.Text, .int .i64 ex4.Day, .int .i64 ex4.From] := hr4
            subst hc3
            refine d_findex 3 rfl (by kernel_rfl) (by kernel_rfl) (by kernel_rfl) rfl rfl rfl rfl hrun1 (hx16.sh (Frz.refl _) [0, 1] (by decide) rfl) ?_
            refine d_tk 4 rfl (by kernel_rfl) rfl rfl rfl rfl (hx16.sh (Frz.refl _) [0, 1] (by decide) rfl) (fun _ _ _ _ _ => r_fieldAddr fa48_2 rfl rfl rfl (r_nil (qq rfl))) ?_
            refine d_tk 5 rfl (by kernel_rfl) rfl rfl rfl rfl (hx16.sh (Frz.refl _) [0, 1] (by decide) rfl) (fun _ _ _ hleq hq => r_loadF1 (j := 2) ag3 rfl rfl hq (hf3.mono hleq) rfl rfl (r_nil (qq rfl))) ?_
            refine d_tk 6 rfl (by kernel_rfl) rfl rfl rfl rfl (hx16.sh (Frz.refl _) [0, 1] (by decide) rfl) (fun _ _ _ _ hq => r_loadBW ag40 sz40 rfl rfl hq rfl (i := 0) rfl rfl (r_nil (qq rfl))) ?_
            refine d_tk 7 rfl (by kernel_rfl) rfl rfl rfl rfl (hx16.sh (Frz.refl _) [0, 1] (by decide) rfl) (fun _ _ _ _ _ => r_build (v := .agg #[.int .i64 ex4.From, vs v7.1.Name, .int .i64 v7.1.Fee.Op, .int .i64 v7.1.Fee.N, vs v7.1.Fee.Name, .slice as11 ns11 cs11, .int .i64 v7.1.Cap]) rfl rfl rfl (fun _ => by kernel_rfl) (r_nil (qq rfl))) ?_
            refine d_step 8 rfl (by kernel_rfl) ?_
            refine r_buildSlice (e := 56) (cs := [.int .i64 ex4.From, vs v7.1.Name, .int .i64 v7.1.Fee.Op, .int .i64 v7.1.Fee.N, vs v7.1.Fee.Name, .slice as11 ns11 cs11, .int .i64 v7.1.Cap]) (q := 7) rfl rfl hx16 rfl (fun _ => by kernel_rfl) rfl rfl ?_
            intro b6 wx16 hx17
            refine d_next (hx17.sh (Frz.refl _) [1, 2] (by decide) rfl) ?_
            refine d_step 9 rfl (by kernel_rfl) ?_
            obtain ⟨l7, hr5, hb9⟩ := bind_some hb9
            refine r_appendN (r := rp_Version) ap26 rfl rfl hx17 rfl rfl (i := 3) (j := 0) rfl rfl (((hs6.mono hF6).mono hF7).mono hF9) ((show RowN rp_Version Fx9 1 [.int .i64 ex4.From, vs v7.1.Name, .int .i64 v7.1.Fee.Op, .int .i64 v7.1.Fee.N, vs v7.1.Fee.Name, .slice as11 ns11 cs11, .int .i64 v7.1.Cap] [(⟨ex4.From, v7.1⟩ : Version)] from ⟨rfl, ⟨_, _, rfl, ⟨as11, ns11, cs11, rfl, hs11⟩, (rfl : RowR rp_Version _ [] [])⟩⟩)) hr5 ?_
            intro as12 cs12 wx17 hx18 hs12
            refine d_next (hx18.sh (Frz.refl _) [1, 2] (by decide) rfl) ?_
            refine d_tk 10 rfl (by kernel_rfl) rfl rfl rfl rfl (hx18.sh (Frz.refl _) [1, 2] (by decide) rfl) (fun _ _ _ _ _ => r_assign rfl rfl rfl (r_nil (qq rfl))) ?_
            refine d_done (by kernel_rfl) ?_
            refine q_next (fun a ha => ?_)
            cases hb9
            exact ⟨_, as12, (ns6 + 1), cs12, (xss6 ++ [.int .i64 ex4.From, vs v7.1.Name, .int .i64 v7.1.Fee.Op, .int .i64 v7.1.Fee.N, vs v7.1.Fee.Name, .slice as11 ns11 cs11, .int .i64 v7.1.Cap]), hF9, hx18.pick [2, 3] (by decide) rfl, hs12, ha.cut (l := [0, 1, 2, 3, 4, 13, 14, 15, 16]) rfl⟩
           ·refine c_lit 64 rfl hb10 ?_
            refine c_false rfl (c_skip ?_)
            refine q_next (fun a ha => ?_)
            cases hb9
            exact ⟨_, as6, ns6, cs6, xss6, Frz.refl _, hx9.pick [0, 1] (by decide) rfl, ((hs6.mono hF6).mono hF7), ha.cut (l := [0, 1, 2, 3, 4, 13, 14, 15, 16]) rfl⟩
         ·clear hm
          rcases cond_some hb8 with ⟨hb11, hb8⟩ | ⟨hb11, hb8⟩
          ·refine c_lit 62 rfl hb11 ?_
           refine c_true rfl (c_region (r_assign rfl rfl rfl (r_nil ?_)))
           refine q_next (fun a ha => ?_)
           cases hb8
           exact ⟨rfl, ha.cut (l := [0, 1, 2, 3, 4, 13, 14, 15, 16]) rfl⟩
          ·refine c_lit 62 rfl hb11 ?_
           refine c_false rfl (c_skip ?_)
           refine q_next (fun a ha => ?_)
           cases hb8
           exact ⟨rfl, ha.cut (l := [0, 1, 2, 3, 4, 13, 14, 15, 16]) rfl⟩
        ·clear hm
         rcases cond_some hb7 with ⟨hb12, hb7⟩ | ⟨hb12, hb7⟩
         ·refine r_lit 56 rfl hb12 ?_
          refine r_move rfl rfl rfl (r_move rfl rfl rfl (r_move rfl rfl rfl ?_))
          obtain ⟨v8, hv4, hb7⟩ := bind_some hb7
          refine r_callG0 ent19 rfl rfl rfl rfl hx8 (ref40_Passes_ok _ _ _ _ _ hv4 hx8.sat (((hs3.mono hF1).mono hF2).mono hF6) (((hs2.mono hF1).mono hF2).mono hF6)) ?_
          rintro _ Fx10 _ wx18 hF10 hx19 ⟨rfl, rfl⟩
          refine r_not rfl rfl rfl (r_pick_true rfl rfl rfl rfl (r_nil ?_))
          refine q_next (fun a ha => ?_)
          cases hb7
          exact ⟨_, hF10, hx19.pick [0, 1] (by decide) rfl, ha.cut (l := [0, 1, 2, 3, 4, 13, 14, 15, 16, 62]) rfl⟩
         ·refine r_lit 56 rfl hb12 ?_
          refine r_off rfl (by decide) rfl (r_off rfl (by decide) rfl (r_off rfl (by decide) rfl (r_off rfl (by decide) rfl (r_off rfl (by decide) rfl (r_pick_false rfl rfl rfl rfl (r_nil ?_))))))
          refine q_next (fun a ha => ?_)
          cases hb7
          exact ⟨_, Frz.refl _, hx8.pick [0, 1] (by decide) rfl, ha.cut (l := [0, 1, 2, 3, 4, 13, 14, 15, 16, 62]) rfl⟩
       ·refine c_lit 44 rfl hb6 ?_
        refine c_false rfl (c_exit (q_then_exit (q_then_exit ?_)))
        refine fun a ha => hk1 (l1, l2) a _ hm ?_
        exact ⟨_, as5, ns5, cs5, xss5, as6, ns6, cs6, xss6, hF2, hx4.pick [0, 1] (by decide) rfl, hs5, hs6, ha.cut (l := [13, 14]) rfl⟩
    ·clear hm
     rcases cond_some hb4 with ⟨hb13, hb4⟩ | ⟨hb13, hb4⟩
     ·refine r_lit 36 rfl hb13 ?_
      refine r_off rfl (by decide) rfl (r_off rfl (by decide) rfl (r_off rfl (by decide) rfl (r_pick_true rfl rfl rfl rfl (r_nil ?_))))
      refine q_next (fun a ha => ?_)
      cases hb4
      exact ⟨_, Frz.refl _, h.pick [] (by decide) rfl, ha.cut (l := [0, 1, 2, 3, 4, 40]) rfl⟩
     ·refine r_lit 36 rfl hb13 ?_
      refine r_move rfl rfl rfl ?_
      obtain ⟨v9, hv5, hb4⟩ := bind_some hb4
      refine r_callG0 ent28 rfl rfl rfl rfl h (ref35_Names_ok _ _ _ hv5 h.sat hs4) ?_
      rintro _ Fx11 _ wx19 hF11 hx20 ⟨rfl, rfl⟩
      refine r_not rfl rfl rfl (r_pick_false rfl rfl rfl rfl (r_nil ?_))
      refine q_next (fun a ha => ?_)
      cases hb4
      exact ⟨_, hF11, hx20.pick [] (by decide) rfl, ha.cut (l := [0, 1, 2, 3, 4, 40]) rfl⟩
   ·clear hm
    rcases cond_some hb3 with ⟨hb14, hb3⟩ | ⟨hb14, hb3⟩
    ·refine r_lit 31 rfl hb14 ?_
     refine r_off rfl (by decide) rfl (r_off rfl (by decide) rfl (r_off rfl (by decide) rfl (r_pick_true rfl rfl rfl rfl (r_nil ?_))))
     refine q_next (fun a ha => ?_)
     cases hb3
     exact ⟨rfl, ha.cut (l := [0, 1, 2, 3, 4, 35]) rfl⟩
    ·refine r_lit 31 rfl hb14 ?_
     refine r_move rfl rfl rfl ?_
     obtain ⟨v10, hv6, hb3⟩ := bind_some hb3
     refine r_callP0 ent27 rfl rfl rfl rfl (ref40_in_ok _ _ _ _ _ hv6) ?_
     refine r_not rfl rfl rfl (r_pick_false rfl rfl rfl rfl (r_nil ?_))
     refine q_next (fun a ha => ?_)
     cases hb3
     exact ⟨rfl, ha.cut (l := [0, 1, 2, 3, 4, 35]) rfl⟩
 ·clear hm
  rcases cond_some hb1 with ⟨hb15, hb1⟩ | ⟨hb15, hb1⟩
  ·refine r_lit 23 rfl hb15 ?_
   refine r_off rfl (by decide) rfl (r_off rfl (by decide) rfl (r_off rfl (by decide) rfl (r_pick_true rfl rfl rfl rfl (r_nil ?_))))
   refine q_next (fun a ha => ?_)
   cases hb1
   exact ⟨rfl, ha.cut (l := [0, 1, 2, 3, 4, 27]) rfl⟩
  ·refine r_lit 23 rfl hb15 ?_
   refine r_move rfl rfl rfl ?_
   refine r_lenS hs2.len u23 rfl rfl rfl ?_
   refine r_bin rfl rfl rfl rfl rfl ?_
   refine r_pick_false rfl rfl rfl rfl (r_nil ?_)
   refine q_next (fun a ha => ?_)
   cases hb1
   exact ⟨rfl, ha.cut (l := [0, 1, 2, 3, 4, 27]) rfl⟩
def ref40_InForce_L1 (n : Nat) (versions1 : (List Version)) (day1 : Int) (kont1 : Bool → Int → Bs → Int → Int → Bs → (List Expr) → Int → Option (Tariff × Bool)) : Nat → Bool → Int → Int → Bs → Int → Int → Bs → (List Expr) → Int → Option (Tariff × Bool)
 | 0, _, _, _, _, _, _, _, _, _ => none
 | mx1 + 1, found1, i1, f1, f2, f3, f4, f5, f6, f7 =>
  bif decide (i1 < (versions1.length : Int)) then
   (ix versions1 i1).bind fun ex1 =>
   (bif decide (ex1.From ≤ day1) then
    (bif !found1 then
     some true
    else
     (ix versions1 i1).bind fun ex3 =>
     some (decide (f1 ≤ ex3.From))).bind fun v2 =>
    some v2
   else
    some false).bind fun v1 =>
   bif v1 then
    (ix versions1 i1).bind fun ex2 =>
    ref40_InForce_L1 n versions1 day1 kont1 mx1 true (iadd .i64 i1 1) ex2.From ex2.Tariff.Name ex2.Tariff.Fee.Op ex2.Tariff.Fee.N ex2.Tariff.Fee.Name ex2.Tariff.Fee.Args ex2.Tariff.Cap
   else
    ref40_InForce_L1 n versions1 day1 kont1 mx1 found1 (iadd .i64 i1 1) f1 f2 f3 f4 f5 f6 f7
  else
   kont1 found1 f1 f2 f3 f4 f5 f6 f7
theorem ref40_InForce_L1_s (n : Nat) (versions1 : (List Version)) (day1 : Int) (kont1 : Bool → Int → Bs → Int → Int → Bs → (List Expr) → Int → Option (Tariff × Bool)) (mx1 : Nat) (found1 : Bool) (i1 : Int) (f1 : Int) (f2 : Bs) (f3 : Int) (f4 : Int) (f5 : Bs) (f6 : (List Expr)) (f7 : Int) : ref40_InForce_L1 n versions1 day1 kont1 (mx1 + 1) found1 i1 f1 f2 f3 f4 f5 f6 f7 =
  bif decide (i1 < (versions1.length : Int)) then
   (ix versions1 i1).bind fun ex1 =>
   (bif decide (ex1.From ≤ day1) then
    (bif !found1 then
     some true
    else
     (ix versions1 i1).bind fun ex3 =>
     some (decide (f1 ≤ ex3.From))).bind fun v2 =>
    some v2
   else
    some false).bind fun v1 =>
   bif v1 then
    (ix versions1 i1).bind fun ex2 =>
    ref40_InForce_L1 n versions1 day1 kont1 mx1 true (iadd .i64 i1 1) ex2.From ex2.Tariff.Name ex2.Tariff.Fee.Op ex2.Tariff.Fee.N ex2.Tariff.Fee.Name ex2.Tariff.Fee.Args ex2.Tariff.Cap
   else
    ref40_InForce_L1 n versions1 day1 kont1 mx1 found1 (iadd .i64 i1 1) f1 f2 f3 f4 f5 f6 f7
  else
   kont1 found1 f1 f2 f3 f4 f5 f6 f7 := rfl
def ref40_InForce (n : Nat) (versions1 : (List Version)) (day1 : Int) : Option (Tariff × Bool) :=
 ref40_InForce_L1 n versions1 day1 (fun (found2 : Bool) (_ : Int) (f9 : Bs) (f10 : Int) (f11 : Int) (f12 : Bs) (f13 : (List Expr)) (f14 : Int) =>
  some ((⟨f9, (⟨f10, f11, f12, f13⟩ : Expr), f14⟩ : Tariff), found2)) n false 0 0 [] 0 0 [] [] 0
set_option maxHeartbeats 1000000 in
set_option maxRecDepth 1000000 in
theorem ref40_InForce_ok (n : Nat) (versions1 : (List Version)) (day1 : Int) (r : (Tariff × Bool)) (hm : ref40_InForce n versions1 day1 = some r) {w : World} {F : Frz} (hs : Sat F w) {as1 : Option Addr} {ns1 : Nat} {cs1 : Nat} (hs1 : SlR rp_Version F as1 ns1 cs1 versions1) :
  Calls Tryz.prog 12 #[.slice as1 ns1 cs1, .int .i64 day1] w fun e w' => ∃ v F' O', e = .returned v ∧ HS F w [] F' O' w' ∧ (∃ (a0_4 : Option Addr) (n0_4 : Nat) (c0_4 : Nat), v = .tuple #[.agg #[vs r.1.Name, .int .i64 r.1.Fee.Op, .int .i64 r.1.Fee.N, vs r.1.Fee.Name, .slice a0_4 n0_4 c0_4, .int .i64 r.1.Cap], .bool r.2] ∧ O' = [] ∧ SlR rp_Expr F' a0_4 n0_4 c0_4 r.1.Fee.Args) := by
 unfold ref40_InForce at hm
 have h := HS.init hs
 refine calls_of 44 Tryz.func12 rfl rfl rfl ?_
 refine c_seq (c_region ?_)
 refine r_alloc ze40 rfl rfl rfl h ?_
 intro b1 wx1 hx1
 refine r_assign rfl rfl rfl (r_nil (q_then (c_seq (c_region ?_))))
 refine r_build (v := .agg #[.int .i64 0, vs [], .int .i64 0, .int .i64 0, vs [], .slice none 0 0, .int .i64 0]) rfl rfl rfl (fun _ => by kernel_rfl) ?_
 refine r_alloc ze56 rfl rfl rfl hx1 ?_
 intro b2 wx2 hx2
 refine r_store sz56 rfl hx2 rfl rfl rfl rfl (i := 0) rfl rfl rfl rfl ?_
 intro wx3 hx3
 refine r_nil (q_then (c_seq (c_region (r_assign rfl rfl rfl (r_nil (q_then (c_seq (c_seq (c_region (r_assign rfl rfl rfl (r_nil (q_then (c_block ?_)))))))))))))
 intro a hax5
 obtain ⟨kont1, hkont1⟩ : ∃ kont1 : Bool → Int → Bs → Int → Int → Bs → (List Expr) → Int → Option (Tariff × Bool), kont1 = (fun (found2 : Bool) (f8 : Int) (f9 : Bs) (f10 : Int) (f11 : Int) (f12 : Bs) (f13 : (List Expr)) (f14 : Int) =>
       some ((⟨f9, (⟨f10, f11, f12, f13⟩ : Expr), f14⟩ : Tariff), found2)) := ⟨_, rfl⟩
 replace hm : (fun m (s : Bool × Int × Int × Bs × Int × Int × Bs × (List Expr) × Int) => ref40_InForce_L1 n versions1 day1 kont1 m s.1 s.2.1 s.2.2.1 s.2.2.2.1 s.2.2.2.2.1 s.2.2.2.2.2.1 s.2.2.2.2.2.2.1 s.2.2.2.2.2.2.2.1 s.2.2.2.2.2.2.2.2) n (false, 0, 0, [], 0, 0, [], [], 0) = some r := by rw [hkont1]; exact hm
 refine loopX (id := 0) (fun m (s : Bool × Int × Int × Bs × Int × Int × Bs × (List Expr) × Int) => ref40_InForce_L1 n versions1 day1 kont1 m s.1 s.2.1 s.2.2.1 s.2.2.2.1 s.2.2.2.2.1 s.2.2.2.2.2.1 s.2.2.2.2.2.2.1 s.2.2.2.2.2.2.2.1 s.2.2.2.2.2.2.2.2) (fun (y : Bool × Int × Bs × Int × Int × Bs × (List Expr) × Int) => kont1 y.1 y.2.1 y.2.2.1 y.2.2.2.1 y.2.2.2.2.1 y.2.2.2.2.2.1 y.2.2.2.2.2.2.1 y.2.2.2.2.2.2.2) r (fun (s : Bool × Int × Int × Bs × Int × Int × Bs × (List Expr) × Int) a w' => ∃ (Fx1 : Frz) (as2 : Option Addr) (ns2 : Nat) (cs2 : Nat), Frz.le F Fx1 ∧ HS F w [] Fx1 [.box b2 56 [.int .i64 s.2.2.1, vs s.2.2.2.1, .int .i64 s.2.2.2.2.1, .int .i64 s.2.2.2.2.2.1, vs s.2.2.2.2.2.2.1, .slice as2 ns2 cs2, .int .i64 s.2.2.2.2.2.2.2.2], .box b1 40 [vs [], .int .i64 0, .int .i64 0, vs [], .slice none 0 0, .int .i64 0]] w' ∧ (SlR rp_Expr Fx1 as2 ns2 cs2 s.2.2.2.2.2.2.2.1) ∧ Has 44 a [(0, .slice as1 ns1 cs1), (1, .int .i64 day1), (4, .pointer (some ⟨b1, 0, none⟩)), (6, .pointer (some ⟨b2, 0, none⟩)), (7, .bool s.1), (8, .int .i64 s.2.1)]) (fun (y : Bool × Int × Bs × Int × Int × Bs × (List Expr) × Int) a w' => ∃ (Fx2 : Frz) (as3 : Option Addr) (ns3 : Nat) (cs3 : Nat), Frz.le F Fx2 ∧ HS F w [] Fx2 [.box b2 56 [.int .i64 y.2.1, vs y.2.2.1, .int .i64 y.2.2.2.1, .int .i64 y.2.2.2.2.1, vs y.2.2.2.2.2.1, .slice as3 ns3 cs3, .int .i64 y.2.2.2.2.2.2.2], .box b1 40 [vs [], .int .i64 0, .int .i64 0, vs [], .slice none 0 0, .int .i64 0]] w' ∧ (SlR rp_Expr Fx2 as3 ns3 cs3 y.2.2.2.2.2.2.1) ∧ Has 44 a [(4, .pointer (some ⟨b1, 0, none⟩)), (6, .pointer (some ⟨b2, 0, none⟩)), (7, .bool y.1)]) (fun _ => rfl) ?_ ?_ hm ⟨_, none, 0, 0, Frz.refl _, hx3.pick [0, 1] (by decide) rfl, SlR.nil _ _, hax5.cut (l := [0, 1, 4, 6, 7, 8]) rfl⟩
 ·clear hm; rintro ⟨found2, f8, f9, f10, f11, f12, f13, f14⟩ a wx4 hm ⟨Fx2, as3, ns3, cs3, hF2, hx5, hs3, hax1⟩
  rw [hkont1] at hm
  replace hm := hm
  refine qw_apply (e := .exit 0) hax1 ?_
  refine q_block_hit (q_then (c_seq (c_region ?_)))
  refine r_fieldAddr fa56_1 rfl rfl rfl ?_
  refine r_loadBA (cs' := [vs f9, .int .i64 f10, .int .i64 f11, vs f12, .slice as3 ns3 cs3, .int .i64 f14]) ag40 sz40 rfl rfl hx5 rfl (i := 0) rfl rfl rfl ?_
  refine r_move rfl rfl rfl ?_
  refine r_store sz40 rfl hx5 rfl rfl rfl rfl (i := 1) rfl rfl rfl rfl ?_
  intro wx5 hx6
  refine r_assign rfl rfl rfl (r_nil (q_then (c_ret ?_)))
  refine b_retA (vl := [.agg #[vs f9, .int .i64 f10, .int .i64 f11, vs f12, .slice as3 ns3 cs3, .int .i64 f14], .bool found2]) rfl ⟨v_cell ag40 sz40 rfl hx6 rfl (i := 1) rfl, v_tmp rfl, trivial⟩ (by simp) ?_
  obtain rfl := Option.some.inj hm
  exact ⟨_, _, _, rfl, hx6.pick [] (by decide) rfl, as3, ns3, cs3, rfl, rfl, hs3⟩
 ·clear hm hkont1; intro hk1 mx1 K ihx1
  rintro ⟨found1, i1, f1, f2, f3, f4, f5, f6, f7⟩ a wx6 hm ⟨Fx1, as2, ns2, cs2, hF1, hx4, hs2, hax2⟩
  simp only [ref40_InForce_L1_s] at hm
  refine cw_apply hax2 ?_
  refine c_seq (c_seq (c_region (r_move rfl rfl rfl (r_move rfl rfl rfl ?_))))
  refine r_lenS hs1.len u26 rfl rfl rfl ?_
  refine r_bin rfl rfl rfl rfl rfl ?_
  refine r_nil (q_then ?_)
  rcases cond_some hm with ⟨hb1, hm⟩ | ⟨hb1, hm⟩
  ·refine c_lit 13 rfl hb1 ?_
   refine c_true rfl (c_skip (q_then (c_seq (c_block (c_seq ?_)))))
   refine c_regionD (by kernel_rfl) (by kernel_rfl) hx4 ?_
   refine q_stp rfl rfl rfl rfl (fun _ _ _ _ => r_move rfl rfl rfl (r_nil (qq rfl))) ?_
   refine q_stp rfl rfl rfl rfl (fun _ _ _ _ => r_move rfl rfl rfl (r_nil (qq rfl))) ?_
   obtain ⟨ex1, he1, hm⟩ := bind_some hm
   obtain ⟨b3, o1, cs1, hf1, hr1, hrun1⟩ := findex_ex (P := Tryz.prog) (r := rp_Version) u26 sz56 (hs1.mono hF1) he1
   obtain ⟨as4, ns4, cs4, hc1, hs4⟩ := hr1
   subst hc1
   refine q_findex rfl rfl rfl rfl hrun1 ?_
   refine q_stp rfl rfl rfl rfl (fun _ _ _ _ => r_fieldAddr fa56_0 rfl rfl rfl (r_nil (qq rfl))) ?_
   refine q_stp rfl rfl rfl rfl (fun _ _ hleq hq => r_loadF1 (j := 0) ag3 rfl rfl hq (hf1.mono hleq) rfl rfl (r_nil (qq rfl))) ?_
   refine q_stp rfl rfl rfl rfl (fun _ _ _ _ => r_move rfl rfl rfl (r_nil (qq rfl))) ?_
   refine q_stp rfl rfl rfl rfl (fun _ _ _ _ => r_bin rfl rfl rfl rfl rfl (r_nil (qq rfl))) ?_
   refine q_stp rfl rfl rfl rfl (fun _ _ _ _ => r_move rfl rfl rfl (r_nil (qq rfl))) ?_
   obtain ⟨v1, hb2, hm⟩ := bind_some hm
   refine q_mid 13 (fun a => Has 44 a [(0, .slice as1 ns1 cs1), (1, .int .i64 day1), (4, .pointer (some ⟨b1, 0, none⟩)), (6, .pointer (some ⟨b2, 0, none⟩)), (7, .bool found1), (8, .int .i64 i1), (36, .bool v1)]) ?_ ?_
   ·intro a hax3
    refine qr_apply hax3 ?_
    refine q_end ?_
    rintro wx8 ⟨Fx3, hF3, hx7⟩
    refine q_then ?_
    rcases cond_some hm with ⟨hb3, hm⟩ | ⟨hb3, hm⟩
    ·refine c_lit 36 rfl hb3 ?_
     refine c_true rfl (c_seq (c_region (r_move rfl rfl rfl (r_move rfl rfl rfl ?_))))
     obtain ⟨ex2, he2, hm⟩ := bind_some hm
     refine r_findex (r := rp_Version) u26 sz56 rfl rfl rfl rfl ((hs1.mono hF1).mono hF3) he2 ?_
     intro b4 o2 cs2 hf2 hr2
     obtain ⟨as5, ns5, cs5, hc2, hs5⟩ := hr2
     subst hc2
     refine r_loadFW ag56 sz56 rfl rfl hx7 hf2 rfl rfl ?_
     refine r_store sz56 rfl hx7 rfl rfl rfl rfl (i := 0) rfl rfl rfl rfl ?_
     intro wx9 hx8
     refine r_nil (q_then (c_region (r_assign rfl rfl rfl (r_nil (q_block (q_then (c_region (r_move rfl rfl rfl ?_))))))))
     refine r_bin rfl rfl rfl rfl rfl ?_
     refine r_assign rfl rfl rfl (r_nil ?_)
     refine q_next (fun a ha => ihx1 (true, (iadd .i64 i1 1), ex2.From, ex2.Tariff.Name, ex2.Tariff.Fee.Op, ex2.Tariff.Fee.N, ex2.Tariff.Fee.Name, ex2.Tariff.Fee.Args, ex2.Tariff.Cap) a _ hm ?_)
     exact ⟨_, as5, ns5, cs5, (hF1.trans hF3), hx8.pick [0, 1] (by decide) rfl, hs5, ha.cut (l := [0, 1, 4, 6, 7, 8]) rfl⟩
    ·refine c_lit 36 rfl hb3 ?_
     refine c_false rfl (c_skip (q_block (q_then (c_region (r_move rfl rfl rfl ?_)))))
     refine r_bin rfl rfl rfl rfl rfl ?_
     refine r_assign rfl rfl rfl (r_nil ?_)
     refine q_next (fun a ha => ihx1 (found1, (iadd .i64 i1 1), f1, f2, f3, f4, f5, f6, f7) a _ hm ?_)
     exact ⟨_, as2, ns2, cs2, (hF1.trans hF3), hx7.pick [0, 1] (by decide) rfl, (hs2.mono hF3), ha.cut (l := [0, 1, 4, 6, 7, 8]) rfl⟩
   ·clear hm
    rcases cond_some hb2 with ⟨hb4, hb2⟩ | ⟨hb4, hb2⟩
    ·refine q_lit 23 rfl hb4 ?_
     refine q_stp rfl rfl rfl rfl (fun _ _ _ _ => r_move rfl rfl rfl (r_nil (qq rfl))) ?_
     refine q_stp rfl rfl rfl rfl (fun _ _ _ _ => r_not rfl rfl rfl (r_nil (qq rfl))) ?_
     refine q_stp rfl rfl rfl rfl (fun _ _ _ _ => r_move rfl rfl rfl (r_nil (qq rfl))) ?_
     obtain ⟨v2, hb5, hb2⟩ := bind_some hb2
     refine q_mid 9 (fun a => Has 44 a [(0, .slice as1 ns1 cs1), (1, .int .i64 day1), (4, .pointer (some ⟨b1, 0, none⟩)), (6, .pointer (some ⟨b2, 0, none⟩)), (7, .bool found1), (8, .int .i64 i1), (23, .bool true), (35, .bool v2)]) ?_ ?_
     ·intro a hax4
      refine qr_apply hax4 ?_
      refine q_stp rfl rfl rfl rfl (fun _ _ _ _ => r_pick_true rfl rfl rfl rfl (r_nil (qq rfl))) ?_
      refine q_nil (fun a ha => ?_)
      cases hb2
      exact ha.cut (l := [0, 1, 4, 6, 7, 8, 36]) rfl
     ·clear hb2
      rcases cond_some hb5 with ⟨hb6, hb5⟩ | ⟨hb6, hb5⟩
      ·refine q_lit 26 rfl hb6 ?_
       refine q_off rfl rfl rfl (q_off rfl rfl rfl (q_off rfl rfl rfl (q_off rfl rfl rfl (q_off rfl rfl rfl (q_off rfl rfl rfl (q_off rfl rfl rfl (q_off rfl rfl rfl ?_)))))))
       refine q_stp rfl rfl rfl rfl (fun _ _ _ _ => r_pick_true rfl rfl rfl rfl (r_nil (qq rfl))) ?_
       refine q_nil (fun a ha => ?_)
       cases hb5
       exact ha.cut (l := [0, 1, 4, 6, 7, 8, 23, 35]) rfl
      ·refine q_lit 26 rfl hb6 ?_
       refine q_stp rfl rfl rfl rfl (fun _ _ _ _ => r_move rfl rfl rfl (r_nil (qq rfl))) ?_
       refine q_stp rfl rfl rfl rfl (fun _ _ _ _ => r_move rfl rfl rfl (r_nil (qq rfl))) ?_
       obtain ⟨ex3, he3, hb5⟩ := bind_some hb5
       obtain ⟨b5, o3, cs3, hf3, hr3, hrun2⟩ := findex_ex (P := Tryz.prog) (r := rp_Version) u26 sz56 (hs1.mono hF1) he3
       obtain ⟨as6, ns6, cs6, hc3, hs6⟩ := hr3
       subst hc3
       refine q_findex rfl rfl rfl rfl hrun2 ?_
       refine q_stp rfl rfl rfl rfl (fun _ _ _ _ => r_fieldAddr fa56_0 rfl rfl rfl (r_nil (qq rfl))) ?_
       refine q_stp rfl rfl rfl rfl (fun _ _ hleq hq => r_loadF1 (j := 0) ag3 rfl rfl hq (hf3.mono hleq) rfl rfl (r_nil (qq rfl))) ?_
       refine q_stp rfl rfl rfl rfl (fun _ _ _ _ => r_fieldAddr fa56_0 rfl rfl rfl (r_nil (qq rfl))) ?_
       refine q_stp rfl rfl rfl rfl (fun _ _ _ hq => r_loadB1 ag3 rfl rfl hq rfl (i := 0) rfl rfl (r_nil (qq rfl))) ?_
       refine q_stp rfl rfl rfl rfl (fun _ _ _ _ => r_bin rfl rfl rfl rfl rfl (r_nil (qq rfl))) ?_
       refine q_stp rfl rfl rfl rfl (fun _ _ _ _ => r_pick_false rfl rfl rfl rfl (r_nil (qq rfl))) ?_
       refine q_nil (fun a ha => ?_)
       cases hb5
       exact ha.cut (l := [0, 1, 4, 6, 7, 8, 23, 35]) rfl
    ·refine q_lit 23 rfl hb4 ?_
     refine q_off rfl rfl rfl (q_off rfl rfl rfl (q_off rfl rfl rfl (q_off rfl rfl rfl (q_off rfl rfl rfl (q_off rfl rfl rfl (q_off rfl rfl rfl (q_off rfl rfl rfl (q_off rfl rfl rfl (q_off rfl rfl rfl (q_off rfl rfl rfl (q_off rfl rfl rfl ?_)))))))))))
     refine q_stp rfl rfl rfl rfl (fun _ _ _ _ => r_pick_false rfl rfl rfl rfl (r_nil (qq rfl))) ?_
     refine q_nil (fun a ha => ?_)
     cases hb2
     exact ha.cut (l := [0, 1, 4, 6, 7, 8, 36]) rfl
  ·refine c_lit 13 rfl hb1 ?_
   refine c_false rfl (c_exit (q_then_exit (q_then_exit ?_)))
   refine fun a ha => hk1 (found1, f1, f2, f3, f4, f5, f6, f7) a _ hm ?_
   exact ⟨_, as2, ns2, cs2, hF1, hx4.pick [0, 1] (by decide) rfl, hs2, ha.cut (l := [4, 6, 7]) rfl⟩
theorem ent15 : Ent Tryz.prog 15 := fun _ _ => by kernel_rfl
def ref40_SameVersions_L1 (n : Nat) (ax1 : (List Version)) (b1 : (List Version)) (kont1 : Option Bool) : Nat → Int → Option Bool
 | 0, _ => none
 | mx1 + 1, i1 =>
  bif decide (i1 < (ax1.length : Int)) then
   (ix ax1 i1).bind fun ex1 =>
   (ix b1 i1).bind fun ex2 =>
   (bif ex1.From != ex2.From then
    some true
   else
    (ix ax1 i1).bind fun ex3 =>
    (ix b1 i1).bind fun ex4 =>
    (ref35_SameTariff n ex3.Tariff ex4.Tariff).bind fun v2 =>
    some (!v2)).bind fun v1 =>
   bif v1 then
    some false
   else
    ref40_SameVersions_L1 n ax1 b1 kont1 mx1 (iadd .i64 i1 1)
  else
   kont1
theorem ref40_SameVersions_L1_s (n : Nat) (ax1 : (List Version)) (b1 : (List Version)) (kont1 : Option Bool) (mx1 : Nat) (i1 : Int) : ref40_SameVersions_L1 n ax1 b1 kont1 (mx1 + 1) i1 =
  bif decide (i1 < (ax1.length : Int)) then
   (ix ax1 i1).bind fun ex1 =>
   (ix b1 i1).bind fun ex2 =>
   (bif ex1.From != ex2.From then
    some true
   else
    (ix ax1 i1).bind fun ex3 =>
    (ix b1 i1).bind fun ex4 =>
    (ref35_SameTariff n ex3.Tariff ex4.Tariff).bind fun v2 =>
    some (!v2)).bind fun v1 =>
   bif v1 then
    some false
   else
    ref40_SameVersions_L1 n ax1 b1 kont1 mx1 (iadd .i64 i1 1)
  else
   kont1 := rfl
def ref40_SameVersions (n : Nat) (ax1 : (List Version)) (b1 : (List Version)) : Option Bool :=
 bif (ax1.length : Int) != (b1.length : Int) then
  some false
 else
  ref40_SameVersions_L1 n ax1 b1 (
   some true) n 0
set_option maxHeartbeats 1000000 in
set_option maxRecDepth 1000000 in
theorem ref40_SameVersions_ok (n : Nat) (ax1 : (List Version)) (b1 : (List Version)) (r : Bool) (hm : ref40_SameVersions n ax1 b1 = some r) {w : World} {F : Frz} (hs : Sat F w) {as1 : Option Addr} {ns1 : Nat} {cs1 : Nat} {as2 : Option Addr} {ns2 : Nat} {cs2 : Nat} (hs1 : SlR rp_Version F as1 ns1 cs1 ax1) (hs2 : SlR rp_Version F as2 ns2 cs2 b1) :
  Calls Tryz.prog 13 #[.slice as1 ns1 cs1, .slice as2 ns2 cs2] w fun e w' => ∃ v F' O', e = .returned v ∧ HS F w [] F' O' w' ∧ (v = .bool r ∧ O' = []) := by
 unfold ref40_SameVersions at hm
 have h := HS.init hs
 refine calls_of 42 Tryz.func13 rfl rfl rfl ?_
 refine c_seq (c_region (r_assign rfl rfl rfl (r_nil (q_then (c_seq (c_seq (c_region (r_move rfl rfl rfl ?_))))))))
 refine r_lenS hs1.len u26 rfl rfl rfl ?_
 refine r_move rfl rfl rfl ?_
 refine r_lenS hs2.len u26 rfl rfl rfl ?_
 refine r_bin rfl rfl rfl rfl rfl ?_
 refine r_nil (q_then ?_)
 rcases cond_some hm with ⟨hb1, hm⟩ | ⟨hb1, hm⟩
 ·refine c_lit 10 rfl hb1 ?_
  refine c_true rfl (c_seq (c_region (r_assign rfl rfl rfl (r_nil (q_then (c_ret (q_then_ret ?_)))))))
  refine b_ret1 rfl rfl ?_
  obtain rfl := Option.some.inj hm
  exact ⟨_, _, _, rfl, h.pick [] (by decide) rfl, rfl, rfl⟩
 ·refine c_lit 10 rfl hb1 ?_
  refine c_false rfl (c_skip (q_then (c_seq (c_seq (c_region (r_assign rfl rfl rfl (r_nil (q_then (c_block ?_)))))))))
  intro a hax4
  obtain ⟨kont1, hkont1⟩ : ∃ kont1 : Option Bool, kont1 = (
       some true) := ⟨_, rfl⟩
  replace hm : (fun m (s : Int) => ref40_SameVersions_L1 n ax1 b1 kont1 m s) n 0 = some r := by rw [hkont1]; exact hm
  refine loopX (id := 0) (fun m (s : Int) => ref40_SameVersions_L1 n ax1 b1 kont1 m s) (fun (y : Unit) => kont1) r (fun (s : Int) a w' => ∃ (Fx1 : Frz), Frz.le F Fx1 ∧ HS F w [] Fx1 [] w' ∧ Has 42 a [(0, .slice as1 ns1 cs1), (1, .slice as2 ns2 cs2), (5, .int .i64 s)]) (fun (y : Unit) a w' => ∃ (Fx2 : Frz), Frz.le F Fx2 ∧ HS F w [] Fx2 [] w' ∧ Has 42 a []) (fun _ => rfl) ?_ ?_ hm ⟨_, Frz.refl _, h.pick [] (by decide) rfl, hax4.cut (l := [0, 1, 5]) rfl⟩
  ·clear hm; rintro _u a wx1 hm ⟨Fx2, hF2, hx2, hax1⟩
   rw [hkont1] at hm
   refine qw_apply (e := .exit 0) hax1 ?_
   refine q_block_hit (q_then (c_seq (c_region (r_assign rfl rfl rfl (r_nil (q_then (c_ret ?_)))))))
   refine b_ret1 rfl rfl ?_
   obtain rfl := Option.some.inj hm
   exact ⟨_, _, _, rfl, hx2.pick [] (by decide) rfl, rfl, rfl⟩
  ·clear hm hkont1; intro hk1 mx1 K ihx1
   rintro i1 a wx2 hm ⟨Fx1, hF1, hx1, hax2⟩
   simp only [ref40_SameVersions_L1_s] at hm
   refine cw_apply hax2 ?_
   refine c_seq (c_seq (c_region (r_move rfl rfl rfl (r_move rfl rfl rfl ?_))))
   refine r_lenS hs1.len u26 rfl rfl rfl ?_
   refine r_bin rfl rfl rfl rfl rfl ?_
   refine r_nil (q_then ?_)
   rcases cond_some hm with ⟨hb2, hm⟩ | ⟨hb2, hm⟩
   ·refine c_lit 14 rfl hb2 ?_
    refine c_true rfl (c_skip (q_then (c_seq (c_block (c_seq ?_)))))
    refine c_regionD (by kernel_rfl) (by kernel_rfl) hx1 ?_
    refine q_stp rfl rfl rfl rfl (fun _ _ _ _ => r_move rfl rfl rfl (r_nil (qq rfl))) ?_
    refine q_stp rfl rfl rfl rfl (fun _ _ _ _ => r_move rfl rfl rfl (r_nil (qq rfl))) ?_
    obtain ⟨ex1, he1, hm⟩ := bind_some hm
    obtain ⟨b2, o1, cs1, hf1, hr1, hrun1⟩ := findex_ex (P := Tryz.prog) (r := rp_Version) u26 sz56 (hs1.mono hF1) he1
    obtain ⟨as3, ns3, cs3, hc1, hs3⟩ := hr1
    subst hc1
    refine q_findex rfl rfl rfl rfl hrun1 ?_
    refine q_stp rfl rfl rfl rfl (fun _ _ _ _ => r_fieldAddr fa56_0 rfl rfl rfl (r_nil (qq rfl))) ?_
    refine q_stp rfl rfl rfl rfl (fun _ _ hleq hq => r_loadF1 (j := 0) ag3 rfl rfl hq (hf1.mono hleq) rfl rfl (r_nil (qq rfl))) ?_
    refine q_stp rfl rfl rfl rfl (fun _ _ _ _ => r_move rfl rfl rfl (r_nil (qq rfl))) ?_
    refine q_stp rfl rfl rfl rfl (fun _ _ _ _ => r_move rfl rfl rfl (r_nil (qq rfl))) ?_
    obtain ⟨ex2, he2, hm⟩ := bind_some hm
    obtain ⟨b3, o2, cs2, hf2, hr2, hrun2⟩ := findex_ex (P := Tryz.prog) (r := rp_Version) u26 sz56 (hs2.mono hF1) he2
    obtain ⟨as4, ns4, cs4, hc2, hs4⟩ := hr2
    subst hc2
    refine q_findex rfl rfl rfl rfl hrun2 ?_
    refine q_stp rfl rfl rfl rfl (fun _ _ _ _ => r_fieldAddr fa56_0 rfl rfl rfl (r_nil (qq rfl))) ?_
    refine q_stp rfl rfl rfl rfl (fun _ _ hleq hq => r_loadF1 (j := 0) ag3 rfl rfl hq (hf2.mono hleq) rfl rfl (r_nil (qq rfl))) ?_
    refine q_stp rfl rfl rfl rfl (fun _ _ _ _ => r_bin rfl rfl rfl rfl rfl (r_nil (qq rfl))) ?_
    refine q_stp rfl rfl rfl rfl (fun _ _ _ _ => r_move rfl rfl rfl (r_nil (qq rfl))) ?_
    obtain ⟨v1, hb3, hm⟩ := bind_some hm
    refine q_mid 13 (fun a => Has 42 a [(0, .slice as1 ns1 cs1), (1, .slice as2 ns2 cs2), (5, .int .i64 i1), (41, .bool v1)]) ?_ ?_
    ·intro a hax3
     refine qr_apply hax3 ?_
     refine q_end ?_
     rintro wx4 ⟨Fx3, hF3, hx3⟩
     refine q_then ?_
     rcases cond_some hm with ⟨hb4, hm⟩ | ⟨hb4, hm⟩
     ·refine c_lit 41 rfl hb4 ?_
      refine c_true rfl (c_seq (c_region (r_assign rfl rfl rfl (r_nil (q_then (c_ret (q_block_ret (q_then_ret (q_then_ret (q_block_ret (q_then_ret ?_)))))))))))
      refine b_ret1 rfl rfl ?_
      obtain rfl := Option.some.inj hm
      exact ⟨_, _, _, rfl, hx3.pick [] (by decide) rfl, rfl, rfl⟩
     ·refine c_lit 41 rfl hb4 ?_
      refine c_false rfl (c_skip (q_block (q_then (c_region (r_move rfl rfl rfl ?_)))))
      refine r_bin rfl rfl rfl rfl rfl ?_
      refine r_assign rfl rfl rfl (r_nil ?_)
      refine q_next (fun a ha => ihx1 (iadd .i64 i1 1) a _ hm ?_)
      exact ⟨_, (hF1.trans hF3), hx3.pick [] (by decide) rfl, ha.cut (l := [0, 1, 5]) rfl⟩
    ·clear hm
     rcases cond_some hb3 with ⟨hb5, hb3⟩ | ⟨hb5, hb3⟩
     ·refine q_lit 28 rfl hb5 ?_
      refine q_off rfl rfl rfl (q_off rfl rfl rfl (q_off rfl rfl rfl (q_off rfl rfl rfl (q_off rfl rfl rfl (q_off rfl rfl rfl (q_off rfl rfl rfl (q_off rfl rfl rfl (q_off rfl rfl rfl (q_off rfl rfl rfl (q_off rfl rfl rfl (q_off rfl rfl rfl ?_)))))))))))
      refine q_stp rfl rfl rfl rfl (fun _ _ _ _ => r_pick_true rfl rfl rfl rfl (r_nil (qq rfl))) ?_
      refine q_nil (fun a ha => ?_)
      cases hb3
      exact ha.cut (l := [0, 1, 5, 41]) rfl
     ·refine q_lit 28 rfl hb5 ?_
      refine q_stp rfl rfl rfl rfl (fun _ _ _ _ => r_move rfl rfl rfl (r_nil (qq rfl))) ?_
      refine q_stp rfl rfl rfl rfl (fun _ _ _ _ => r_move rfl rfl rfl (r_nil (qq rfl))) ?_
      obtain ⟨ex3, he3, hb3⟩ := bind_some hb3
      obtain ⟨b4, o3, cs3, hf3, hr3, hrun3⟩ := findex_ex (P := Tryz.prog) (r := rp_Version) u26 sz56 (hs1.mono hF1) he3
      obtain ⟨as5, ns5, cs5, hc3, hs5⟩ := hr3
      subst hc3
      refine q_findex rfl rfl rfl rfl hrun3 ?_
      refine q_stp rfl rfl rfl rfl (fun _ _ _ _ => r_fieldAddr fa56_1 rfl rfl rfl (r_nil (qq rfl))) ?_
      refine q_stp rfl rfl rfl rfl (fun _ _ hleq hq => r_loadFA (j := 1) (cs' := [vs ex3.Tariff.Name, .int .i64 ex3.Tariff.Fee.Op, .int .i64 ex3.Tariff.Fee.N, vs ex3.Tariff.Fee.Name, .slice as5 ns5 cs5, .int .i64 ex3.Tariff.Cap]) ag40 sz40 rfl rfl hq (hf3.mono hleq) rfl rfl rfl (r_nil (qq rfl))) ?_
      refine q_stp rfl rfl rfl rfl (fun _ _ _ _ => r_move rfl rfl rfl (r_nil (qq rfl))) ?_
      refine q_stp rfl rfl rfl rfl (fun _ _ _ _ => r_move rfl rfl rfl (r_nil (qq rfl))) ?_
      obtain ⟨ex4, he4, hb3⟩ := bind_some hb3
      obtain ⟨b5, o4, cs4, hf4, hr4, hrun4⟩ := findex_ex (P := Tryz.prog) (r := rp_Version) u26 sz56 (hs2.mono hF1) he4
      obtain ⟨as6, ns6, cs6, hc4, hs6⟩ := hr4
      subst hc4
      refine q_findex rfl rfl rfl rfl hrun4 ?_
      refine q_stp rfl rfl rfl rfl (fun _ _ _ _ => r_fieldAddr fa56_1 rfl rfl rfl (r_nil (qq rfl))) ?_
      refine q_stp rfl rfl rfl rfl (fun _ _ hleq hq => r_loadFA (j := 1) (cs' := [vs ex4.Tariff.Name, .int .i64 ex4.Tariff.Fee.Op, .int .i64 ex4.Tariff.Fee.N, vs ex4.Tariff.Fee.Name, .slice as6 ns6 cs6, .int .i64 ex4.Tariff.Cap]) ag40 sz40 rfl rfl hq (hf4.mono hleq) rfl rfl rfl (r_nil (qq rfl))) ?_
      obtain ⟨v2, hv1, hb3⟩ := bind_some hb3
      refine q_callG0 ent15 rfl rfl rfl rfl (fun _ _ hleq hq => ref35_SameTariff_ok _ _ _ _ hv1 hq.sat (hs5.mono hleq) (hs6.mono hleq)) ?_
      refine q_stp rfl rfl rfl rfl (fun _ _ _ _ => r_not rfl rfl rfl (r_nil (qq rfl))) ?_
      refine q_stp rfl rfl rfl rfl (fun _ _ _ _ => r_pick_false rfl rfl rfl rfl (r_nil (qq rfl))) ?_
      refine q_nil (fun a ha => ?_)
      cases hb3
      exact ha.cut (l := [0, 1, 5, 41]) rfl
   ·refine c_lit 14 rfl hb2 ?_
    refine c_false rfl (c_exit (q_then_exit (q_then_exit ?_)))
    refine fun a ha => hk1 () a _ hm ?_
    exact ⟨_, hF1, hx1.pick [] (by decide) rfl, ha.cut (l := []) rfl⟩
def ref40_FewVersions_L1 (n : Nat) (l1 : (List Version)) (kont1 : Option Bool) : Nat → Int → Option Bool
 | 0, _ => none
 | mx1 + 1, i1 =>
  (bif decide (i1 < (l1.length : Int)) then
   some (decide (i1 < 12))
  else
   some false).bind fun v1 =>
  bif v1 then
   (ix l1 i1).bind fun ex1 =>
   (ref35_Few n ex1.Tariff.Fee 100 12).bind fun v2 =>
   bif !v2 then
    some false
   else
    ref40_FewVersions_L1 n l1 kont1 mx1 (iadd .i64 i1 1)
  else
   kont1
theorem ref40_FewVersions_L1_s (n : Nat) (l1 : (List Version)) (kont1 : Option Bool) (mx1 : Nat) (i1 : Int) : ref40_FewVersions_L1 n l1 kont1 (mx1 + 1) i1 =
  (bif decide (i1 < (l1.length : Int)) then
   some (decide (i1 < 12))
  else
   some false).bind fun v1 =>
  bif v1 then
   (ix l1 i1).bind fun ex1 =>
   (ref35_Few n ex1.Tariff.Fee 100 12).bind fun v2 =>
   bif !v2 then
    some false
   else
    ref40_FewVersions_L1 n l1 kont1 mx1 (iadd .i64 i1 1)
  else
   kont1 := rfl
def ref40_FewVersions (n : Nat) (l1 : (List Version)) : Option Bool :=
 ref40_FewVersions_L1 n l1 (
  some (decide ((l1.length : Int) ≤ 10))) n 0
set_option maxHeartbeats 1000000 in
set_option maxRecDepth 1000000 in
theorem ref40_FewVersions_ok (n : Nat) (l1 : (List Version)) (r : Bool) (hm : ref40_FewVersions n l1 = some r) {w : World} {F : Frz} (hs : Sat F w) {as1 : Option Addr} {ns1 : Nat} {cs1 : Nat} (hs1 : SlR rp_Version F as1 ns1 cs1 l1) :
  Calls Tryz.prog 6 #[.slice as1 ns1 cs1] w fun e w' => ∃ v F' O', e = .returned v ∧ HS F w [] F' O' w' ∧ (v = .bool r ∧ O' = []) := by
 unfold ref40_FewVersions at hm
 have h := HS.init hs
 refine calls_of 25 Tryz.func6 rfl rfl rfl ?_
 refine c_seq (c_region (r_assign rfl rfl rfl (r_nil (q_then (c_seq (c_seq (c_region (r_assign rfl rfl rfl (r_nil (q_then (c_block ?_)))))))))))
 intro a hax4
 obtain ⟨kont1, hkont1⟩ : ∃ kont1 : Option Bool, kont1 = (
       some (decide ((l1.length : Int) ≤ 10))) := ⟨_, rfl⟩
 replace hm : (fun m (s : Int) => ref40_FewVersions_L1 n l1 kont1 m s) n 0 = some r := by rw [hkont1]; exact hm
 refine loopX (id := 0) (fun m (s : Int) => ref40_FewVersions_L1 n l1 kont1 m s) (fun (y : Unit) => kont1) r (fun (s : Int) a w' => ∃ (Fx1 : Frz), Frz.le F Fx1 ∧ HS F w [] Fx1 [] w' ∧ Has 25 a [(0, .slice as1 ns1 cs1), (3, .int .i64 s)]) (fun (y : Unit) a w' => ∃ (Fx2 : Frz), Frz.le F Fx2 ∧ HS F w [] Fx2 [] w' ∧ Has 25 a [(0, .slice as1 ns1 cs1)]) (fun _ => rfl) ?_ ?_ hm ⟨_, Frz.refl _, h.pick [] (by decide) rfl, hax4.cut (l := [0, 3]) rfl⟩
 ·clear hm; rintro _u a wx1 hm ⟨Fx2, hF2, hx2, hax1⟩
  rw [hkont1] at hm
  refine qw_apply (e := .exit 0) hax1 ?_
  refine q_block_hit (q_then (c_seq (c_region (r_move rfl rfl rfl ?_))))
  refine r_lenS hs1.len u26 rfl rfl rfl ?_
  refine r_bin rfl rfl rfl rfl rfl ?_
  refine r_assign rfl rfl rfl (r_nil (q_then (c_ret ?_)))
  refine b_ret1 rfl rfl ?_
  obtain rfl := Option.some.inj hm
  exact ⟨_, _, _, rfl, hx2.pick [] (by decide) rfl, rfl, rfl⟩
 ·clear hm hkont1; intro hk1 mx1 K ihx1
  rintro i1 a wx2 hm ⟨Fx1, hF1, hx1, hax2⟩
  simp only [ref40_FewVersions_L1_s] at hm
  refine cw_apply hax2 ?_
  refine c_seq (c_seq (c_region (r_move rfl rfl rfl (r_move rfl rfl rfl ?_))))
  refine r_lenS hs1.len u26 rfl rfl rfl ?_
  refine r_bin rfl rfl rfl rfl rfl ?_
  refine r_move rfl rfl rfl ?_
  obtain ⟨v1, hb1, hm⟩ := bind_some hm
  refine r_mid 3 (fun a w' => wx2 = w' ∧ Has 25 a [(0, .slice as1 ns1 cs1), (3, .int .i64 i1), (11, .bool v1)]) ?_ ?_
  ·rintro a wx3 ⟨rfl, hax3⟩
   refine rw_apply hax3 ?_
   refine r_nil (q_then ?_)
   rcases cond_some hm with ⟨hb2, hm⟩ | ⟨hb2, hm⟩
   ·refine c_lit 11 rfl hb2 ?_
    refine c_true rfl (c_skip (q_then (c_seq (c_block (c_seq (c_region (r_move rfl rfl rfl (r_move rfl rfl rfl ?_))))))))
    obtain ⟨ex1, he1, hm⟩ := bind_some hm
    refine r_findex (r := rp_Version) u26 sz56 rfl rfl rfl rfl (hs1.mono hF1) he1 ?_
    intro b1 o1 cs1 hf1 hr1
    obtain ⟨as2, ns2, cs2, hc1, hs2⟩ := hr1
    subst hc1
    refine r_fieldAddr fa56_1 rfl rfl rfl ?_
    refine r_fieldAddr fa40_1 rfl rfl rfl ?_
    refine r_loadFA (j := 2) (cs' := [.int .i64 ex1.Tariff.Fee.Op, .int .i64 ex1.Tariff.Fee.N, vs ex1.Tariff.Fee.Name, .slice as2 ns2 cs2]) ag38 sz38 rfl rfl hx1 hf1 rfl rfl rfl ?_
    obtain ⟨v2, hv1, hm⟩ := bind_some hm
    refine r_callG0 ent21 rfl rfl rfl rfl hx1 (ref35_Few_ok _ _ _ _ _ hv1 hx1.sat hs2) ?_
    rintro _ Fx3 _ wx4 hF3 hx3 ⟨rfl, rfl⟩
    refine r_not rfl rfl rfl (r_nil (q_then ?_))
    rcases cond_some hm with ⟨hb3, hm⟩ | ⟨hb3, hm⟩
    ·refine c_lit 21 rfl hb3 ?_
     refine c_true rfl (c_seq (c_region (r_assign rfl rfl rfl (r_nil (q_then (c_ret (q_block_ret (q_then_ret (q_then_ret (q_block_ret (q_then_ret ?_)))))))))))
     refine b_ret1 rfl rfl ?_
     obtain rfl := Option.some.inj hm
     exact ⟨_, _, _, rfl, hx3.pick [] (by decide) rfl, rfl, rfl⟩
    ·refine c_lit 21 rfl hb3 ?_
     refine c_false rfl (c_skip (q_block (q_then (c_region (r_move rfl rfl rfl ?_)))))
     refine r_bin rfl rfl rfl rfl rfl ?_
     refine r_assign rfl rfl rfl (r_nil ?_)
     refine q_next (fun a ha => ihx1 (iadd .i64 i1 1) a _ hm ?_)
     exact ⟨_, (hF1.trans hF3), hx3.pick [] (by decide) rfl, ha.cut (l := [0, 3]) rfl⟩
   ·refine c_lit 11 rfl hb2 ?_
    refine c_false rfl (c_exit (q_then_exit (q_then_exit ?_)))
    refine fun a ha => hk1 () a _ hm ?_
    exact ⟨_, hF1, hx1.pick [] (by decide) rfl, ha.cut (l := [0]) rfl⟩
  ·clear hm
   rcases cond_some hb1 with ⟨hb4, hb1⟩ | ⟨hb4, hb1⟩
   ·refine r_lit 8 rfl hb4 ?_
    refine r_move rfl rfl rfl ?_
    refine r_bin rfl rfl rfl rfl rfl ?_
    refine r_pick_true rfl rfl rfl rfl (r_nil ?_)
    refine q_next (fun a ha => ?_)
    cases hb1
    exact ⟨rfl, ha.cut (l := [0, 3, 11]) rfl⟩
   ·refine r_lit 8 rfl hb4 ?_
    refine r_off rfl (by decide) rfl (r_off rfl (by decide) rfl (r_pick_false rfl rfl rfl rfl (r_nil ?_)))
    refine q_next (fun a ha => ?_)
    cases hb1
    exact ⟨rfl, ha.cut (l := [0, 3, 11]) rfl⟩
end Go.Proofs.YtibkigpmkkkaeaaGreatDoor.M
