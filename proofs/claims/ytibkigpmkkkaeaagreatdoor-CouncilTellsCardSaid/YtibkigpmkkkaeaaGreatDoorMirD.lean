/-
  THE MIRRORS of the council's functions, of the tariff's and the lexer's, of the references and the laws, and that each call returns what its mirror says. Printed by gen.py.
-/
import Derived.Test.YtibkigpmkkkaeaaGreatDoorRows
import Derived.Test.YtibkigpmkkkaeaaGreatDoorRtH
import Derived.Test.YtibkigpmkkkaeaaGreatDoorExpr
import Derived.Test.YtibkigpmkkkaeaaGreatDoorMirC
namespace Go.Proofs.YtibkigpmkkkaeaaGreatDoor.M
open Go Go.RowKit Rt
def ref40_in (_n : Nat) (nx1 : Int) (low1 : Int) (high1 : Int) : Option Bool :=
 (bif decide (low1 ≤ nx1) then
  some (decide (nx1 ≤ high1))
 else
  some false).bind fun v1 =>
 some v1
set_option maxHeartbeats 1000000 in
set_option maxRecDepth 1000000 in
theorem ref40_in_ok (n : Nat) (nx1 : Int) (low1 : Int) (high1 : Int) (r : Bool) (hm : ref40_in n nx1 low1 high1 = some r) {w : World}  :
  Calls Tryz.prog 27 #[.int .i64 nx1, .int .i64 low1, .int .i64 high1] w fun e w' => e = .returned (.bool r) ∧ w' = w := by
 unfold ref40_in at hm
 refine calls_of 15 Tryz.func27 rfl rfl rfl ?_
 refine c_seq (c_region (r_assign rfl rfl rfl (r_nil (q_then (c_seq (c_region (r_move rfl rfl rfl (r_move rfl rfl rfl ?_))))))))
 refine r_bin rfl rfl rfl rfl rfl ?_
 refine r_move rfl rfl rfl ?_
 obtain ⟨v1, hb1, hm⟩ := bind_some hm
 refine r_mid 4 (fun a w' => w = w' ∧ Has 15 a [(14, .bool v1)]) ?_ ?_
 ·rintro a wx1 ⟨rfl, hax1⟩
  refine rw_apply hax1 ?_
  refine r_assign rfl rfl rfl (r_nil (q_then (c_ret ?_)))
  refine b_ret1 rfl rfl ?_
  obtain rfl := Option.some.inj hm
  exact ⟨rfl, rfl⟩
 ·clear hm
  rcases cond_some hb1 with ⟨hb2, hb1⟩ | ⟨hb2, hb1⟩
  ·refine r_lit 10 rfl hb2 ?_
   refine r_move rfl rfl rfl (r_move rfl rfl rfl ?_)
   refine r_bin rfl rfl rfl rfl rfl ?_
   refine r_pick_true rfl rfl rfl rfl (r_nil ?_)
   refine q_next (fun a ha => ?_)
   cases hb1
   exact ⟨rfl, ha.cut (l := [14]) rfl⟩
  ·refine r_lit 10 rfl hb2 ?_
   refine r_off rfl (by decide) rfl (r_off rfl (by decide) rfl (r_off rfl (by decide) rfl (r_pick_false rfl rfl rfl rfl (r_nil ?_))))
   refine q_next (fun a ha => ?_)
   cases hb1
   exact ⟨rfl, ha.cut (l := [14]) rfl⟩
theorem u24 : Tryz.prog.underlying 24 = some (.slice 3) := by kernel_rfl
theorem ent27 : Ent Tryz.prog 27 := fun _ _ => by kernel_rfl
def ref40_Weights_L1 (n : Nat) (l1 : (List Int)) (kont1 : Option Bool) : Nat → Int → Option Bool
 | 0, _ => none
 | mx1 + 1, i1 =>
  bif decide (i1 < (l1.length : Int)) then
   (ix l1 i1).bind fun ex1 =>
   (ref40_in n ex1 1 1000).bind fun v1 =>
   bif !v1 then
    some false
   else
    ref40_Weights_L1 n l1 kont1 mx1 (iadd .i64 i1 1)
  else
   kont1
theorem ref40_Weights_L1_s (n : Nat) (l1 : (List Int)) (kont1 : Option Bool) (mx1 : Nat) (i1 : Int) : ref40_Weights_L1 n l1 kont1 (mx1 + 1) i1 =
  bif decide (i1 < (l1.length : Int)) then
   (ix l1 i1).bind fun ex1 =>
   (ref40_in n ex1 1 1000).bind fun v1 =>
   bif !v1 then
    some false
   else
    ref40_Weights_L1 n l1 kont1 mx1 (iadd .i64 i1 1)
  else
   kont1 := rfl
def ref40_Weights (n : Nat) (l1 : (List Int)) : Option Bool :=
 ref40_Weights_L1 n l1 (
  some (decide ((l1.length : Int) ≤ 20))) n 0
set_option maxHeartbeats 1000000 in
set_option maxRecDepth 1000000 in
theorem ref40_Weights_ok (n : Nat) (l1 : (List Int)) (r : Bool) (hm : ref40_Weights n l1 = some r) {w : World} {F : Frz} (hs : Sat F w) {as1 : Option Addr} {ns1 : Nat} {cs1 : Nat} (hs1 : SlR (Rp.int .i64) F as1 ns1 cs1 l1) :
  Calls Tryz.prog 26 #[.slice as1 ns1 cs1] w fun e w' => e = .returned (.bool r) ∧ w' = w := by
 unfold ref40_Weights at hm
 have h := HS.init hs
 refine calls_of 19 Tryz.func26 rfl rfl rfl ?_
 refine c_seq (c_region (r_assign rfl rfl rfl (r_nil (q_then (c_seq (c_seq (c_region (r_assign rfl rfl rfl (r_nil (q_then (c_block ?_)))))))))))
 intro a hax3
 obtain ⟨kont1, hkont1⟩ : ∃ kont1 : Option Bool, kont1 = (
       some (decide ((l1.length : Int) ≤ 20))) := ⟨_, rfl⟩
 replace hm : (fun m (s : Int) => ref40_Weights_L1 n l1 kont1 m s) n 0 = some r := by rw [hkont1]; exact hm
 refine loopX (id := 0) (fun m (s : Int) => ref40_Weights_L1 n l1 kont1 m s) (fun (y : Unit) => kont1) r (fun (s : Int) a w' => w = w' ∧ Has 19 a [(0, .slice as1 ns1 cs1), (3, .int .i64 s)]) (fun (y : Unit) a w' => w = w' ∧ Has 19 a [(0, .slice as1 ns1 cs1)]) (fun _ => rfl) ?_ ?_ hm ⟨rfl, hax3.cut (l := [0, 3]) rfl⟩
 ·clear hm; rintro _u a wx1 hm ⟨rfl, hax1⟩
  rw [hkont1] at hm
  refine qw_apply (e := .exit 0) hax1 ?_
  refine q_block_hit (q_then (c_seq (c_region (r_move rfl rfl rfl ?_))))
  refine r_lenS hs1.len u24 rfl rfl rfl ?_
  refine r_bin rfl rfl rfl rfl rfl ?_
  refine r_assign rfl rfl rfl (r_nil (q_then (c_ret ?_)))
  refine b_ret1 rfl rfl ?_
  obtain rfl := Option.some.inj hm
  exact ⟨rfl, rfl⟩
 ·clear hm hkont1; intro hk1 mx1 K ihx1
  rintro i1 a wx2 hm ⟨rfl, hax2⟩
  simp only [ref40_Weights_L1_s] at hm
  refine cw_apply hax2 ?_
  refine c_seq (c_seq (c_region (r_move rfl rfl rfl (r_move rfl rfl rfl ?_))))
  refine r_lenS hs1.len u24 rfl rfl rfl ?_
  refine r_bin rfl rfl rfl rfl rfl ?_
  refine r_nil (q_then ?_)
  rcases cond_some hm with ⟨hb1, hm⟩ | ⟨hb1, hm⟩
  ·refine c_lit 7 rfl hb1 ?_
   refine c_true rfl (c_skip (q_then (c_seq (c_block (c_seq (c_region (r_move rfl rfl rfl (r_move rfl rfl rfl ?_))))))))
   obtain ⟨ex1, he1, hm⟩ := bind_some hm
   refine r_findex (r := (Rp.int .i64)) u24 sz3 rfl rfl rfl rfl hs1 he1 ?_
   intro b1 o1 cs1 hf1 hr1
   have hc1 : cs1 = [.int .i64 ex1] := hr1
   subst hc1
   refine r_loadF1 (j := 0) ag3 rfl rfl h hf1 rfl rfl ?_
   obtain ⟨v1, hv1, hm⟩ := bind_some hm
   refine r_callP0 ent27 rfl rfl rfl rfl (ref40_in_ok _ _ _ _ _ hv1) ?_
   refine r_not rfl rfl rfl (r_nil (q_then ?_))
   rcases cond_some hm with ⟨hb2, hm⟩ | ⟨hb2, hm⟩
   ·refine c_lit 15 rfl hb2 ?_
    refine c_true rfl (c_seq (c_region (r_assign rfl rfl rfl (r_nil (q_then (c_ret (q_block_ret (q_then_ret (q_then_ret (q_block_ret (q_then_ret ?_)))))))))))
    refine b_ret1 rfl rfl ?_
    obtain rfl := Option.some.inj hm
    exact ⟨rfl, rfl⟩
   ·refine c_lit 15 rfl hb2 ?_
    refine c_false rfl (c_skip (q_block (q_then (c_region (r_move rfl rfl rfl ?_)))))
    refine r_bin rfl rfl rfl rfl rfl ?_
    refine r_assign rfl rfl rfl (r_nil ?_)
    refine q_next (fun a ha => ihx1 (iadd .i64 i1 1) a _ hm ?_)
    exact ⟨rfl, ha.cut (l := [0, 3]) rfl⟩
  ·refine c_lit 7 rfl hb1 ?_
   refine c_false rfl (c_exit (q_then_exit (q_then_exit ?_)))
   refine fun a ha => hk1 () a _ hm ?_
   exact ⟨rfl, ha.cut (l := [0]) rfl⟩
def council_within (_n : Nat) (nx1 : Int) (most1 : Int) : Option Bool :=
 (bif decide (0 ≤ nx1) then
  some (decide (nx1 ≤ most1))
 else
  some false).bind fun v1 =>
 some v1
set_option maxHeartbeats 1000000 in
set_option maxRecDepth 1000000 in
theorem council_within_ok (n : Nat) (nx1 : Int) (most1 : Int) (r : Bool) (hm : council_within n nx1 most1 = some r) {w : World}  :
  Calls Tryz.prog 24 #[.int .i64 nx1, .int .i64 most1] w fun e w' => e = .returned (.bool r) ∧ w' = w := by
 unfold council_within at hm
 refine calls_of 12 Tryz.func24 rfl rfl rfl ?_
 refine c_seq (c_region (r_assign rfl rfl rfl (r_nil (q_then (c_seq (c_region (r_move rfl rfl rfl ?_)))))))
 refine r_bin rfl rfl rfl rfl rfl ?_
 refine r_move rfl rfl rfl ?_
 obtain ⟨v1, hb1, hm⟩ := bind_some hm
 refine r_mid 4 (fun a w' => w = w' ∧ Has 12 a [(11, .bool v1)]) ?_ ?_
 ·rintro a wx1 ⟨rfl, hax1⟩
  refine rw_apply hax1 ?_
  refine r_assign rfl rfl rfl (r_nil (q_then (c_ret ?_)))
  refine b_ret1 rfl rfl ?_
  obtain rfl := Option.some.inj hm
  exact ⟨rfl, rfl⟩
 ·clear hm
  rcases cond_some hb1 with ⟨hb2, hb1⟩ | ⟨hb2, hb1⟩
  ·refine r_lit 7 rfl hb2 ?_
   refine r_move rfl rfl rfl (r_move rfl rfl rfl ?_)
   refine r_bin rfl rfl rfl rfl rfl ?_
   refine r_pick_true rfl rfl rfl rfl (r_nil ?_)
   refine q_next (fun a ha => ?_)
   cases hb1
   exact ⟨rfl, ha.cut (l := [11]) rfl⟩
  ·refine r_lit 7 rfl hb2 ?_
   refine r_off rfl (by decide) rfl (r_off rfl (by decide) rfl (r_off rfl (by decide) rfl (r_pick_false rfl rfl rfl rfl (r_nil ?_))))
   refine q_next (fun a ha => ?_)
   cases hb1
   exact ⟨rfl, ha.cut (l := [11]) rfl⟩
def council_right_1 (_n : Nat) (nx1 : Int) : Option Bool :=
 (bif decide (nx1 < 1) then
  some true
 else
  some (decide (1000 < nx1))).bind fun v1 =>
 some v1
set_option maxHeartbeats 1000000 in
set_option maxRecDepth 1000000 in
theorem council_right_1_ok (n : Nat) (nx1 : Int) (r : Bool) (hm : council_right_1 n nx1 = some r) {w : World}  :
  Calls Tryz.prog 38 #[.int .i64 nx1] w fun e w' => e = .returned (.bool r) ∧ w' = w := by
 unfold council_right_1 at hm
 refine calls_of 9 Tryz.func38 rfl rfl rfl ?_
 refine c_seq (c_region (r_assign rfl rfl rfl (r_nil (q_then (c_seq (c_region (r_move rfl rfl rfl ?_)))))))
 refine r_bin rfl rfl rfl rfl rfl ?_
 refine r_move rfl rfl rfl ?_
 obtain ⟨v1, hb1, hm⟩ := bind_some hm
 refine r_mid 3 (fun a w' => w = w' ∧ Has 9 a [(8, .bool v1)]) ?_ ?_
 ·rintro a wx1 ⟨rfl, hax1⟩
  refine rw_apply hax1 ?_
  refine r_assign rfl rfl rfl (r_nil (q_then (c_ret ?_)))
  refine b_ret1 rfl rfl ?_
  obtain rfl := Option.some.inj hm
  exact ⟨rfl, rfl⟩
 ·clear hm
  rcases cond_some hb1 with ⟨hb2, hb1⟩ | ⟨hb2, hb1⟩
  ·refine r_lit 5 rfl hb2 ?_
   refine r_off rfl (by decide) rfl (r_off rfl (by decide) rfl (r_pick_true rfl rfl rfl rfl (r_nil ?_)))
   refine q_next (fun a ha => ?_)
   cases hb1
   exact ⟨rfl, ha.cut (l := [8]) rfl⟩
  ·refine r_lit 5 rfl hb2 ?_
   refine r_move rfl rfl rfl ?_
   refine r_bin rfl rfl rfl rfl rfl ?_
   refine r_pick_false rfl rfl rfl rfl (r_nil ?_)
   refine q_next (fun a ha => ?_)
   cases hb1
   exact ⟨rfl, ha.cut (l := [8]) rfl⟩
def slices_IndexFunc_int_int_L1 (n : Nat) (s1 : (List Int)) (f1 : (Int → Option Bool)) (kont1 : Option Int) : Nat → Int → Option Int
 | 0, _ => none
 | mx1 + 1, i1 =>
  bif decide (i1 < (s1.length : Int)) then
   (ix s1 i1).bind fun ex1 =>
   (f1 ex1).bind fun v1 =>
   bif v1 then
    some i1
   else
    slices_IndexFunc_int_int_L1 n s1 f1 kont1 mx1 (iadd .i64 i1 1)
  else
   kont1
theorem slices_IndexFunc_int_int_L1_s (n : Nat) (s1 : (List Int)) (f1 : (Int → Option Bool)) (kont1 : Option Int) (mx1 : Nat) (i1 : Int) : slices_IndexFunc_int_int_L1 n s1 f1 kont1 (mx1 + 1) i1 =
  bif decide (i1 < (s1.length : Int)) then
   (ix s1 i1).bind fun ex1 =>
   (f1 ex1).bind fun v1 =>
   bif v1 then
    some i1
   else
    slices_IndexFunc_int_int_L1 n s1 f1 kont1 mx1 (iadd .i64 i1 1)
  else
   kont1 := rfl
def slices_IndexFunc_int_int (n : Nat) (s1 : (List Int)) (f1 : (Int → Option Bool)) : Option Int :=
 slices_IndexFunc_int_int_L1 n s1 f1 (
  some (-1)) n 0
set_option maxHeartbeats 1000000 in
set_option maxRecDepth 1000000 in
theorem slices_IndexFunc_int_int_ok (n : Nat) (s1 : (List Int)) (f1 : (Int → Option Bool)) (r : Int) (hm : slices_IndexFunc_int_int n s1 f1 = some r) {w : World} {F : Frz} (hs : Sat F w) {as2 : Option Addr} {ns2 : Nat} {cs2 : Nat} {fvf1 : Value} (hs2 : SlR (Rp.int .i64) F as2 ns2 cs2 s1) (hpff1 : GFn Tryz.prog F fvf1 (fun _ l v => ∃ (q0 : Int) (b : Bool), l = [.int .i64 q0] ∧ v = some (.bool b) ∧ f1 q0 = some b)) :
  Calls Tryz.prog 59 #[.slice as2 ns2 cs2, fvf1] w fun e w' => ∃ v F' O', e = .returned v ∧ HS F w [] F' O' w' ∧ (v = .int .i64 r ∧ O' = []) := by
 unfold slices_IndexFunc_int_int at hm
 have h := HS.init hs
 refine calls_of 19 Tryz.func59 rfl rfl rfl ?_
 refine c_seq (c_region (r_assign rfl rfl rfl (r_nil (q_then (c_seq (c_seq (c_region (r_move rfl rfl rfl ?_))))))))
 refine r_lenS hs2.len u24 rfl rfl rfl ?_
 refine r_move rfl rfl rfl (r_nil (q_then (c_block ?_)))
 intro a hax3
 obtain ⟨kont1, hkont1⟩ : ∃ kont1 : Option Int, kont1 = (
       some (-1)) := ⟨_, rfl⟩
 replace hm : (fun m (s : Int) => slices_IndexFunc_int_int_L1 n s1 f1 kont1 m s) n 0 = some r := by rw [hkont1]; exact hm
 refine loopX (id := 0) (fun m (s : Int) => slices_IndexFunc_int_int_L1 n s1 f1 kont1 m s) (fun (y : Unit) => kont1) r (fun (s : Int) a w' => ∃ (Fx1 : Frz), Frz.le F Fx1 ∧ HS F w [] Fx1 [] w' ∧ Has 19 a [(0, .slice as2 ns2 cs2), (1, fvf1), (7, .int .i64 (s1.length : Int)), (8, .int .i64 s)]) (fun (y : Unit) a w' => ∃ (Fx2 : Frz), Frz.le F Fx2 ∧ HS F w [] Fx2 [] w' ∧ Has 19 a []) (fun _ => rfl) ?_ ?_ hm ⟨_, Frz.refl _, h.pick [] (by decide) rfl, hax3.cut (l := [0, 1, 7, 8]) rfl⟩
 ·clear hm; rintro _u a wx1 hm ⟨Fx2, hF2, hx2, hax1⟩
  rw [hkont1] at hm
  refine qw_apply (e := .exit 0) hax1 ?_
  refine q_block_hit (q_then (c_seq (c_region (r_assign rfl rfl rfl (r_nil (q_then (c_ret ?_)))))))
  refine b_ret1 rfl rfl ?_
  obtain rfl := Option.some.inj hm
  exact ⟨_, _, _, rfl, hx2.pick [] (by decide) rfl, rfl, rfl⟩
 ·clear hm hkont1; intro hk1 mx1 K ihx1
  rintro i1 a wx2 hm ⟨Fx1, hF1, hx1, hax2⟩
  simp only [slices_IndexFunc_int_int_L1_s] at hm
  refine cw_apply hax2 ?_
  refine c_seq (c_region ?_)
  refine r_bin rfl rfl rfl rfl rfl ?_
  refine r_nil (q_then (c_seq ?_))
  rcases cond_some hm with ⟨hb1, hm⟩ | ⟨hb1, hm⟩
  ·refine c_lit 9 rfl hb1 ?_
   refine c_true rfl (c_skip (q_then (c_seq (c_block (c_seq (c_region (r_move rfl rfl rfl (r_assign rfl rfl rfl (r_nil (q_then (c_seq (c_region (r_move rfl rfl rfl (r_move rfl rfl rfl (r_move rfl rfl rfl ?_)))))))))))))))
   obtain ⟨ex1, he1, hm⟩ := bind_some hm
   refine r_findex (r := (Rp.int .i64)) u24 sz3 rfl rfl rfl rfl (hs2.mono hF1) he1 ?_
   intro b1 o1 cs1 hf1 hr1
   have hc1 : cs1 = [.int .i64 ex1] := hr1
   subst hc1
   refine r_loadF1 (j := 0) ag3 rfl rfl hx1 hf1 rfl rfl ?_
   obtain ⟨v1, hv1, hm⟩ := bind_some hm
   refine r_callGF (hpff1.mono hF1) rfl rfl rfl rfl hx1 ⟨_, _, rfl, rfl, hv1⟩ ?_
   intro Fx3 wx3 hF3 hx3
   refine r_nil (q_then ?_)
   rcases cond_some hm with ⟨hb2, hm⟩ | ⟨hb2, hm⟩
   ·refine c_lit 16 rfl hb2 ?_
    refine c_true rfl (c_seq (c_region (r_move rfl rfl rfl (r_assign rfl rfl rfl (r_nil (q_then (c_ret (q_block_ret (q_then_ret (q_then_ret (q_block_ret (q_then_ret ?_))))))))))))
    refine b_ret1 rfl rfl ?_
    obtain rfl := Option.some.inj hm
    exact ⟨_, _, _, rfl, hx3.pick [] (by decide) rfl, rfl, rfl⟩
   ·refine c_lit 16 rfl hb2 ?_
    refine c_false rfl (c_skip (q_block (q_then (c_region ?_))))
    refine r_bin rfl rfl rfl rfl rfl ?_
    refine r_move rfl rfl rfl (r_nil ?_)
    refine q_next (fun a ha => ihx1 (iadd .i64 i1 1) a _ hm ?_)
    exact ⟨_, (hF1.trans hF3), hx3.pick [] (by decide) rfl, ha.cut (l := [0, 1, 7, 8]) rfl⟩
  ·refine c_lit 9 rfl hb1 ?_
   refine c_false rfl (c_exit (q_then_exit (q_then_exit ?_)))
   refine fun a ha => hk1 () a _ hm ?_
   exact ⟨_, hF1, hx1.pick [] (by decide) rfl, ha.cut (l := []) rfl⟩
theorem ent59 : Ent Tryz.prog 59 := fun _ _ => by kernel_rfl
def slices_ContainsFunc_int_int (n : Nat) (s1 : (List Int)) (f1 : (Int → Option Bool)) : Option Bool :=
 (slices_IndexFunc_int_int n s1 f1).bind fun v1 =>
 some (decide (0 ≤ v1))
set_option maxHeartbeats 1000000 in
set_option maxRecDepth 1000000 in
theorem slices_ContainsFunc_int_int_ok (n : Nat) (s1 : (List Int)) (f1 : (Int → Option Bool)) (r : Bool) (hm : slices_ContainsFunc_int_int n s1 f1 = some r) {w : World} {F : Frz} (hs : Sat F w) {as2 : Option Addr} {ns2 : Nat} {cs2 : Nat} {fvf1 : Value} (hs2 : SlR (Rp.int .i64) F as2 ns2 cs2 s1) (hpff1 : GFn Tryz.prog F fvf1 (fun _ l v => ∃ (q0 : Int) (b : Bool), l = [.int .i64 q0] ∧ v = some (.bool b) ∧ f1 q0 = some b)) :
  Calls Tryz.prog 39 #[.slice as2 ns2 cs2, fvf1] w fun e w' => ∃ v F' O', e = .returned v ∧ HS F w [] F' O' w' ∧ (v = .bool r ∧ O' = []) := by
 unfold slices_ContainsFunc_int_int at hm
 have h := HS.init hs
 refine calls_of 9 Tryz.func39 rfl rfl rfl ?_
 refine c_seq (c_region (r_assign rfl rfl rfl (r_nil (q_then (c_seq (c_region (r_move rfl rfl rfl (r_move rfl rfl rfl ?_))))))))
 obtain ⟨v1, hv1, hm⟩ := bind_some hm
 refine r_callG0 ent59 rfl rfl rfl rfl h (slices_IndexFunc_int_int_ok _ _ _ _ hv1 h.sat hs2 hpff1) ?_
 rintro _ Fx1 _ wx1 hF1 hx1 ⟨rfl, rfl⟩
 refine r_bin rfl rfl rfl rfl rfl ?_
 refine r_assign rfl rfl rfl (r_nil (q_then (c_ret ?_)))
 refine b_ret1 rfl rfl ?_
 obtain rfl := Option.some.inj hm
 exact ⟨_, _, _, rfl, hx1.pick [] (by decide) rfl, rfl, rfl⟩
theorem ent38 : Ent Tryz.prog 38 := fun _ _ => by kernel_rfl
theorem ent39 : Ent Tryz.prog 39 := fun _ _ => by kernel_rfl
def council_right (n : Nat) (weights1 : (List Int)) : Option Bool :=
 (bif decide ((weights1.length : Int) ≤ 20) then
  (slices_ContainsFunc_int_int n weights1 (council_right_1 n)).bind fun v2 =>
  some (!v2)
 else
  some false).bind fun v1 =>
 some v1
set_option maxHeartbeats 1000000 in
set_option maxRecDepth 1000000 in
theorem council_right_ok (n : Nat) (weights1 : (List Int)) (r : Bool) (hm : council_right n weights1 = some r) {w : World} {F : Frz} (hs : Sat F w) {as1 : Option Addr} {ns1 : Nat} {cs1 : Nat} (hs1 : SlR (Rp.int .i64) F as1 ns1 cs1 weights1) :
  Calls Tryz.prog 23 #[.slice as1 ns1 cs1] w fun e w' => ∃ v F' O', e = .returned v ∧ HS F w [] F' O' w' ∧ (v = .bool r ∧ O' = []) := by
 unfold council_right at hm
 have h := HS.init hs
 refine calls_of 13 Tryz.func23 rfl rfl rfl ?_
 refine c_seq (c_region (r_assign rfl rfl rfl (r_nil (q_then (c_seq (c_region (r_assign rfl rfl rfl (r_nil (q_then (c_seq (c_region (r_move rfl rfl rfl ?_))))))))))))
 refine r_lenS hs1.len u24 rfl rfl rfl ?_
 refine r_bin rfl rfl rfl rfl rfl ?_
 refine r_move rfl rfl rfl ?_
 obtain ⟨v1, hb1, hm⟩ := bind_some hm
 refine r_mid 5 (fun a w' => ∃ (Fx1 : Frz), Frz.le F Fx1 ∧ HS F w [] Fx1 [] w' ∧ Has 13 a [(12, .bool v1)]) ?_ ?_
 ·rintro a wx1 ⟨Fx1, hF1, hx1, hax1⟩
  refine rw_apply hax1 ?_
  refine r_assign rfl rfl rfl (r_nil (q_then (c_ret ?_)))
  refine b_ret1 rfl rfl ?_
  obtain rfl := Option.some.inj hm
  exact ⟨_, _, _, rfl, hx1.pick [] (by decide) rfl, rfl, rfl⟩
 ·clear hm
  rcases cond_some hb1 with ⟨hb2, hb1⟩ | ⟨hb2, hb1⟩
  ·refine r_lit 7 rfl hb2 ?_
   refine r_move rfl rfl rfl (r_move rfl rfl rfl ?_)
   obtain ⟨v2, hv1, hb1⟩ := bind_some hb1
   refine r_callG0 ent39 rfl rfl rfl rfl h (slices_ContainsFunc_int_int_ok _ _ _ _ hv1 h.sat hs1 (show GFn Tryz.prog _ (.func (.func 38) #[] #[]) (fun _ l v => ∃ (q0 : Int) (b : Bool), l = [.int .i64 q0] ∧ v = some (.bool b) ∧ (council_right_1 n) q0 = some b) from ⟨38, #[], rfl, ent38, fun F' hF' args r w hsat h => by
                               obtain ⟨q0, b, rfl, hv, hb⟩ := h
                               obtain rfl := Option.some.inj hv
                               exact (council_right_1_ok n q0 _ hb).mono (by rintro _ _ ⟨rfl, rfl⟩; exact ⟨_, F', [], rfl, HS.init hsat, rfl, rfl⟩)⟩)) ?_
   rintro _ Fx2 _ wx2 hF2 hx2 ⟨rfl, rfl⟩
   refine r_not rfl rfl rfl (r_pick_true rfl rfl rfl rfl (r_nil ?_))
   refine q_next (fun a ha => ?_)
   cases hb1
   exact ⟨_, hF2, hx2.pick [] (by decide) rfl, ha.cut (l := [12]) rfl⟩
  ·refine r_lit 7 rfl hb2 ?_
   refine r_off rfl (by decide) rfl (r_off rfl (by decide) rfl (r_off rfl (by decide) rfl (r_off rfl (by decide) rfl (r_pick_false rfl rfl rfl rfl (r_nil ?_)))))
   refine q_next (fun a ha => ?_)
   cases hb1
   exact ⟨_, Frz.refl _, h.pick [] (by decide) rfl, ha.cut (l := [12]) rfl⟩
structure Vote where
 Motion : Int
 Commune : Int
 Yes : Bool
 deriving DecidableEq, Inhabited
def rp_Vote : Rp Vote where
 k := 3
 R := fun _ cs x => cs = [.int .i64 x.Motion, .int .i64 x.Commune, .bool x.Yes]
 len := by intros; simp_all
 mono := fun _ h => h
 one := by intro F cs x h u hu; subst h; simp at hu; rcases hu with rfl | rfl | rfl <;> rfl
theorem ent23 : Ent Tryz.prog 23 := fun _ _ => by kernel_rfl
theorem u23 : Tryz.prog.underlying 23 = some (.slice 52) := by kernel_rfl
theorem key3 : KeyIs Tryz.prog 3 (K := Int) (Value.int .i64) (.int .i64) := KeyIs.int (by kernel_rfl)
theorem um67 : Tryz.prog.underlying 67 = some (.map 3 4) := by kernel_rfl
theorem zv4 : ∀ w, (zeroValue 4).run Tryz.prog w = .ok (Value.bool false) w := fun _ => by kernel_rfl
theorem sz52 : SizeIs Tryz.prog 52 3 := fun _ => by kernel_rfl
theorem ag52 : IsAgg Tryz.prog 52 true := fun _ => by kernel_rfl
theorem ze52 : ZeroIs Tryz.prog 52 (.agg #[.int .i64 0, .int .i64 0, .bool false]) := fun _ => by kernel_rfl
theorem fa52_0 : FieldIs Tryz.prog 52 0 0 := fun _ _ _ => by kernel_rfl
theorem fa52_1 : FieldIs Tryz.prog 52 1 1 := fun _ _ _ => by kernel_rfl
theorem fa52_2 : FieldIs Tryz.prog 52 2 2 := fun _ _ _ => by kernel_rfl
theorem ag4 : IsAgg Tryz.prog 4 false := fun _ => by kernel_rfl
def council_Count_L2 (n : Nat) (weights1 : (List Int)) (mp2 : (List (Int × Bool))) (kont1 : Int → Int → Option (Int × Int)) : Nat → Int → Int → Int → Option (Int × Int)
 | 0, _, _, _ => none
 | mx1 + 1, yes1, no1, i2 =>
  bif decide (i2 < (weights1.length : Int)) then
   (ix weights1 i2).bind fun ex1 =>
   bif (mget mp2 i2).getD false then
    council_Count_L2 n weights1 mp2 kont1 mx1 (iadd .i64 yes1 ex1) no1 (iadd .i64 i2 1)
   else
    bif (mget mp2 i2).isSome then
     council_Count_L2 n weights1 mp2 kont1 mx1 yes1 (iadd .i64 no1 ex1) (iadd .i64 i2 1)
    else
     council_Count_L2 n weights1 mp2 kont1 mx1 yes1 no1 (iadd .i64 i2 1)
  else
   kont1 yes1 no1
theorem council_Count_L2_s (n : Nat) (weights1 : (List Int)) (mp2 : (List (Int × Bool))) (kont1 : Int → Int → Option (Int × Int)) (mx1 : Nat) (yes1 : Int) (no1 : Int) (i2 : Int) : council_Count_L2 n weights1 mp2 kont1 (mx1 + 1) yes1 no1 i2 =
  bif decide (i2 < (weights1.length : Int)) then
   (ix weights1 i2).bind fun ex1 =>
   bif (mget mp2 i2).getD false then
    council_Count_L2 n weights1 mp2 kont1 mx1 (iadd .i64 yes1 ex1) no1 (iadd .i64 i2 1)
   else
    bif (mget mp2 i2).isSome then
     council_Count_L2 n weights1 mp2 kont1 mx1 yes1 (iadd .i64 no1 ex1) (iadd .i64 i2 1)
    else
     council_Count_L2 n weights1 mp2 kont1 mx1 yes1 no1 (iadd .i64 i2 1)
  else
   kont1 yes1 no1 := rfl
def council_Count_L1 (n : Nat) (votes1 : (List Vote)) (motion1 : Int) (kont2 : (List (Int × Bool)) → Option (Int × Int)) : Nat → Int → (List (Int × Bool)) → Option (Int × Int)
 | 0, _, _ => none
 | mx2 + 1, i1, mp1 =>
  bif decide (i1 < (votes1.length : Int)) then
   (ix votes1 i1).bind fun ex2 =>
   bif ex2.Motion == motion1 then
    council_Count_L1 n votes1 motion1 kont2 mx2 (iadd .i64 i1 1) (mput mp1 ex2.Commune ex2.Yes)
   else
    council_Count_L1 n votes1 motion1 kont2 mx2 (iadd .i64 i1 1) mp1
  else
   kont2 mp1
theorem council_Count_L1_s (n : Nat) (votes1 : (List Vote)) (motion1 : Int) (kont2 : (List (Int × Bool)) → Option (Int × Int)) (mx2 : Nat) (i1 : Int) (mp1 : (List (Int × Bool))) : council_Count_L1 n votes1 motion1 kont2 (mx2 + 1) i1 mp1 =
  bif decide (i1 < (votes1.length : Int)) then
   (ix votes1 i1).bind fun ex2 =>
   bif ex2.Motion == motion1 then
    council_Count_L1 n votes1 motion1 kont2 mx2 (iadd .i64 i1 1) (mput mp1 ex2.Commune ex2.Yes)
   else
    council_Count_L1 n votes1 motion1 kont2 mx2 (iadd .i64 i1 1) mp1
  else
   kont2 mp1 := rfl
def council_Count (n : Nat) (weights1 : (List Int)) (votes1 : (List Vote)) (motion1 : Int) : Option (Int × Int) :=
 (council_right n weights1).bind fun v1 =>
 bif !v1 then
  some (0, 0)
 else
  council_Count_L1 n votes1 motion1 (fun (mp2 : (List (Int × Bool))) =>
   council_Count_L2 n weights1 mp2 (fun (yes2 : Int) (no2 : Int) =>
    some (yes2, no2)) n 0 0 0) n 0 ([] : (List (Int × Bool)))
set_option maxHeartbeats 1000000 in
set_option maxRecDepth 1000000 in
theorem council_Count_ok (n : Nat) (weights1 : (List Int)) (votes1 : (List Vote)) (motion1 : Int) (r : (Int × Int)) (hm : council_Count n weights1 votes1 motion1 = some r) {w : World} {F : Frz} (hs : Sat F w) {as1 : Option Addr} {ns1 : Nat} {cs1 : Nat} {as2 : Option Addr} {ns2 : Nat} {cs2 : Nat} (hs1 : SlR (Rp.int .i64) F as1 ns1 cs1 weights1) (hs2 : SlR rp_Vote F as2 ns2 cs2 votes1) :
  Calls Tryz.prog 9 #[.slice as1 ns1 cs1, .slice as2 ns2 cs2, .int .i64 motion1] w fun e w' => ∃ v F' O', e = .returned v ∧ HS F w [] F' O' w' ∧ (v = .tuple #[.int .i64 r.1, .int .i64 r.2] ∧ O' = []) := by
 unfold council_Count at hm
 have h := HS.init hs
 refine calls_of 61 Tryz.func9 rfl rfl rfl ?_
 refine c_seq (c_region (r_assign rfl rfl rfl (r_assign rfl rfl rfl (r_nil (q_then (c_seq (c_seq (c_region (r_move rfl rfl rfl ?_)))))))))
 obtain ⟨v1, hv1, hm⟩ := bind_some hm
 refine r_callG0 ent23 rfl rfl rfl rfl h (council_right_ok _ _ _ hv1 h.sat hs1) ?_
 rintro _ Fx1 _ wx1 hF1 hx1 ⟨rfl, rfl⟩
 refine r_not rfl rfl rfl (r_nil (q_then ?_))
 rcases cond_some hm with ⟨hb1, hm⟩ | ⟨hb1, hm⟩
 ·refine c_lit 17 rfl hb1 ?_
  refine c_true rfl (c_seq (c_region (r_assign rfl rfl rfl (r_assign rfl rfl rfl (r_nil (q_then (c_ret (q_then_ret ?_))))))))
  refine b_retA (vl := [.int .i64 0, .int .i64 0]) rfl ⟨v_tmp rfl, v_tmp rfl, trivial⟩ (by simp) ?_
  obtain rfl := Option.some.inj hm
  exact ⟨_, _, _, rfl, hx1.pick [] (by decide) rfl, rfl, rfl⟩
 ·refine c_lit 17 rfl hb1 ?_
  refine c_false rfl (c_skip (q_then (c_seq (c_region ?_))))
  refine r_makeMap rfl rfl hx1 ?_
  intro b1 wx2 hx2
  refine r_assign rfl rfl rfl (r_nil (q_then (c_seq (c_seq (c_region (r_move rfl rfl rfl ?_))))))
  refine r_lenS hs2.len u23 rfl rfl rfl ?_
  refine r_move rfl rfl rfl (r_nil (q_then (c_block ?_)))
  intro a hax6
  obtain ⟨kont2, hkont2⟩ : ∃ kont2 : (List (Int × Bool)) → Option (Int × Int), kont2 = (fun (mp2 : (List (Int × Bool))) =>
       council_Count_L2 n weights1 mp2 (fun (yes2 : Int) (no2 : Int) =>
        some (yes2, no2)) n 0 0 0) := ⟨_, rfl⟩
  replace hm : (fun m (s : Int × (List (Int × Bool))) => council_Count_L1 n votes1 motion1 kont2 m s.1 s.2) n (0, ([] : (List (Int × Bool)))) = some r := by rw [hkont2]; exact hm
  refine loopX (id := 0) (fun m (s : Int × (List (Int × Bool))) => council_Count_L1 n votes1 motion1 kont2 m s.1 s.2) (fun (y : (List (Int × Bool))) => kont2 y) r (fun (s : Int × (List (Int × Bool))) a w' => ∃ (Fx2 : Frz) (ess3 : List MapEntry) (cls3 : Nat), Frz.le Fx1 Fx2 ∧ HS F w [] Fx2 [.mp b1 ess3 cls3] w' ∧ (MpR (Value.int .i64) Value.bool ess3 s.2) ∧ Has 61 a [(0, .slice as1 ns1 cs1), (2, .int .i64 motion1), (6, .int .i64 0), (7, .int .i64 0), (8, .map (some b1)), (19, .slice as2 ns2 cs2), (20, .int .i64 (votes1.length : Int)), (21, .int .i64 s.1)]) (fun (y : (List (Int × Bool))) a w' => ∃ (Fx3 : Frz) (ess4 : List MapEntry) (cls4 : Nat), Frz.le Fx1 Fx3 ∧ HS F w [] Fx3 [.mp b1 ess4 cls4] w' ∧ (MpR (Value.int .i64) Value.bool ess4 y) ∧ Has 61 a [(0, .slice as1 ns1 cs1), (6, .int .i64 0), (7, .int .i64 0), (8, .map (some b1))]) (fun _ => rfl) ?_ ?_ hm ⟨_, [], 0, Frz.refl _, hx2.pick [0] (by decide) rfl, (show MpR (Value.int .i64) Value.bool [] ([] : (List (Int × Bool))) from trivial), hax6.cut (l := [0, 2, 6, 7, 8, 19, 20, 21]) rfl⟩
  ·clear hm; rintro mp2 a wx3 hm ⟨Fx3, ess4, cls4, hF3, hx4, hs4, hax1⟩
   rw [hkont2] at hm
   replace hm := hm
   refine qw_apply (e := .exit 0) hax1 ?_
   refine q_block_hit (q_then (c_seq (c_seq (c_region (r_move rfl rfl rfl ?_)))))
   refine r_lenS hs1.len u24 rfl rfl rfl ?_
   refine r_move rfl rfl rfl (r_nil (q_then (c_block ?_)))
   intro a hax4
   obtain ⟨kont1, hkont1⟩ : ∃ kont1 : Int → Int → Option (Int × Int), kont1 = (fun (yes2 : Int) (no2 : Int) =>
       some (yes2, no2)) := ⟨_, rfl⟩
   replace hm : (fun m (s : Int × Int × Int) => council_Count_L2 n weights1 mp2 kont1 m s.1 s.2.1 s.2.2) n (0, 0, 0) = some r := by rw [hkont1]; exact hm
   refine loopX (id := 2) (fun m (s : Int × Int × Int) => council_Count_L2 n weights1 mp2 kont1 m s.1 s.2.1 s.2.2) (fun (y : Int × Int) => kont1 y.1 y.2) r (fun (s : Int × Int × Int) a w' => wx3 = w' ∧ Has 61 a [(6, .int .i64 s.1), (7, .int .i64 s.2.1), (8, .map (some b1)), (35, .slice as1 ns1 cs1), (36, .int .i64 (weights1.length : Int)), (37, .int .i64 s.2.2)]) (fun (y : Int × Int) a w' => wx3 = w' ∧ Has 61 a [(6, .int .i64 y.1), (7, .int .i64 y.2)]) (fun _ => rfl) ?_ ?_ hm ⟨rfl, hax4.cut (l := [6, 7, 8, 35, 36, 37]) rfl⟩
   ·clear hm; rintro ⟨yes2, no2⟩ a wx4 hm ⟨rfl, hax2⟩
    rw [hkont1] at hm
    replace hm := hm
    refine qw_apply (e := .exit 2) hax2 ?_
    refine q_block_hit (q_then (c_seq (c_region (r_move rfl rfl rfl (r_move rfl rfl rfl (r_assign rfl rfl rfl (r_assign rfl rfl rfl (r_nil (q_then (c_ret ?_))))))))))
    refine b_retA (vl := [.int .i64 yes2, .int .i64 no2]) rfl ⟨v_tmp rfl, v_tmp rfl, trivial⟩ (by simp) ?_
    obtain rfl := Option.some.inj hm
    exact ⟨_, _, _, rfl, hx4.pick [] (by decide) rfl, rfl, rfl⟩
   ·clear hm hkont1; intro hk1 mx1 K ihx1
    rintro ⟨yes1, no1, i2⟩ a wx5 hm ⟨rfl, hax3⟩
    simp only [council_Count_L2_s] at hm
    refine cw_apply hax3 ?_
    refine c_seq (c_region ?_)
    refine r_bin rfl rfl rfl rfl rfl ?_
    refine r_nil (q_then (c_seq ?_))
    rcases cond_some hm with ⟨hb2, hm⟩ | ⟨hb2, hm⟩
    ·refine c_lit 38 rfl hb2 ?_
     refine c_true rfl (c_skip (q_then (c_seq (c_block (c_seq (c_region (r_move rfl rfl rfl ?_)))))))
     obtain ⟨ex1, he1, hm⟩ := bind_some hm
     refine r_findex (r := (Rp.int .i64)) u24 sz3 rfl rfl rfl rfl ((hs1.mono hF1).mono hF3) he1 ?_
     intro b2 o1 cs1 hf1 hr1
     have hc1 : cs1 = [.int .i64 ex1] := hr1
     subst hc1
     refine r_loadF1 (j := 0) ag3 rfl rfl hx4 hf1 rfl rfl ?_
     refine r_assign rfl rfl rfl (r_assign rfl rfl rfl (r_nil (q_then (c_seq (c_region (r_move rfl rfl rfl (r_move rfl rfl rfl ?_)))))))
     refine r_lookup (k := i2) (z := false) (i := 0) key3 um67 zv4 rfl rfl hx4 rfl rfl rfl hs4 ?_
     refine r_move rfl rfl rfl (r_extract rfl rfl rfl rfl (r_extract rfl rfl rfl rfl (r_assign rfl rfl rfl (r_assign rfl rfl rfl (r_nil (q_then (c_block (c_seq (c_region (r_move rfl rfl rfl (r_assign rfl rfl rfl (r_nil (q_then ?_)))))))))))))
     rcases cond_some hm with ⟨hb3, hm⟩ | ⟨hb3, hm⟩
     ·refine c_lit 48 rfl hb3 ?_
      refine c_true rfl (c_region (r_move rfl rfl rfl (r_move rfl rfl rfl ?_)))
      refine r_bin rfl rfl rfl rfl rfl ?_
      refine r_assign rfl rfl rfl (r_nil (q_block (q_block (q_then (c_region ?_)))))
      refine r_bin rfl rfl rfl rfl rfl ?_
      refine r_move rfl rfl rfl (r_nil ?_)
      refine q_next (fun a ha => ihx1 ((iadd .i64 yes1 ex1), no1, (iadd .i64 i2 1)) a _ hm ?_)
      exact ⟨rfl, ha.cut (l := [6, 7, 8, 35, 36, 37]) rfl⟩
     ·refine c_lit 48 rfl hb3 ?_
      refine c_false rfl (c_seq (c_region (r_move rfl rfl rfl (r_assign rfl rfl rfl (r_nil (q_then ?_))))))
      rcases cond_some hm with ⟨hb4, hm⟩ | ⟨hb4, hm⟩
      ·refine c_lit 53 rfl hb4 ?_
       refine c_true rfl (c_region (r_move rfl rfl rfl (r_move rfl rfl rfl ?_)))
       refine r_bin rfl rfl rfl rfl rfl ?_
       refine r_assign rfl rfl rfl (r_nil (q_block (q_block (q_then (c_region ?_)))))
       refine r_bin rfl rfl rfl rfl rfl ?_
       refine r_move rfl rfl rfl (r_nil ?_)
       refine q_next (fun a ha => ihx1 (yes1, (iadd .i64 no1 ex1), (iadd .i64 i2 1)) a _ hm ?_)
       exact ⟨rfl, ha.cut (l := [6, 7, 8, 35, 36, 37]) rfl⟩
      ·refine c_lit 53 rfl hb4 ?_
       refine c_false rfl (c_skip (q_block (q_block (q_then (c_region ?_)))))
       refine r_bin rfl rfl rfl rfl rfl ?_
       refine r_move rfl rfl rfl (r_nil ?_)
       refine q_next (fun a ha => ihx1 (yes1, no1, (iadd .i64 i2 1)) a _ hm ?_)
       exact ⟨rfl, ha.cut (l := [6, 7, 8, 35, 36, 37]) rfl⟩
    ·refine c_lit 38 rfl hb2 ?_
     refine c_false rfl (c_exit (q_then_exit (q_then_exit ?_)))
     refine fun a ha => hk1 (yes1, no1) a _ hm ?_
     exact ⟨rfl, ha.cut (l := [6, 7]) rfl⟩
  ·clear hm hkont2; intro hk2 mx2 K ihx2
   rintro ⟨i1, mp1⟩ a wx6 hm ⟨Fx2, ess3, cls3, hF2, hx3, hs3, hax5⟩
   simp only [council_Count_L1_s] at hm
   refine cw_apply hax5 ?_
   refine c_seq (c_region ?_)
   refine r_bin rfl rfl rfl rfl rfl ?_
   refine r_nil (q_then (c_seq ?_))
   rcases cond_some hm with ⟨hb5, hm⟩ | ⟨hb5, hm⟩
   ·refine c_lit 22 rfl hb5 ?_
    refine c_true rfl (c_skip (q_then (c_seq (c_block (c_seq (c_region ?_))))))
    obtain ⟨ex2, he2, hm⟩ := bind_some hm
    refine r_findex (r := rp_Vote) u23 sz52 rfl rfl rfl rfl ((hs2.mono hF1).mono hF2) he2 ?_
    intro b3 o2 cs2 hf2 hr2
    have hc2 : cs2 = [.int .i64 ex2.Motion, .int .i64 ex2.Commune, .bool ex2.Yes] := hr2
    subst hc2
    refine r_loadFW ag52 sz52 rfl rfl hx3 hf2 rfl rfl ?_
    refine r_alloc ze52 rfl rfl rfl hx3 ?_
    intro b4 wx7 hx5
    refine r_store sz52 rfl hx5 rfl rfl rfl rfl (i := 0) rfl rfl rfl rfl ?_
    intro wx8 hx6
    refine r_nil (q_then (c_seq (c_region ?_)))
    refine r_fieldAddr fa52_0 rfl rfl rfl ?_
    refine r_loadB1 ag3 rfl rfl hx6 rfl (i := 0) rfl rfl ?_
    refine r_move rfl rfl rfl ?_
    refine r_bin rfl rfl rfl rfl rfl ?_
    refine r_nil (q_then ?_)
    rcases cond_some hm with ⟨hb6, hm⟩ | ⟨hb6, hm⟩
    ·refine c_lit 28 rfl hb6 ?_
     refine c_true rfl (c_region (r_move rfl rfl rfl ?_))
     refine r_fieldAddr fa52_1 rfl rfl rfl ?_
     refine r_loadB1 ag3 rfl rfl hx6 rfl (i := 0) rfl rfl ?_
     refine r_fieldAddr fa52_2 rfl rfl rfl ?_
     refine r_loadB1 ag4 rfl rfl hx6 rfl (i := 0) rfl rfl ?_
     refine r_mapPut (l := mp1) (k := ex2.Commune) (v := ex2.Yes) (i := 1) (.inr rfl) key3 um67 rfl hx6 rfl rfl rfl rfl hs3 ?_
     intro wx9 es1 cl1 hx7 hr3
     refine r_nil (q_block (q_then (c_region ?_)))
     refine r_bin rfl rfl rfl rfl rfl ?_
     refine r_move rfl rfl rfl (r_nil ?_)
     refine q_next (fun a ha => ihx2 ((iadd .i64 i1 1), (mput mp1 ex2.Commune ex2.Yes)) a _ hm ?_)
     exact ⟨_, es1, cl1, hF2, hx7.pick [1] (by decide) rfl, hr3, ha.cut (l := [0, 2, 6, 7, 8, 19, 20, 21]) rfl⟩
    ·refine c_lit 28 rfl hb6 ?_
     refine c_false rfl (c_skip (q_block (q_then (c_region ?_))))
     refine r_bin rfl rfl rfl rfl rfl ?_
     refine r_move rfl rfl rfl (r_nil ?_)
     refine q_next (fun a ha => ihx2 ((iadd .i64 i1 1), mp1) a _ hm ?_)
     exact ⟨_, ess3, cls3, hF2, hx6.pick [1] (by decide) rfl, hs3, ha.cut (l := [0, 2, 6, 7, 8, 19, 20, 21]) rfl⟩
   ·refine c_lit 22 rfl hb5 ?_
    refine c_false rfl (c_exit (q_then_exit (q_then_exit ?_)))
    refine fun a ha => hk2 mp1 a _ hm ?_
    exact ⟨_, ess3, cls3, hF2, hx3.pick [0] (by decide) rfl, hs3, ha.cut (l := [0, 6, 7, 8]) rfl⟩
theorem key9 : KeyIs Tryz.prog 9 (K := Bs) vs .string := KeyIs.str (by kernel_rfl)
theorem um116 : Tryz.prog.underlying 116 = some (.map 9 3) := by kernel_rfl
def tariff_operators (_n : Nat)  : Option (List (Bs × Int)) :=
 some (mput (mput (mput (mput (mput (mput (mput (mput ([] : (List (Bs × Int))) [43] 5) [45] 6) [42] 7) [47] 8) [60] 12) [61] 13) [97, 110, 100] 15) [111, 114] 16)
set_option maxHeartbeats 1000000 in
set_option maxRecDepth 1000000 in
theorem tariff_operators_ok (n : Nat)  (r : (List (Bs × Int))) (hm : tariff_operators n  = some r) {w : World} {F : Frz} (hs : Sat F w)  :
  Calls Tryz.prog 90 #[] w fun e w' => ∃ v F' O', e = .returned v ∧ HS F w [] F' O' w' ∧ (∃ (b0_0 : Nat) (es0_0 : List MapEntry) (cl0_0 : Nat), v = .map (some b0_0) ∧ O' = [.mp b0_0 es0_0 cl0_0] ∧ MpR vs (Value.int .i64) es0_0 r) := by
 unfold tariff_operators at hm
 have h := HS.init hs
 refine calls_of 3 Tryz.func90 rfl rfl rfl ?_
 refine c_seq (c_region (r_assign rfl rfl rfl (r_nil (q_then (c_seq (c_region ?_))))))
 refine r_makeMap rfl rfl h ?_
 intro b1 wx1 hx1
 refine r_mapPut (l := ([] : (List (Bs × Int)))) (k := [43]) (v := 5) (i := 0) (.inl rfl) key9 um116 rfl hx1 rfl rfl rfl rfl (show MpR vs (Value.int .i64) [] ([] : (List (Bs × Int))) from trivial) ?_
 intro wx2 es1 cl1 hx2 hr1
 refine r_mapPut (l := (mput ([] : (List (Bs × Int))) [43] 5)) (k := [45]) (v := 6) (i := 0) (.inl rfl) key9 um116 rfl hx2 rfl rfl rfl rfl hr1 ?_
 intro wx3 es2 cl2 hx3 hr2
 refine r_mapPut (l := (mput (mput ([] : (List (Bs × Int))) [43] 5) [45] 6)) (k := [42]) (v := 7) (i := 0) (.inl rfl) key9 um116 rfl hx3 rfl rfl rfl rfl hr2 ?_
 intro wx4 es3 cl3 hx4 hr3
 refine r_mapPut (l := (mput (mput (mput ([] : (List (Bs × Int))) [43] 5) [45] 6) [42] 7)) (k := [47]) (v := 8) (i := 0) (.inl rfl) key9 um116 rfl hx4 rfl rfl rfl rfl hr3 ?_
 intro wx5 es4 cl4 hx5 hr4
 refine r_mapPut (l := (mput (mput (mput (mput ([] : (List (Bs × Int))) [43] 5) [45] 6) [42] 7) [47] 8)) (k := [60]) (v := 12) (i := 0) (.inl rfl) key9 um116 rfl hx5 rfl rfl rfl rfl hr4 ?_
 intro wx6 es5 cl5 hx6 hr5
 refine r_mapPut (l := (mput (mput (mput (mput (mput ([] : (List (Bs × Int))) [43] 5) [45] 6) [42] 7) [47] 8) [60] 12)) (k := [61]) (v := 13) (i := 0) (.inl rfl) key9 um116 rfl hx6 rfl rfl rfl rfl hr5 ?_
 intro wx7 es6 cl6 hx7 hr6
 refine r_mapPut (l := (mput (mput (mput (mput (mput (mput ([] : (List (Bs × Int))) [43] 5) [45] 6) [42] 7) [47] 8) [60] 12) [61] 13)) (k := [97, 110, 100]) (v := 15) (i := 0) (.inl rfl) key9 um116 rfl hx7 rfl rfl rfl rfl hr6 ?_
 intro wx8 es7 cl7 hx8 hr7
 refine r_mapPut (l := (mput (mput (mput (mput (mput (mput (mput ([] : (List (Bs × Int))) [43] 5) [45] 6) [42] 7) [47] 8) [60] 12) [61] 13) [97, 110, 100] 15)) (k := [111, 114]) (v := 16) (i := 0) (.inl rfl) key9 um116 rfl hx8 rfl rfl rfl rfl hr7 ?_
 intro wx9 es8 cl8 hx9 hr8
 refine r_move rfl rfl rfl (r_assign rfl rfl rfl (r_nil (q_then (c_ret ?_))))
 refine b_ret1 rfl rfl ?_
 obtain rfl := Option.some.inj hm
 exact ⟨_, _, _, rfl, hx9.pick [0] (by decide) rfl, b1, es8, cl8, rfl, rfl, hr8⟩
end Go.Proofs.YtibkigpmkkkaeaaGreatDoor.M
