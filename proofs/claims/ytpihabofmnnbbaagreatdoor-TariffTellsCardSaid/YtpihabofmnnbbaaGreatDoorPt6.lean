/- Several texts in one, for TariffTells.card: what the theorem leans on. -/
import Derived.Test.YtpihabofmnnbbaaGreatDoorRows
import Derived.KernelRfl
import Derived.Test.YtpihabofmnnbbaaGreatDoorPt5
namespace Go.Proofs.YtpihabofmnnbbaaGreatDoor.M
open Go Go.RowKit Rt
def ref35_word (n : Nat) (s1 : Bs) : Option Token :=
 (ref06_Name n s1).bind fun v1 =>
 bif v1 then
  some (⟨0, s1, 0, 0⟩ : Token)
 else
  some (⟨3, s1, 0, 0⟩ : Token)
set_option maxHeartbeats 1000000 in
set_option maxRecDepth 1000000 in
theorem ref35_word_ok (n : Nat) (s1 : Bs) (r : Token) (hm : ref35_word n s1 = some r) {w : World} {F : Frz} (hs : Sat F w)  :
  Calls Tryz.prog 41 #[vs s1] w fun e w' => ∃ v F' O', e = .returned v ∧ HS F w [] F' O' w' ∧ (v = .agg #[.int .i64 r.Kind, vs r.Text, .int .i64 r.N, .int .i64 r.Pos] ∧ O' = []) := by
 unfold ref35_word at hm
 have h := HS.init hs
 refine calls_of 9 Tryz.func41 rfl rfl rfl ?_
 refine c_seq (c_region ?_)
 refine r_alloc ze53 rfl rfl rfl h ?_
 intro b1 wx1 hx1
 refine r_nil (q_then (c_seq (c_seq (c_region (r_move rfl rfl rfl ?_)))))
 obtain ⟨v1, hv1, hm⟩ := bind_some hm
 refine r_callP0 ent64 rfl rfl rfl rfl (ref06_Name_ok _ _ _ hv1) ?_
 refine r_nil (q_then ?_)
 rcases cond_some hm with ⟨hb1, hm⟩ | ⟨hb1, hm⟩
 ·refine c_lit 4 rfl hb1 ?_
  refine c_true rfl (c_seq (c_region (r_move rfl rfl rfl ?_)))
  refine r_build (v := .agg #[.int .i64 0, vs s1, .int .i64 0, .int .i64 0]) rfl rfl rfl (fun _ => by kernel_rfl) ?_
  refine r_store sz53 rfl hx1 rfl rfl rfl rfl (i := 0) rfl rfl rfl rfl ?_
  intro wx2 hx2
  refine r_nil (q_then (c_ret (q_then_ret ?_)))
  refine b_retC rfl ag53 sz53 rfl hx2 rfl (i := 0) rfl ?_
  obtain rfl := Option.some.inj hm
  exact ⟨_, _, _, rfl, hx2.pick [] (by decide) rfl, rfl, rfl⟩
 ·refine c_lit 4 rfl hb1 ?_
  refine c_false rfl (c_skip (q_then (c_seq (c_region (r_move rfl rfl rfl ?_)))))
  refine r_build (v := .agg #[.int .i64 3, vs s1, .int .i64 0, .int .i64 0]) rfl rfl rfl (fun _ => by kernel_rfl) ?_
  refine r_store sz53 rfl hx1 rfl rfl rfl rfl (i := 0) rfl rfl rfl rfl ?_
  intro wx3 hx3
  refine r_nil (q_then (c_ret ?_))
  refine b_retC rfl ag53 sz53 rfl hx3 rfl (i := 0) rfl ?_
  obtain rfl := Option.some.inj hm
  exact ⟨_, _, _, rfl, hx3.pick [] (by decide) rfl, rfl, rfl⟩
theorem ent41 : Ent Tryz.prog 41 := fun _ _ => by kernel_rfl
def ref35_words_L1 (n : Nat) (l1 : (List Bs)) (kont1 : (List Token) → Option (List Token)) : Nat → Int → (List Token) → Option (List Token)
 | 0, _, _ => none
 | mx1 + 1, i1, l2 =>
  bif decide (i1 < (l1.length : Int)) then
   (ix l1 i1).bind fun ex1 =>
   (ref35_word n ex1).bind fun v1 =>
   (app 40 l2 [v1]).bind fun l4 =>
   ref35_words_L1 n l1 kont1 mx1 (iadd .i64 i1 1) l4
  else
   kont1 l2
theorem ref35_words_L1_s (n : Nat) (l1 : (List Bs)) (kont1 : (List Token) → Option (List Token)) (mx1 : Nat) (i1 : Int) (l2 : List Token) : ref35_words_L1 n l1 kont1 (mx1 + 1) i1 l2 =
  bif decide (i1 < (l1.length : Int)) then
   (ix l1 i1).bind fun ex1 =>
   (ref35_word n ex1).bind fun v1 =>
   (app 40 l2 [v1]).bind fun l4 =>
   ref35_words_L1 n l1 kont1 mx1 (iadd .i64 i1 1) l4
  else
   kont1 l2 := rfl
def ref35_words (n : Nat) (l1 : (List Bs)) : Option (List Token) :=
 ref35_words_L1 n l1 (fun (l3 : List Token) =>
  some l3) n 0 []
set_option maxHeartbeats 1000000 in
set_option maxRecDepth 1000000 in
theorem ref35_words_ok (n : Nat) (l1 : (List Bs)) (r : (List Token)) (hm : ref35_words n l1 = some r) {w : World} {F : Frz} (hs : Sat F w) {as1 : Option Addr} {ns1 : Nat} {cs1 : Nat} (hs1 : SlR Rp.str F as1 ns1 cs1 l1) :
  Calls Tryz.prog 39 #[.slice as1 ns1 cs1] w fun e w' => ∃ v F' O', e = .returned v ∧ HS F w [] F' O' w' ∧ (∃ (a0_0 : Option Addr) (n0_0 : Nat) (c0_0 : Nat) (xs0_0 : List Value), v = .slice a0_0 n0_0 c0_0 ∧ O' = [.row 53 4 a0_0 n0_0 c0_0 xs0_0] ∧ RowN rp_Token F' n0_0 xs0_0 r) := by
 unfold ref35_words at hm
 have h := HS.init hs
 refine calls_of 21 Tryz.func39 rfl rfl rfl ?_
 refine c_seq (c_region (r_assign rfl rfl rfl (r_nil (q_then (c_seq (c_region ?_))))))
 refine r_buildSlice (e := 53) (cs := []) (q := 4) rfl rfl h rfl (fun _ => by kernel_rfl) rfl rfl ?_
 intro b1 wx1 hx1
 refine r_assign rfl rfl rfl (r_nil (q_then (c_seq (c_seq (c_region (r_assign rfl rfl rfl (r_nil (q_then (c_block ?_)))))))))
 intro a hax3
 obtain ⟨kont1, hkont1⟩ : ∃ kont1 : (List Token) → Option (List Token), kont1 = (fun (l3 : List Token) =>
       some l3) := ⟨_, rfl⟩
 replace hm : (fun m (s : Int × List Token) => ref35_words_L1 n l1 kont1 m s.1 s.2) n (0, []) = some r := by rw [hkont1]; exact hm
 refine loopX (id := 0) (fun m (s : Int × List Token) => ref35_words_L1 n l1 kont1 m s.1 s.2) (fun (y : List Token) => kont1 y) r (fun (s : Int × List Token) a w' => ∃ (Fx1 : Frz) (as2 : Option Addr) (ns2 : Nat) (cs2 : Nat) (xss2 : List Value), Frz.le F Fx1 ∧ HS F w [] Fx1 [.row 53 4 as2 ns2 cs2 xss2] w' ∧ (RowN rp_Token Fx1 ns2 xss2 s.2) ∧ Has 21 a [(0, .slice as1 ns1 cs1), (3, .slice as2 ns2 cs2), (4, .int .i64 s.1)]) (fun (y : List Token) a w' => ∃ (Fx2 : Frz) (as3 : Option Addr) (ns3 : Nat) (cs3 : Nat) (xss3 : List Value), Frz.le F Fx2 ∧ HS F w [] Fx2 [.row 53 4 as3 ns3 cs3 xss3] w' ∧ (RowN rp_Token Fx2 ns3 xss3 y) ∧ Has 21 a [(3, .slice as3 ns3 cs3)]) (fun _ => rfl) ?_ ?_ hm ⟨_, (some ⟨b1, 0, none⟩), 0, 0, [], Frz.refl _, hx1.pick [0] (by decide) rfl, ((show RowN rp_Token F 0 [] [] from ⟨rfl, (rfl : RowR rp_Token _ [] [])⟩)), hax3.cut (l := [0, 3, 4]) rfl⟩
 ·clear hm; rintro l3 a wx2 hm ⟨Fx2, as3, ns3, cs3, xss3, hF2, hx3, hs3, hax1⟩
  rw [hkont1] at hm
  replace hm := hm
  refine qw_apply (e := .exit 0) hax1 ?_
  refine q_block_hit (q_then (c_seq (c_region (r_move rfl rfl rfl (r_assign rfl rfl rfl (r_nil (q_then (c_ret ?_))))))))
  refine b_ret1 rfl rfl ?_
  obtain rfl := Option.some.inj hm
  exact ⟨_, _, _, rfl, hx3.pick [0] (by decide) rfl, as3, ns3, cs3, xss3, rfl, rfl, hs3⟩
 ·clear hm hkont1; intro hk1 mx1 K ihx1
  rintro ⟨i1, l2⟩ a wx3 hm ⟨Fx1, as2, ns2, cs2, xss2, hF1, hx2, hs2, hax2⟩
  simp only [ref35_words_L1_s] at hm
  refine cw_apply hax2 ?_
  refine c_seq (c_seq (c_region (r_move rfl rfl rfl (r_move rfl rfl rfl ?_))))
  refine r_lenS hs1.len u27 rfl rfl rfl ?_
  refine r_bin rfl rfl rfl rfl rfl ?_
  refine r_nil (q_then ?_)
  rcases cond_some hm with ⟨hb1, hm⟩ | ⟨hb1, hm⟩
  ·refine c_lit 9 rfl hb1 ?_
   refine c_true rfl (c_skip (q_then (c_seq (c_block (c_region (r_move rfl rfl rfl (r_move rfl rfl rfl (r_move rfl rfl rfl ?_))))))))
   obtain ⟨ex1, he1, hm⟩ := bind_some hm
   refine r_findex (r := Rp.str) u27 sz9 rfl rfl rfl rfl (hs1.mono hF1) he1 ?_
   intro b2 o1 cs1 hf1 hr1
   have hc1 : cs1 = [vs ex1] := hr1
   subst hc1
   refine r_loadF1 (j := 0) ag9 rfl rfl hx2 hf1 rfl rfl ?_
   obtain ⟨v1, hv1, hm⟩ := bind_some hm
   refine r_callG0 ent41 rfl rfl rfl rfl hx2 (ref35_word_ok _ _ _ hv1 hx2.sat) ?_
   rintro _ Fx3 _ wx4 hF3 hx4 ⟨rfl, rfl⟩
   refine r_buildSlice (e := 53) (cs := [.int .i64 v1.Kind, vs v1.Text, .int .i64 v1.N, .int .i64 v1.Pos]) (q := 4) rfl rfl hx4 rfl (fun _ => by kernel_rfl) rfl rfl ?_
   intro b3 wx5 hx5
   obtain ⟨l4, hr2, hm⟩ := bind_some hm
   refine r_appendN (r := rp_Token) ap45 rfl rfl hx5 rfl rfl (i := 1) (j := 0) rfl rfl (hs2.mono hF3) ((show RowN rp_Token Fx3 1 [.int .i64 v1.Kind, vs v1.Text, .int .i64 v1.N, .int .i64 v1.Pos] [v1] from ⟨rfl, ⟨_, _, rfl, rfl, (rfl : RowR rp_Token _ [] [])⟩⟩)) hr2 ?_
   intro as4 cs4 wx6 hx6 hs4
   refine r_assign rfl rfl rfl (r_nil (q_block (q_then (c_region (r_move rfl rfl rfl ?_)))))
   refine r_bin rfl rfl rfl rfl rfl ?_
   refine r_assign rfl rfl rfl (r_nil ?_)
   refine q_next (fun a ha => ihx1 ((iadd .i64 i1 1), l4) a _ hm ?_)
   exact ⟨_, as4, (ns2 + 1), cs4, (xss2 ++ [.int .i64 v1.Kind, vs v1.Text, .int .i64 v1.N, .int .i64 v1.Pos]), (hF1.trans hF3), hx6.pick [1] (by decide) rfl, hs4, ha.cut (l := [0, 3, 4]) rfl⟩
  ·refine c_lit 9 rfl hb1 ?_
   refine c_false rfl (c_exit (q_then_exit (q_then_exit ?_)))
   refine fun a ha => hk1 l2 a _ hm ?_
   exact ⟨_, as2, ns2, cs2, xss2, hF1, hx2.pick [0] (by decide) rfl, hs2, ha.cut (l := [3]) rfl⟩
def ref35_number_L1 (n : Nat) (kont1 : Int → Bs → Option Token) : Nat → Int → Bs → Option Token
 | 0, _, _ => none
 | mx1 + 1, nx2, s1 =>
  bif decide (9 < nx2) then
   (rem nx2 10).bind fun q1 =>
   (rem nx2 10).bind fun q2 =>
   (ssl [48, 49, 50, 51, 52, 53, 54, 55, 56, 57] q1 (iadd .i64 q2 1)).bind fun t3 =>
   (scat t3 s1).bind fun t4 =>
   (quo .i64 nx2 10).bind fun q3 =>
   ref35_number_L1 n kont1 mx1 q3 t4
  else
   kont1 nx2 s1
theorem ref35_number_L1_s (n : Nat) (kont1 : Int → Bs → Option Token) (mx1 : Nat) (nx2 : Int) (s1 : Bs) : ref35_number_L1 n kont1 (mx1 + 1) nx2 s1 =
  bif decide (9 < nx2) then
   (rem nx2 10).bind fun q1 =>
   (rem nx2 10).bind fun q2 =>
   (ssl [48, 49, 50, 51, 52, 53, 54, 55, 56, 57] q1 (iadd .i64 q2 1)).bind fun t3 =>
   (scat t3 s1).bind fun t4 =>
   (quo .i64 nx2 10).bind fun q3 =>
   ref35_number_L1 n kont1 mx1 q3 t4
  else
   kont1 nx2 s1 := rfl
def ref35_number (n : Nat) (nx1 : Int) : Option Token :=
 ref35_number_L1 n (fun (nx3 : Int) (s2 : Bs) =>
  (ssl [48, 49, 50, 51, 52, 53, 54, 55, 56, 57] nx3 (iadd .i64 nx3 1)).bind fun t1 =>
  (scat t1 s2).bind fun t2 =>
  some (⟨1, t2, 0, 0⟩ : Token)) n nx1 []
set_option maxHeartbeats 1000000 in
set_option maxRecDepth 1000000 in
theorem ref35_number_ok (n : Nat) (nx1 : Int) (r : Token) (hm : ref35_number n nx1 = some r) {w : World} {F : Frz} (hs : Sat F w)  :
  Calls Tryz.prog 42 #[.int .i64 nx1] w fun e w' => ∃ v F' O', e = .returned v ∧ HS F w [] F' O' w' ∧ (v = .agg #[.int .i64 r.Kind, vs r.Text, .int .i64 r.N, .int .i64 r.Pos] ∧ O' = []) := by
 unfold ref35_number at hm
 have h := HS.init hs
 refine calls_of 23 Tryz.func42 rfl rfl rfl ?_
 refine c_seq (c_region ?_)
 refine r_alloc ze53 rfl rfl rfl h ?_
 intro b1 wx1 hx1
 refine r_nil (q_then (c_seq (c_region (r_assign rfl rfl rfl (r_nil (q_then (c_seq (c_block ?_))))))))
 intro a hax3
 obtain ⟨kont1, hkont1⟩ : ∃ kont1 : Int → Bs → Option Token, kont1 = (fun (nx3 : Int) (s2 : Bs) =>
       (ssl [48, 49, 50, 51, 52, 53, 54, 55, 56, 57] nx3 (iadd .i64 nx3 1)).bind fun t1 =>
       (scat t1 s2).bind fun t2 =>
       some (⟨1, t2, 0, 0⟩ : Token)) := ⟨_, rfl⟩
 replace hm : (fun m (s : Int × Bs) => ref35_number_L1 n kont1 m s.1 s.2) n (nx1, []) = some r := by rw [hkont1]; exact hm
 refine loopX (id := 0) (fun m (s : Int × Bs) => ref35_number_L1 n kont1 m s.1 s.2) (fun (y : Int × Bs) => kont1 y.1 y.2) r (fun (s : Int × Bs) a w' => wx1 = w' ∧ Has 23 a [(0, .int .i64 s.1), (2, .pointer (some ⟨b1, 0, none⟩)), (3, vs s.2)]) (fun (y : Int × Bs) a w' => wx1 = w' ∧ Has 23 a [(0, .int .i64 y.1), (2, .pointer (some ⟨b1, 0, none⟩)), (3, vs y.2)]) (fun _ => rfl) ?_ ?_ hm ⟨rfl, hax3.cut (l := [0, 2, 3]) rfl⟩
 ·clear hm; rintro ⟨nx3, s2⟩ a wx2 hm ⟨rfl, hax1⟩
  rw [hkont1] at hm
  replace hm := hm
  refine qw_apply (e := .exit 0) hax1 ?_
  refine q_block_hit (q_then (c_seq (c_region (r_move rfl rfl rfl (r_move rfl rfl rfl ?_)))))
  refine r_bin rfl rfl rfl rfl rfl ?_
  obtain ⟨t1, hc1, hm⟩ := bind_some hm
  refine r_ssl_lh u9 rfl rfl rfl rfl rfl hc1 ?_
  refine r_move rfl rfl rfl ?_
  obtain ⟨t2, hq1, hm⟩ := bind_some hm
  refine r_cat rfl rfl rfl rfl hq1 ?_
  refine r_build (v := .agg #[.int .i64 1, vs t2, .int .i64 0, .int .i64 0]) rfl rfl rfl (fun _ => by kernel_rfl) ?_
  refine r_store sz53 rfl hx1 rfl rfl rfl rfl (i := 0) rfl rfl rfl rfl ?_
  intro wx3 hx2
  refine r_nil (q_then (c_ret ?_))
  refine b_retC rfl ag53 sz53 rfl hx2 rfl (i := 0) rfl ?_
  obtain rfl := Option.some.inj hm
  exact ⟨_, _, _, rfl, hx2.pick [] (by decide) rfl, rfl, rfl⟩
 ·clear hm hkont1; intro hk1 mx1 K ihx1
  rintro ⟨nx2, s1⟩ a wx4 hm ⟨rfl, hax2⟩
  simp only [ref35_number_L1_s] at hm
  refine cw_apply hax2 ?_
  refine c_seq (c_seq (c_region (r_move rfl rfl rfl ?_)))
  refine r_bin rfl rfl rfl rfl rfl ?_
  refine r_nil (q_then ?_)
  rcases cond_some hm with ⟨hb1, hm⟩ | ⟨hb1, hm⟩
  ·refine c_lit 5 rfl hb1 ?_
   refine c_true rfl (c_skip (q_then (c_block (c_seq (c_region (r_move rfl rfl rfl ?_))))))
   obtain ⟨q1, hq2, hm⟩ := bind_some hm
   refine r_rem rfl rfl rfl rfl hq2 ?_
   refine r_move rfl rfl rfl ?_
   obtain ⟨q2, hq3, hm⟩ := bind_some hm
   refine r_rem rfl rfl rfl rfl hq3 ?_
   refine r_bin rfl rfl rfl rfl rfl ?_
   obtain ⟨t3, hc2, hm⟩ := bind_some hm
   refine r_ssl_lh u9 rfl rfl rfl rfl rfl hc2 ?_
   refine r_move rfl rfl rfl ?_
   obtain ⟨t4, hq4, hm⟩ := bind_some hm
   refine r_cat rfl rfl rfl rfl hq4 ?_
   refine r_assign rfl rfl rfl (r_nil (q_then (c_region (r_move rfl rfl rfl ?_))))
   obtain ⟨q3, hq5, hm⟩ := bind_some hm
   refine r_quo rfl rfl rfl rfl hq5 ?_
   refine r_assign rfl rfl rfl (r_nil (q_block ?_))
   refine q_next (fun a ha => ihx1 (q3, t4) a _ hm ?_)
   exact ⟨rfl, ha.cut (l := [0, 2, 3]) rfl⟩
  ·refine c_lit 5 rfl hb1 ?_
   refine c_false rfl (c_exit (q_then_exit (q_then_exit ?_)))
   refine fun a ha => hk1 (nx2, s1) a _ hm ?_
   exact ⟨rfl, ha.cut (l := [0, 2, 3]) rfl⟩
theorem ent42 : Ent Tryz.prog 42 := fun _ _ => by kernel_rfl
theorem ent39 : Ent Tryz.prog 39 := fun _ _ => by kernel_rfl
def ref35_leaf (n : Nat) (x1 : Expr) : Option (List Token) :=
 bif x1.Op == 0 then
  (ref35_number n x1.N).bind fun v1 =>
  some [v1]
 else
  bif x1.Op == 2 then
   (ref35_words n [[112, 101, 114, 115, 111, 110, 115]]).bind fun v2 =>
   some v2
  else
   bif x1.Op == 3 then
    (ref35_words n [[102, 108, 97, 116, 115]]).bind fun v3 =>
    some v3
   else
    bif x1.Op == 1 then
     (ref35_words n [[108, 105, 102, 116, 115], [40], x1.Name, [41]]).bind fun v4 =>
     some v4
    else
     (ref35_words n [[119, 101, 105, 103, 104, 116], [40], x1.Name, [41]]).bind fun v5 =>
     some v5
set_option maxHeartbeats 1000000 in
set_option maxRecDepth 1000000 in
theorem ref35_leaf_ok (n : Nat) (x1 : Expr) (r : (List Token)) (hm : ref35_leaf n x1 = some r) {w : World} {F : Frz} (hs : Sat F w) {as1 : Option Addr} {ns1 : Nat} {cs1 : Nat} (_hs1 : SlR rp_Expr F as1 ns1 cs1 x1.Args) :
  Calls Tryz.prog 65 #[.agg #[.int .i64 x1.Op, .int .i64 x1.N, vs x1.Name, .slice as1 ns1 cs1]] w fun e w' => ∃ v F' O', e = .returned v ∧ HS F w [] F' O' w' ∧ (∃ (a0_0 : Option Addr) (n0_0 : Nat) (c0_0 : Nat) (xs0_0 : List Value), v = .slice a0_0 n0_0 c0_0 ∧ O' = [.row 53 4 a0_0 n0_0 c0_0 xs0_0] ∧ RowN rp_Token F' n0_0 xs0_0 r) := by
 unfold ref35_leaf at hm
 have h := HS.init hs
 refine calls_of 29 Tryz.func65 rfl rfl rfl ?_
 refine c_seq (c_region ?_)
 refine r_box rfl rfl rfl rfl h ?_
 intro b1 wx1 hx1
 refine r_assign rfl rfl rfl (r_nil (q_then (c_seq (c_seq (c_region ?_)))))
 refine r_fieldAddr fa24_0 rfl rfl rfl ?_
 refine r_loadB1 ag3 rfl rfl hx1 rfl (i := 0) rfl rfl ?_
 refine r_nil (q_then (c_block (c_seq (c_region ?_))))
 refine r_bin rfl rfl rfl rfl rfl ?_
 refine r_assign rfl rfl rfl (r_nil (q_then ?_))
 rcases cond_some hm with ⟨hb1, hm⟩ | ⟨hb1, hm⟩
 ·refine c_lit 5 rfl hb1 ?_
  refine c_true rfl (c_seq (c_region ?_))
  refine r_fieldAddr fa24_1 rfl rfl rfl ?_
  refine r_loadB1 ag3 rfl rfl hx1 rfl (i := 0) rfl rfl ?_
  obtain ⟨v1, hv1, hm⟩ := bind_some hm
  refine r_callG0 ent42 rfl rfl rfl rfl hx1 (ref35_number_ok _ _ _ hv1 hx1.sat) ?_
  rintro _ Fx1 _ wx2 hF1 hx2 ⟨rfl, rfl⟩
  refine r_buildSlice (e := 53) (cs := [.int .i64 v1.Kind, vs v1.Text, .int .i64 v1.N, .int .i64 v1.Pos]) (q := 4) rfl rfl hx2 rfl (fun _ => by kernel_rfl) rfl rfl ?_
  intro b2 wx3 hx3
  refine r_assign rfl rfl rfl (r_nil (q_then (c_ret (q_block_ret (q_then_ret ?_)))))
  refine b_ret1 rfl rfl ?_
  obtain rfl := Option.some.inj hm
  exact ⟨_, _, _, rfl, hx3.pick [0] (by decide) rfl, (some ⟨b2, 0, none⟩), 1, 1, [.int .i64 v1.Kind, vs v1.Text, .int .i64 v1.N, .int .i64 v1.Pos], rfl, rfl, ((show RowN rp_Token Fx1 1 [.int .i64 v1.Kind, vs v1.Text, .int .i64 v1.N, .int .i64 v1.Pos] [v1] from ⟨rfl, ⟨_, _, rfl, rfl, (rfl : RowR rp_Token _ [] [])⟩⟩))⟩
 ·refine c_lit 5 rfl hb1 ?_
  refine c_false rfl (c_seq (c_region ?_))
  refine r_bin rfl rfl rfl rfl rfl ?_
  refine r_assign rfl rfl rfl (r_nil (q_then ?_))
  rcases cond_some hm with ⟨hb2, hm⟩ | ⟨hb2, hm⟩
  ·refine c_lit 11 rfl hb2 ?_
   refine c_true rfl (c_seq (c_region ?_))
   refine r_buildSlice (e := 9) (cs := [vs [112, 101, 114, 115, 111, 110, 115]]) (q := 1) rfl rfl hx1 rfl (fun _ => by kernel_rfl) rfl rfl ?_
   intro b3 wx4 hx4
   obtain ⟨Fx2, hF2, hx5, hsx1⟩ := freezeRow hx4 (i := 0) rfl ((show RowN Rp.str F 1 [vs [112, 101, 114, 115, 111, 110, 115]] [[112, 101, 114, 115, 111, 110, 115]] from ⟨rfl, ⟨_, _, rfl, rfl, (rfl : RowR Rp.str _ [] [])⟩⟩))
   obtain ⟨v2, hv2, hm⟩ := bind_some hm
   refine r_callG0 ent39 rfl rfl rfl rfl hx5 (ref35_words_ok _ _ _ hv2 hx5.sat hsx1) ?_
   rintro _ Fx3 _ wx5 hF3 hx6 ⟨as2, ns2, cs2, xss2, rfl, rfl, hs2⟩
   refine r_assign rfl rfl rfl (r_nil (q_then (c_ret (q_block_ret (q_then_ret ?_)))))
   refine b_ret1 rfl rfl ?_
   obtain rfl := Option.some.inj hm
   exact ⟨_, _, _, rfl, hx6.pick [0] (by decide) rfl, as2, ns2, cs2, xss2, rfl, rfl, hs2⟩
  ·refine c_lit 11 rfl hb2 ?_
   refine c_false rfl (c_seq (c_region ?_))
   refine r_bin rfl rfl rfl rfl rfl ?_
   refine r_assign rfl rfl rfl (r_nil (q_then ?_))
   rcases cond_some hm with ⟨hb3, hm⟩ | ⟨hb3, hm⟩
   ·refine c_lit 15 rfl hb3 ?_
    refine c_true rfl (c_seq (c_region ?_))
    refine r_buildSlice (e := 9) (cs := [vs [102, 108, 97, 116, 115]]) (q := 1) rfl rfl hx1 rfl (fun _ => by kernel_rfl) rfl rfl ?_
    intro b4 wx6 hx7
    obtain ⟨Fx4, hF4, hx8, hsx2⟩ := freezeRow hx7 (i := 0) rfl ((show RowN Rp.str F 1 [vs [102, 108, 97, 116, 115]] [[102, 108, 97, 116, 115]] from ⟨rfl, ⟨_, _, rfl, rfl, (rfl : RowR Rp.str _ [] [])⟩⟩))
    obtain ⟨v3, hv3, hm⟩ := bind_some hm
    refine r_callG0 ent39 rfl rfl rfl rfl hx8 (ref35_words_ok _ _ _ hv3 hx8.sat hsx2) ?_
    rintro _ Fx5 _ wx7 hF5 hx9 ⟨as3, ns3, cs3, xss3, rfl, rfl, hs3⟩
    refine r_assign rfl rfl rfl (r_nil (q_then (c_ret (q_block_ret (q_then_ret ?_)))))
    refine b_ret1 rfl rfl ?_
    obtain rfl := Option.some.inj hm
    exact ⟨_, _, _, rfl, hx9.pick [0] (by decide) rfl, as3, ns3, cs3, xss3, rfl, rfl, hs3⟩
   ·refine c_lit 15 rfl hb3 ?_
    refine c_false rfl (c_seq (c_region ?_))
    refine r_bin rfl rfl rfl rfl rfl ?_
    refine r_assign rfl rfl rfl (r_nil (q_then ?_))
    rcases cond_some hm with ⟨hb4, hm⟩ | ⟨hb4, hm⟩
    ·refine c_lit 19 rfl hb4 ?_
     refine c_true rfl (c_seq (c_region ?_))
     refine r_fieldAddr fa24_2 rfl rfl rfl ?_
     refine r_loadB1 ag9 rfl rfl hx1 rfl (i := 0) rfl rfl ?_
     refine r_buildSlice (e := 9) (cs := [vs [108, 105, 102, 116, 115], vs [40], vs x1.Name, vs [41]]) (q := 1) rfl rfl hx1 rfl (fun _ => by kernel_rfl) rfl rfl ?_
     intro b5 wx8 hx10
     obtain ⟨Fx6, hF6, hx11, hsx3⟩ := freezeRow hx10 (i := 0) rfl ((show RowN Rp.str F 4 [vs [108, 105, 102, 116, 115], vs [40], vs x1.Name, vs [41]] [[108, 105, 102, 116, 115], [40], x1.Name, [41]] from ⟨rfl, ⟨_, _, rfl, rfl, ⟨_, _, rfl, rfl, ⟨_, _, rfl, rfl, ⟨_, _, rfl, rfl, (rfl : RowR Rp.str _ [] [])⟩⟩⟩⟩⟩))
     obtain ⟨v4, hv4, hm⟩ := bind_some hm
     refine r_callG0 ent39 rfl rfl rfl rfl hx11 (ref35_words_ok _ _ _ hv4 hx11.sat hsx3) ?_
     rintro _ Fx7 _ wx9 hF7 hx12 ⟨as4, ns4, cs4, xss4, rfl, rfl, hs4⟩
     refine r_assign rfl rfl rfl (r_nil (q_then (c_ret (q_block_ret (q_then_ret ?_)))))
     refine b_ret1 rfl rfl ?_
     obtain rfl := Option.some.inj hm
     exact ⟨_, _, _, rfl, hx12.pick [0] (by decide) rfl, as4, ns4, cs4, xss4, rfl, rfl, hs4⟩
    ·refine c_lit 19 rfl hb4 ?_
     refine c_false rfl (c_skip (q_block (q_then (c_seq (c_region ?_)))))
     refine r_fieldAddr fa24_2 rfl rfl rfl ?_
     refine r_loadB1 ag9 rfl rfl hx1 rfl (i := 0) rfl rfl ?_
     refine r_buildSlice (e := 9) (cs := [vs [119, 101, 105, 103, 104, 116], vs [40], vs x1.Name, vs [41]]) (q := 1) rfl rfl hx1 rfl (fun _ => by kernel_rfl) rfl rfl ?_
     intro b6 wx10 hx13
     obtain ⟨Fx8, hF8, hx14, hsx4⟩ := freezeRow hx13 (i := 0) rfl ((show RowN Rp.str F 4 [vs [119, 101, 105, 103, 104, 116], vs [40], vs x1.Name, vs [41]] [[119, 101, 105, 103, 104, 116], [40], x1.Name, [41]] from ⟨rfl, ⟨_, _, rfl, rfl, ⟨_, _, rfl, rfl, ⟨_, _, rfl, rfl, ⟨_, _, rfl, rfl, (rfl : RowR Rp.str _ [] [])⟩⟩⟩⟩⟩))
     obtain ⟨v5, hv5, hm⟩ := bind_some hm
     refine r_callG0 ent39 rfl rfl rfl rfl hx14 (ref35_words_ok _ _ _ hv5 hx14.sat hsx4) ?_
     rintro _ Fx9 _ wx11 hF9 hx15 ⟨as5, ns5, cs5, xss5, rfl, rfl, hs5⟩
     refine r_assign rfl rfl rfl (r_nil (q_then (c_ret ?_)))
     refine b_ret1 rfl rfl ?_
     obtain rfl := Option.some.inj hm
     exact ⟨_, _, _, rfl, hx15.pick [0] (by decide) rfl, as5, ns5, cs5, xss5, rfl, rfl, hs5⟩
theorem ent65 : Ent Tryz.prog 65 := fun _ _ => by kernel_rfl
theorem ent66 : Ent Tryz.prog 66 := fun _ _ => by kernel_rfl
theorem ent40 : Ent Tryz.prog 40 := fun _ _ => by kernel_rfl
mutual
def ref35_expr : Nat → Expr → Option (List Token)
 | 0, _ => none
 | n + 1, x1 =>
  bif (x1.Args.length : Int) == 0 then
   (ref35_leaf n x1).bind fun v1 =>
   some v1
  else
   bif x1.Op == 14 then
    ((ix x1.Args 0).bind fun ex1 =>
    (ref35_word n [110, 111, 116]).bind fun v3 =>
    (ref35_atom n ex1).bind fun v4 =>
    (app 40 [v3] v4).bind fun l1 =>
    some l1).bind fun v2 =>
    some v2
   else
    bif x1.Op == 11 then
     ((ix x1.Args 0).bind fun ex4 =>
     (ref35_word n [105, 102]).bind fun v9 =>
     (ref35_atom n ex4).bind fun v10 =>
     (app 40 [v9] v10).bind fun l7 =>
     some l7).bind fun l2 =>
     (ix x1.Args 1).bind fun ex2 =>
     (ref35_word n [116, 104, 101, 110]).bind fun v5 =>
     (app 40 l2 [v5]).bind fun l3 =>
     (ref35_atom n ex2).bind fun v6 =>
     (app 40 l3 v6).bind fun l4 =>
     (ix x1.Args 2).bind fun ex3 =>
     (ref35_word n [101, 108, 115, 101]).bind fun v7 =>
     (app 40 l4 [v7]).bind fun l5 =>
     (ref35_atom n ex3).bind fun v8 =>
     (app 40 l5 v8).bind fun l6 =>
     some l6
    else
     (bif x1.Op == 9 then
      some true
     else
      some (x1.Op == 10)).bind fun v11 =>
     bif v11 then
      (bif x1.Op == 10 then
       some [109, 97, 120]
      else
       some [109, 105, 110]).bind fun name1 =>
      (ix x1.Args 0).bind fun ex5 =>
      (ref35_words n [name1, [40]]).bind fun v12 =>
      (ref35_expr n ex5).bind fun v13 =>
      (app 40 v12 v13).bind fun l8 =>
      (ix x1.Args 1).bind fun ex6 =>
      (ref35_word n [44]).bind fun v14 =>
      (app 40 l8 [v14]).bind fun l9 =>
      (ref35_expr n ex6).bind fun v15 =>
      (app 40 l9 v15).bind fun l10 =>
      (ref35_word n [41]).bind fun v16 =>
      (app 40 l10 [v16]).bind fun l11 =>
      some l11
     else
      (ix x1.Args 0).bind fun ex7 =>
      (ix x1.Args 1).bind fun ex8 =>
      (ref35_atom n ex7).bind fun v17 =>
      (ref35_sign n x1.Op).bind fun v18 =>
      (ref35_word n v18).bind fun v19 =>
      (app 40 v17 [v19]).bind fun l12 =>
      (ref35_atom n ex8).bind fun v20 =>
      (app 40 l12 v20).bind fun l13 =>
      some l13
def ref35_atom : Nat → Expr → Option (List Token)
 | 0, _ => none
 | n + 1, x1 =>
  (ref35_expr n x1).bind fun v1 =>
  (bif (x1.Args.length : Int) == 0 then
   some true
  else
   some (x1.Op == 9)).bind fun v2 =>
  (bif v2 then
   some true
  else
   some (x1.Op == 10)).bind fun v3 =>
  bif v3 then
   some v1
  else
   (ref35_word n [40]).bind fun v4 =>
   (app 40 [v4] v1).bind fun l1 =>
   (ref35_word n [41]).bind fun v5 =>
   (app 40 l1 [v5]).bind fun l2 =>
   some l2
 end
theorem ref35_expr_s (n : Nat) (x1 : Expr) : ref35_expr (n + 1) x1 =
  bif (x1.Args.length : Int) == 0 then
   (ref35_leaf n x1).bind fun v1 =>
   some v1
  else
   bif x1.Op == 14 then
    ((ix x1.Args 0).bind fun ex1 =>
    (ref35_word n [110, 111, 116]).bind fun v3 =>
    (ref35_atom n ex1).bind fun v4 =>
    (app 40 [v3] v4).bind fun l1 =>
    some l1).bind fun v2 =>
    some v2
   else
    bif x1.Op == 11 then
     ((ix x1.Args 0).bind fun ex4 =>
     (ref35_word n [105, 102]).bind fun v9 =>
     (ref35_atom n ex4).bind fun v10 =>
     (app 40 [v9] v10).bind fun l7 =>
     some l7).bind fun l2 =>
     (ix x1.Args 1).bind fun ex2 =>
     (ref35_word n [116, 104, 101, 110]).bind fun v5 =>
     (app 40 l2 [v5]).bind fun l3 =>
     (ref35_atom n ex2).bind fun v6 =>
     (app 40 l3 v6).bind fun l4 =>
     (ix x1.Args 2).bind fun ex3 =>
     (ref35_word n [101, 108, 115, 101]).bind fun v7 =>
     (app 40 l4 [v7]).bind fun l5 =>
     (ref35_atom n ex3).bind fun v8 =>
     (app 40 l5 v8).bind fun l6 =>
     some l6
    else
     (bif x1.Op == 9 then
      some true
     else
      some (x1.Op == 10)).bind fun v11 =>
     bif v11 then
      (bif x1.Op == 10 then
       some [109, 97, 120]
      else
       some [109, 105, 110]).bind fun name1 =>
      (ix x1.Args 0).bind fun ex5 =>
      (ref35_words n [name1, [40]]).bind fun v12 =>
      (ref35_expr n ex5).bind fun v13 =>
      (app 40 v12 v13).bind fun l8 =>
      (ix x1.Args 1).bind fun ex6 =>
      (ref35_word n [44]).bind fun v14 =>
      (app 40 l8 [v14]).bind fun l9 =>
      (ref35_expr n ex6).bind fun v15 =>
      (app 40 l9 v15).bind fun l10 =>
      (ref35_word n [41]).bind fun v16 =>
      (app 40 l10 [v16]).bind fun l11 =>
      some l11
     else
      (ix x1.Args 0).bind fun ex7 =>
      (ix x1.Args 1).bind fun ex8 =>
      (ref35_atom n ex7).bind fun v17 =>
      (ref35_sign n x1.Op).bind fun v18 =>
      (ref35_word n v18).bind fun v19 =>
      (app 40 v17 [v19]).bind fun l12 =>
      (ref35_atom n ex8).bind fun v20 =>
      (app 40 l12 v20).bind fun l13 =>
      some l13 := rfl
theorem ref35_atom_s (n : Nat) (x1 : Expr) : ref35_atom (n + 1) x1 =
  (ref35_expr n x1).bind fun v1 =>
  (bif (x1.Args.length : Int) == 0 then
   some true
  else
   some (x1.Op == 9)).bind fun v2 =>
  (bif v2 then
   some true
  else
   some (x1.Op == 10)).bind fun v3 =>
  bif v3 then
   some v1
  else
   (ref35_word n [40]).bind fun v4 =>
   (app 40 [v4] v1).bind fun l1 =>
   (ref35_word n [41]).bind fun v5 =>
   (app 40 l1 [v5]).bind fun l2 =>
   some l2 := rfl
set_option maxHeartbeats 1000000 in
set_option maxRecDepth 1000000 in
theorem ref35_expr_all (n : Nat) : (∀ (x1 : Expr) (r : (List Token)) (_ : ref35_expr n x1 = some r) {w : World} {F : Frz} (_ : Sat F w) {as1 : Option Addr} {ns1 : Nat} {cs1 : Nat} (_ : SlR rp_Expr F as1 ns1 cs1 x1.Args), Calls Tryz.prog 40 #[.agg #[.int .i64 x1.Op, .int .i64 x1.N, vs x1.Name, .slice as1 ns1 cs1]] w fun e w' => ∃ v F' O', e = .returned v ∧ HS F w [] F' O' w' ∧ (∃ (a0_0 : Option Addr) (n0_0 : Nat) (c0_0 : Nat) (xs0_0 : List Value), v = .slice a0_0 n0_0 c0_0 ∧ O' = [.row 53 4 a0_0 n0_0 c0_0 xs0_0] ∧ RowN rp_Token F' n0_0 xs0_0 r)) ∧
  (∀ (x1 : Expr) (r : (List Token)) (_ : ref35_atom n x1 = some r) {w : World} {F : Frz} (_ : Sat F w) {as1 : Option Addr} {ns1 : Nat} {cs1 : Nat} (_ : SlR rp_Expr F as1 ns1 cs1 x1.Args), Calls Tryz.prog 66 #[.agg #[.int .i64 x1.Op, .int .i64 x1.N, vs x1.Name, .slice as1 ns1 cs1]] w fun e w' => ∃ v F' O', e = .returned v ∧ HS F w [] F' O' w' ∧ (∃ (a0_0 : Option Addr) (n0_0 : Nat) (c0_0 : Nat) (xs0_0 : List Value), v = .slice a0_0 n0_0 c0_0 ∧ O' = [.row 53 4 a0_0 n0_0 c0_0 xs0_0] ∧ RowN rp_Token F' n0_0 xs0_0 r)) := by
 induction n with
 | zero =>
  refine ⟨?_, ?_⟩
  ·intro x1 r hm
   exact absurd (show (none : Option (List Token)) = some r from hm) (by simp)
  ·intro x1 r hm
   exact absurd (show (none : Option (List Token)) = some r from hm) (by simp)
 | succ n ih =>
  refine ⟨?_, ?_⟩
  ·intro x1 r hm w F hs as1 ns1 cs1 hs1
   rw [ref35_expr_s] at hm
   have h := HS.init hs
   refine calls_of 105 Tryz.func40 rfl rfl rfl ?_
   refine c_seq (c_region ?_)
   refine r_box rfl rfl rfl rfl h ?_
   intro b1 wx1 hx1
   refine r_assign rfl rfl rfl (r_nil (q_then (c_seq (c_seq (c_region ?_)))))
   refine r_fieldAddr fa24_3 rfl rfl rfl ?_
   refine r_loadB1 ag22 rfl rfl hx1 rfl (i := 0) rfl rfl ?_
   refine r_lenS hs1.len u22 rfl rfl rfl ?_
   refine r_bin rfl rfl rfl rfl rfl ?_
   refine r_nil (q_then ?_)
   rcases cond_some hm with ⟨hb1, hm⟩ | ⟨hb1, hm⟩
   ·refine c_lit 9 rfl hb1 ?_
    refine c_true rfl (c_seq (c_region ?_))
    refine r_loadBW ag24 sz24 rfl rfl hx1 rfl (i := 0) rfl rfl ?_
    obtain ⟨v1, hv1, hm⟩ := bind_some hm
    refine r_callG0 ent65 rfl rfl rfl rfl hx1 (ref35_leaf_ok _ _ _ hv1 hx1.sat hs1) ?_
    rintro _ Fx1 _ wx2 hF1 hx2 ⟨as2, ns2, cs2, xss2, rfl, rfl, hs2⟩
    refine r_assign rfl rfl rfl (r_nil (q_then (c_ret (q_then_ret ?_))))
    refine b_ret1 rfl rfl ?_
    obtain rfl := Option.some.inj hm
    exact ⟨_, _, _, rfl, hx2.pick [0] (by decide) rfl, as2, ns2, cs2, xss2, rfl, rfl, hs2⟩
   ·refine c_lit 9 rfl hb1 ?_
    refine c_false rfl (c_skip (q_then (c_seq (c_seq (c_region ?_)))))
    refine r_fieldAddr fa24_0 rfl rfl rfl ?_
    refine r_loadB1 ag3 rfl rfl hx1 rfl (i := 0) rfl rfl ?_
    refine r_bin rfl rfl rfl rfl rfl ?_
    refine r_nil (q_then ?_)
    rcases cond_some hm with ⟨hb2, hm⟩ | ⟨hb2, hm⟩
    ·refine c_lit 14 rfl hb2 ?_
     refine c_true rfl ?_
     obtain ⟨v2, hb3, hm⟩ := bind_some hm
     refine c_mid (fun a w' => ∃ (Fx2 : Frz) (as3 : Option Addr) (ns3 : Nat) (cs3 : Nat) (xss3 : List Value), Frz.le F Fx2 ∧ HS F w [] Fx2 [.row 53 4 as3 ns3 cs3 xss3, .box b1 24 [.int .i64 x1.Op, .int .i64 x1.N, vs x1.Name, .slice as1 ns1 cs1]] w' ∧ (RowN rp_Token Fx2 ns3 xss3 v2) ∧ Has 105 a [(2, .slice as3 ns3 cs3)]) ?_ ?_
     ·rintro a wx3 ⟨Fx2, as3, ns3, cs3, xss3, hF2, hx3, hs3, hax1⟩
      refine cw_apply hax1 ?_
      refine c_ret (q_then_ret ?_)
      refine b_ret1 rfl rfl ?_
      obtain rfl := Option.some.inj hm
      exact ⟨_, _, _, rfl, hx3.pick [0] (by decide) rfl, as3, ns3, cs3, xss3, rfl, rfl, hs3⟩
     ·clear hm
      refine c_regionH (SH F [.box b1 24 [.int .i64 x1.Op, .int .i64 x1.N, vs x1.Name, .slice as1 ns1 cs1]]) 9 rfl (by kernel_rfl) hx1 ?_
      intro wx4 hx4
      refine d_tk 2 rfl (by kernel_rfl) rfl rfl rfl rfl (hx4.sh (Frz.refl _) [0] (by decide) rfl) (fun _ _ _ _ _ => r_fieldAddr fa24_3 rfl rfl rfl (r_nil (qq rfl))) ?_
      refine d_tk 3 rfl (by kernel_rfl) rfl rfl rfl rfl (hx4.sh (Frz.refl _) [0] (by decide) rfl) (fun _ _ _ _ hq => r_loadB1 ag22 rfl rfl hq rfl (i := 0) rfl rfl (r_nil (qq rfl))) ?_
      obtain ⟨ex1, he1, hb3⟩ := bind_some hb3
      obtain ⟨b2, o1, cs1, hf1, hr1, hrun1⟩ := findex_ex (P := Tryz.prog) (r := rp_Expr) u22 sz24 hs1 he1
      obtain ⟨as4, ns4, cs4, hc1, hs4⟩ := expr_iff.1 hr1
      subst hc1
      refine d_findex 4 rfl (by kernel_rfl) (by kernel_rfl) (by kernel_rfl) rfl rfl rfl rfl hrun1 (hx4.sh (Frz.refl _) [0] (by decide) rfl) ?_
      refine d_tk 5 rfl (by kernel_rfl) rfl rfl rfl rfl (hx4.sh (Frz.refl _) [0] (by decide) rfl) (fun _ _ _ hleq hq => r_loadFW ag24 sz24 rfl rfl hq (hf1.mono hleq) rfl rfl (r_nil (qq rfl))) ?_
      refine d_step 0 rfl (by kernel_rfl) ?_
      obtain ⟨v3, hv2, hb3⟩ := bind_some hb3
      refine r_callG0 ent41 rfl rfl rfl rfl hx4 (ref35_word_ok _ _ _ hv2 hx4.sat) ?_
      rintro _ Fx3 _ wx5 hF3 hx5 ⟨rfl, rfl⟩
      refine d_next (hx5.sh hF3 [0] (by decide) rfl) ?_
      refine d_two 1 6 rfl rfl (by kernel_rfl) ?_ ?_
      ·refine r_buildSlice (e := 53) (cs := [.int .i64 v3.Kind, vs v3.Text, .int .i64 v3.N, .int .i64 v3.Pos]) (q := 4) rfl rfl hx5 rfl (fun _ => by kernel_rfl) rfl rfl ?_
       intro b3 wx6 hx6
       refine d_next (hx6.sh hF3 [1] (by decide) rfl) ?_
       refine d_step 6 rfl (by kernel_rfl) ?_
       obtain ⟨v4, hv3, hb3⟩ := bind_some hb3
       refine r_callG0 ent66 rfl rfl rfl rfl hx6 (ih.2 _ _ hv3 hx6.sat (hs4.mono hF3)) ?_
       rintro _ Fx4 _ wx7 hF4 hx7 ⟨as5, ns5, cs5, xss5, rfl, rfl, hs5⟩
       refine d_next (hx7.sh (hF3.trans hF4) [2] (by decide) rfl) ?_
       refine d_step 7 rfl (by kernel_rfl) ?_
       obtain ⟨Fx5, hF5, hx8, hsx1⟩ := freezeRow hx7 (i := 0) rfl hs5
       obtain ⟨l1, hr2, hb3⟩ := bind_some hb3
       refine r_appendF (r := rp_Token) ap45 rfl rfl rfl hx8 rfl rfl (i := 0) rfl (((show RowN rp_Token Fx3 1 [.int .i64 v3.Kind, vs v3.Text, .int .i64 v3.N, .int .i64 v3.Pos] [v3] from ⟨rfl, ⟨_, _, rfl, rfl, (rfl : RowR rp_Token _ [] [])⟩⟩).mono hF4).mono hF5) hsx1 hr2 ?_
       intro as6 cs6 wx8 xss6 hx9 hs6
       refine d_next (hx9.sh ((hF3.trans hF4).trans hF5) [1] (by decide) rfl) ?_
       refine d_tk 8 rfl (by kernel_rfl) rfl rfl rfl rfl (hx9.sh ((hF3.trans hF4).trans hF5) [1] (by decide) rfl) (fun _ _ _ _ _ => r_assign rfl rfl rfl (r_nil (qq rfl))) ?_
       refine d_done (by kernel_rfl) ?_
       refine q_next (fun a ha => ?_)
       cases hb3
       exact ⟨_, as6, (1 + ns5), cs6, xss6, ((hF3.trans hF4).trans hF5), hx9.pick [0, 1] (by decide) rfl, hs6, ha.cut (l := [2]) rfl⟩
      ·obtain ⟨v4, hv3, hb3⟩ := bind_some hb3
       refine r_callG0 ent66 rfl rfl rfl rfl hx5 (ih.2 _ _ hv3 hx5.sat (hs4.mono hF3)) ?_
       rintro _ Fx4 _ wx6 hF4 hx6 ⟨as5, ns5, cs5, xss5, rfl, rfl, hs5⟩
       refine d_next (hx6.sh (hF3.trans hF4) [1] (by decide) rfl) ?_
       refine d_step 1 rfl (by kernel_rfl) ?_
       refine r_buildSlice (e := 53) (cs := [.int .i64 v3.Kind, vs v3.Text, .int .i64 v3.N, .int .i64 v3.Pos]) (q := 4) rfl rfl hx6 rfl (fun _ => by kernel_rfl) rfl rfl ?_
       intro b3 wx7 hx7
       refine d_next (hx7.sh (hF3.trans hF4) [2] (by decide) rfl) ?_
       refine d_step 7 rfl (by kernel_rfl) ?_
       obtain ⟨Fx5, hF5, hx8, hsx1⟩ := freezeRow hx7 (i := 1) rfl hs5
       obtain ⟨l1, hr2, hb3⟩ := bind_some hb3
       refine r_appendF (r := rp_Token) ap45 rfl rfl rfl hx8 rfl rfl (i := 0) rfl ((show RowN rp_Token Fx4 1 [.int .i64 v3.Kind, vs v3.Text, .int .i64 v3.N, .int .i64 v3.Pos] [v3] from ⟨rfl, ⟨_, _, rfl, rfl, (rfl : RowR rp_Token _ [] [])⟩⟩).mono hF5) hsx1 hr2 ?_
       intro as6 cs6 wx8 xss6 hx9 hs6
       refine d_next (hx9.sh ((hF3.trans hF4).trans hF5) [1] (by decide) rfl) ?_
       refine d_tk 8 rfl (by kernel_rfl) rfl rfl rfl rfl (hx9.sh ((hF3.trans hF4).trans hF5) [1] (by decide) rfl) (fun _ _ _ _ _ => r_assign rfl rfl rfl (r_nil (qq rfl))) ?_
       refine d_done (by kernel_rfl) ?_
       refine q_next (fun a ha => ?_)
       cases hb3
       exact ⟨_, as6, (1 + ns5), cs6, xss6, ((hF3.trans hF4).trans hF5), hx9.pick [0, 1] (by decide) rfl, hs6, ha.cut (l := [2]) rfl⟩
    ·refine c_lit 14 rfl hb2 ?_
     refine c_false rfl (c_skip (q_then (c_seq (c_seq (c_region ?_)))))
     refine r_fieldAddr fa24_0 rfl rfl rfl ?_
     refine r_loadB1 ag3 rfl rfl hx1 rfl (i := 0) rfl rfl ?_
     refine r_bin rfl rfl rfl rfl rfl ?_
     refine r_nil (q_then ?_)
     rcases cond_some hm with ⟨hb4, hm⟩ | ⟨hb4, hm⟩
     ·refine c_lit 25 rfl hb4 ?_
      refine c_true rfl ?_
      obtain ⟨l2, hb5, hm⟩ := bind_some hm
      refine c_mid (fun a w' => ∃ (Fx6 : Frz) (as7 : Option Addr) (ns7 : Nat) (cs7 : Nat) (xss7 : List Value), Frz.le F Fx6 ∧ HS F w [] Fx6 [.row 53 4 as7 ns7 cs7 xss7, .box b1 24 [.int .i64 x1.Op, .int .i64 x1.N, vs x1.Name, .slice as1 ns1 cs1]] w' ∧ (RowN rp_Token Fx6 ns7 xss7 l2) ∧ Has 105 a [(1, .pointer (some ⟨b1, 0, none⟩)), (3, .slice as7 ns7 cs7)]) ?_ ?_
      ·rintro a wx9 ⟨Fx6, as7, ns7, cs7, xss7, hF6, hx10, hs7, hax2⟩
       refine cw_apply hax2 ?_
       refine c_seq ?_
       refine c_regionH (SH Fx6 [.box b1 24 [.int .i64 x1.Op, .int .i64 x1.N, vs x1.Name, .slice as1 ns1 cs1]]) 11 rfl (by kernel_rfl) hx10 ?_
       intro wx10 hx11
       refine d_tk 0 rfl (by kernel_rfl) rfl rfl rfl rfl (hx11.sh (Frz.refl _) [1] (by decide) rfl) (fun _ _ _ _ _ => r_move rfl rfl rfl (r_nil (qq rfl))) ?_
       refine d_tk 4 rfl (by kernel_rfl) rfl rfl rfl rfl (hx11.sh (Frz.refl _) [1] (by decide) rfl) (fun _ _ _ _ _ => r_fieldAddr fa24_3 rfl rfl rfl (r_nil (qq rfl))) ?_
       refine d_tk 5 rfl (by kernel_rfl) rfl rfl rfl rfl (hx11.sh (Frz.refl _) [1] (by decide) rfl) (fun _ _ _ _ hq => r_loadB1 ag22 rfl rfl hq rfl (i := 0) rfl rfl (r_nil (qq rfl))) ?_
       obtain ⟨ex2, he2, hm⟩ := bind_some hm
       obtain ⟨b4, o2, cs2, hf2, hr3, hrun2⟩ := findex_ex (P := Tryz.prog) (r := rp_Expr) u22 sz24 (hs1.mono hF6) he2
       obtain ⟨as8, ns8, cs8, hc2, hs8⟩ := expr_iff.1 hr3
       subst hc2
       refine d_findex 6 rfl (by kernel_rfl) (by kernel_rfl) (by kernel_rfl) rfl rfl rfl rfl hrun2 (hx11.sh (Frz.refl _) [1] (by decide) rfl) ?_
       refine d_tk 7 rfl (by kernel_rfl) rfl rfl rfl rfl (hx11.sh (Frz.refl _) [1] (by decide) rfl) (fun _ _ _ hleq hq => r_loadFW ag24 sz24 rfl rfl hq (hf2.mono hleq) rfl rfl (r_nil (qq rfl))) ?_
       refine d_step 1 rfl (by kernel_rfl) ?_
       obtain ⟨v5, hv4, hm⟩ := bind_some hm
       refine r_callG0 ent41 rfl rfl rfl rfl hx11 (ref35_word_ok _ _ _ hv4 hx11.sat) ?_
       rintro _ Fx7 _ wx11 hF7 hx12 ⟨rfl, rfl⟩
       refine d_next (hx12.sh hF7 [1] (by decide) rfl) ?_
       refine d_step 2 rfl (by kernel_rfl) ?_
       refine r_buildSlice (e := 53) (cs := [.int .i64 v5.Kind, vs v5.Text, .int .i64 v5.N, .int .i64 v5.Pos]) (q := 4) rfl rfl hx12 rfl (fun _ => by kernel_rfl) rfl rfl ?_
       intro b5 wx12 hx13
       refine d_next (hx13.sh hF7 [2] (by decide) rfl) ?_
       refine d_step 3 rfl (by kernel_rfl) ?_
       obtain ⟨l3, hr4, hm⟩ := bind_some hm
       refine r_appendN (r := rp_Token) ap45 rfl rfl hx13 rfl rfl (i := 1) (j := 0) rfl rfl (hs7.mono hF7) ((show RowN rp_Token Fx7 1 [.int .i64 v5.Kind, vs v5.Text, .int .i64 v5.N, .int .i64 v5.Pos] [v5] from ⟨rfl, ⟨_, _, rfl, rfl, (rfl : RowR rp_Token _ [] [])⟩⟩)) hr4 ?_
       intro as9 cs9 wx13 hx14 hs9
       refine d_next (hx14.sh hF7 [2] (by decide) rfl) ?_
       refine d_step 8 rfl (by kernel_rfl) ?_
       obtain ⟨v6, hv5, hm⟩ := bind_some hm
       refine r_callG0 ent66 rfl rfl rfl rfl hx14 (ih.2 _ _ hv5 hx14.sat (hs8.mono hF7)) ?_
       rintro _ Fx8 _ wx14 hF8 hx15 ⟨as10, ns10, cs10, xss10, rfl, rfl, hs10⟩
       refine d_next (hx15.sh (hF7.trans hF8) [3] (by decide) rfl) ?_
       refine d_step 9 rfl (by kernel_rfl) ?_
       obtain ⟨Fx9, hF9, hx16, hsx2⟩ := freezeRow hx15 (i := 0) rfl hs10
       obtain ⟨l4, hr5, hm⟩ := bind_some hm
       refine r_appendF (r := rp_Token) ap45 rfl rfl rfl hx16 rfl rfl (i := 1) rfl ((hs9.mono hF8).mono hF9) hsx2 hr5 ?_
       intro as11 cs11 wx15 xss11 hx17 hs11
       refine d_next (hx17.sh ((hF7.trans hF8).trans hF9) [2] (by decide) rfl) ?_
       refine d_tk 10 rfl (by kernel_rfl) rfl rfl rfl rfl (hx17.sh ((hF7.trans hF8).trans hF9) [2] (by decide) rfl) (fun _ _ _ _ _ => r_assign rfl rfl rfl (r_nil (qq rfl))) ?_
       refine d_done (by kernel_rfl) ?_
       refine q_then (c_seq ?_)
       refine c_regionH (SH Fx9 [.row 53 4 (some ⟨b5, 0, none⟩) 1 1 [.int .i64 v5.Kind, vs v5.Text, .int .i64 v5.N, .int .i64 v5.Pos], .box b1 24 [.int .i64 x1.Op, .int .i64 x1.N, vs x1.Name, .slice as1 ns1 cs1]]) 11 rfl (by kernel_rfl) hx17 ?_
       intro wx16 hx18
       refine d_tk 0 rfl (by kernel_rfl) rfl rfl rfl rfl (hx18.sh (Frz.refl _) [0, 2] (by decide) rfl) (fun _ _ _ _ _ => r_move rfl rfl rfl (r_nil (qq rfl))) ?_
       refine d_tk 4 rfl (by kernel_rfl) rfl rfl rfl rfl (hx18.sh (Frz.refl _) [0, 2] (by decide) rfl) (fun _ _ _ _ _ => r_fieldAddr fa24_3 rfl rfl rfl (r_nil (qq rfl))) ?_
       refine d_tk 5 rfl (by kernel_rfl) rfl rfl rfl rfl (hx18.sh (Frz.refl _) [0, 2] (by decide) rfl) (fun _ _ _ _ hq => r_loadB1 ag22 rfl rfl hq rfl (i := 1) rfl rfl (r_nil (qq rfl))) ?_
       obtain ⟨ex3, he3, hm⟩ := bind_some hm
       obtain ⟨b6, o3, cs3, hf3, hr6, hrun3⟩ := findex_ex (P := Tryz.prog) (r := rp_Expr) u22 sz24 ((((hs1.mono hF6).mono hF7).mono hF8).mono hF9) he3
       obtain ⟨as12, ns12, cs12, hc3, hs12⟩ := expr_iff.1 hr6
       subst hc3
       refine d_findex 6 rfl (by kernel_rfl) (by kernel_rfl) (by kernel_rfl) rfl rfl rfl rfl hrun3 (hx18.sh (Frz.refl _) [0, 2] (by decide) rfl) ?_
       refine d_tk 7 rfl (by kernel_rfl) rfl rfl rfl rfl (hx18.sh (Frz.refl _) [0, 2] (by decide) rfl) (fun _ _ _ hleq hq => r_loadFW ag24 sz24 rfl rfl hq (hf3.mono hleq) rfl rfl (r_nil (qq rfl))) ?_
       refine d_step 1 rfl (by kernel_rfl) ?_
       obtain ⟨v7, hv6, hm⟩ := bind_some hm
       refine r_callG0 ent41 rfl rfl rfl rfl hx18 (ref35_word_ok _ _ _ hv6 hx18.sat) ?_
       rintro _ Fx10 _ wx17 hF10 hx19 ⟨rfl, rfl⟩
       refine d_next (hx19.sh hF10 [0, 2] (by decide) rfl) ?_
       refine d_step 2 rfl (by kernel_rfl) ?_
       refine r_buildSlice (e := 53) (cs := [.int .i64 v7.Kind, vs v7.Text, .int .i64 v7.N, .int .i64 v7.Pos]) (q := 4) rfl rfl hx19 rfl (fun _ => by kernel_rfl) rfl rfl ?_
       intro b7 wx18 hx20
       refine d_next (hx20.sh hF10 [1, 3] (by decide) rfl) ?_
       refine d_step 3 rfl (by kernel_rfl) ?_
       obtain ⟨l5, hr7, hm⟩ := bind_some hm
       refine r_appendN (r := rp_Token) ap45 rfl rfl hx20 rfl rfl (i := 2) (j := 0) rfl rfl (hs11.mono hF10) ((show RowN rp_Token Fx10 1 [.int .i64 v7.Kind, vs v7.Text, .int .i64 v7.N, .int .i64 v7.Pos] [v7] from ⟨rfl, ⟨_, _, rfl, rfl, (rfl : RowR rp_Token _ [] [])⟩⟩)) hr7 ?_
       intro as13 cs13 wx19 hx21 hs13
       refine d_next (hx21.sh hF10 [1, 3] (by decide) rfl) ?_
       refine d_step 8 rfl (by kernel_rfl) ?_
       obtain ⟨v8, hv7, hm⟩ := bind_some hm
       refine r_callG0 ent66 rfl rfl rfl rfl hx21 (ih.2 _ _ hv7 hx21.sat (hs12.mono hF10)) ?_
       rintro _ Fx11 _ wx20 hF11 hx22 ⟨as14, ns14, cs14, xss14, rfl, rfl, hs14⟩
       refine d_next (hx22.sh (hF10.trans hF11) [2, 4] (by decide) rfl) ?_
       refine d_step 9 rfl (by kernel_rfl) ?_
       obtain ⟨Fx12, hF12, hx23, hsx3⟩ := freezeRow hx22 (i := 0) rfl hs14
       obtain ⟨l6, hr8, hm⟩ := bind_some hm
       refine r_appendF (r := rp_Token) ap45 rfl rfl rfl hx23 rfl rfl (i := 2) rfl ((hs13.mono hF11).mono hF12) hsx3 hr8 ?_
       intro as15 cs15 wx21 xss15 hx24 hs15
       refine d_next (hx24.sh ((hF10.trans hF11).trans hF12) [1, 3] (by decide) rfl) ?_
       refine d_tk 10 rfl (by kernel_rfl) rfl rfl rfl rfl (hx24.sh ((hF10.trans hF11).trans hF12) [1, 3] (by decide) rfl) (fun _ _ _ _ _ => r_assign rfl rfl rfl (r_nil (qq rfl))) ?_
       refine d_done (by kernel_rfl) ?_
       refine q_then (c_ret (q_then_ret ?_))
       refine b_ret1 rfl rfl ?_
       obtain rfl := Option.some.inj hm
       exact ⟨_, _, _, rfl, hx24.pick [2] (by decide) rfl, as15, ((((ns7 + 1) + ns10) + 1) + ns14), cs15, xss15, rfl, rfl, hs15⟩
      ·clear hm
       refine c_regionH (SH F [.box b1 24 [.int .i64 x1.Op, .int .i64 x1.N, vs x1.Name, .slice as1 ns1 cs1]]) 9 rfl (by kernel_rfl) hx1 ?_
       intro wx22 hx25
       refine d_tk 2 rfl (by kernel_rfl) rfl rfl rfl rfl (hx25.sh (Frz.refl _) [0] (by decide) rfl) (fun _ _ _ _ _ => r_fieldAddr fa24_3 rfl rfl rfl (r_nil (qq rfl))) ?_
       refine d_tk 3 rfl (by kernel_rfl) rfl rfl rfl rfl (hx25.sh (Frz.refl _) [0] (by decide) rfl) (fun _ _ _ _ hq => r_loadB1 ag22 rfl rfl hq rfl (i := 0) rfl rfl (r_nil (qq rfl))) ?_
       obtain ⟨ex4, he4, hb5⟩ := bind_some hb5
       obtain ⟨b8, o4, cs4, hf4, hr9, hrun4⟩ := findex_ex (P := Tryz.prog) (r := rp_Expr) u22 sz24 hs1 he4
       obtain ⟨as16, ns16, cs16, hc4, hs16⟩ := expr_iff.1 hr9
       subst hc4
       refine d_findex 4 rfl (by kernel_rfl) (by kernel_rfl) (by kernel_rfl) rfl rfl rfl rfl hrun4 (hx25.sh (Frz.refl _) [0] (by decide) rfl) ?_
       refine d_tk 5 rfl (by kernel_rfl) rfl rfl rfl rfl (hx25.sh (Frz.refl _) [0] (by decide) rfl) (fun _ _ _ hleq hq => r_loadFW ag24 sz24 rfl rfl hq (hf4.mono hleq) rfl rfl (r_nil (qq rfl))) ?_
       refine d_step 0 rfl (by kernel_rfl) ?_
       obtain ⟨v9, hv8, hb5⟩ := bind_some hb5
       refine r_callG0 ent41 rfl rfl rfl rfl hx25 (ref35_word_ok _ _ _ hv8 hx25.sat) ?_
       rintro _ Fx13 _ wx23 hF13 hx26 ⟨rfl, rfl⟩
       refine d_next (hx26.sh hF13 [0] (by decide) rfl) ?_
       refine d_two 1 6 rfl rfl (by kernel_rfl) ?_ ?_
       ·refine r_buildSlice (e := 53) (cs := [.int .i64 v9.Kind, vs v9.Text, .int .i64 v9.N, .int .i64 v9.Pos]) (q := 4) rfl rfl hx26 rfl (fun _ => by kernel_rfl) rfl rfl ?_
        intro b9 wx24 hx27
        refine d_next (hx27.sh hF13 [1] (by decide) rfl) ?_
        refine d_step 6 rfl (by kernel_rfl) ?_
        obtain ⟨v10, hv9, hb5⟩ := bind_some hb5
        refine r_callG0 ent66 rfl rfl rfl rfl hx27 (ih.2 _ _ hv9 hx27.sat (hs16.mono hF13)) ?_
        rintro _ Fx14 _ wx25 hF14 hx28 ⟨as17, ns17, cs17, xss17, rfl, rfl, hs17⟩
        refine d_next (hx28.sh (hF13.trans hF14) [2] (by decide) rfl) ?_
        refine d_step 7 rfl (by kernel_rfl) ?_
        obtain ⟨Fx15, hF15, hx29, hsx4⟩ := freezeRow hx28 (i := 0) rfl hs17
        obtain ⟨l7, hr10, hb5⟩ := bind_some hb5
        refine r_appendF (r := rp_Token) ap45 rfl rfl rfl hx29 rfl rfl (i := 0) rfl (((show RowN rp_Token Fx13 1 [.int .i64 v9.Kind, vs v9.Text, .int .i64 v9.N, .int .i64 v9.Pos] [v9] from ⟨rfl, ⟨_, _, rfl, rfl, (rfl : RowR rp_Token _ [] [])⟩⟩).mono hF14).mono hF15) hsx4 hr10 ?_
        intro as18 cs18 wx26 xss18 hx30 hs18
        refine d_next (hx30.sh ((hF13.trans hF14).trans hF15) [1] (by decide) rfl) ?_
        refine d_tk 8 rfl (by kernel_rfl) rfl rfl rfl rfl (hx30.sh ((hF13.trans hF14).trans hF15) [1] (by decide) rfl) (fun _ _ _ _ _ => r_assign rfl rfl rfl (r_nil (qq rfl))) ?_
        refine d_done (by kernel_rfl) ?_
        refine q_next (fun a ha => ?_)
        cases hb5
        exact ⟨_, as18, (1 + ns17), cs18, xss18, ((hF13.trans hF14).trans hF15), hx30.pick [0, 1] (by decide) rfl, hs18, ha.cut (l := [1, 3]) rfl⟩
       ·obtain ⟨v10, hv9, hb5⟩ := bind_some hb5
        refine r_callG0 ent66 rfl rfl rfl rfl hx26 (ih.2 _ _ hv9 hx26.sat (hs16.mono hF13)) ?_
        rintro _ Fx14 _ wx24 hF14 hx27 ⟨as17, ns17, cs17, xss17, rfl, rfl, hs17⟩
        refine d_next (hx27.sh (hF13.trans hF14) [1] (by decide) rfl) ?_
        refine d_step 1 rfl (by kernel_rfl) ?_
        refine r_buildSlice (e := 53) (cs := [.int .i64 v9.Kind, vs v9.Text, .int .i64 v9.N, .int .i64 v9.Pos]) (q := 4) rfl rfl hx27 rfl (fun _ => by kernel_rfl) rfl rfl ?_
        intro b9 wx25 hx28
        refine d_next (hx28.sh (hF13.trans hF14) [2] (by decide) rfl) ?_
        refine d_step 7 rfl (by kernel_rfl) ?_
        obtain ⟨Fx15, hF15, hx29, hsx4⟩ := freezeRow hx28 (i := 1) rfl hs17
        obtain ⟨l7, hr10, hb5⟩ := bind_some hb5
        refine r_appendF (r := rp_Token) ap45 rfl rfl rfl hx29 rfl rfl (i := 0) rfl ((show RowN rp_Token Fx14 1 [.int .i64 v9.Kind, vs v9.Text, .int .i64 v9.N, .int .i64 v9.Pos] [v9] from ⟨rfl, ⟨_, _, rfl, rfl, (rfl : RowR rp_Token _ [] [])⟩⟩).mono hF15) hsx4 hr10 ?_
        intro as18 cs18 wx26 xss18 hx30 hs18
        refine d_next (hx30.sh ((hF13.trans hF14).trans hF15) [1] (by decide) rfl) ?_
        refine d_tk 8 rfl (by kernel_rfl) rfl rfl rfl rfl (hx30.sh ((hF13.trans hF14).trans hF15) [1] (by decide) rfl) (fun _ _ _ _ _ => r_assign rfl rfl rfl (r_nil (qq rfl))) ?_
        refine d_done (by kernel_rfl) ?_
        refine q_next (fun a ha => ?_)
        cases hb5
        exact ⟨_, as18, (1 + ns17), cs18, xss18, ((hF13.trans hF14).trans hF15), hx30.pick [0, 1] (by decide) rfl, hs18, ha.cut (l := [1, 3]) rfl⟩
     ·refine c_lit 25 rfl hb4 ?_
      refine c_false rfl (c_skip (q_then (c_seq (c_seq (c_region ?_)))))
      refine r_fieldAddr fa24_0 rfl rfl rfl ?_
      refine r_loadB1 ag3 rfl rfl hx1 rfl (i := 0) rfl rfl ?_
      refine r_bin rfl rfl rfl rfl rfl ?_
      refine r_move rfl rfl rfl ?_
      obtain ⟨v11, hb6, hm⟩ := bind_some hm
      refine r_mid 4 (fun a w' => wx1 = w' ∧ Has 105 a [(1, .pointer (some ⟨b1, 0, none⟩)), (61, .bool v11)]) ?_ ?_
      ·rintro a wx27 ⟨rfl, hax3⟩
       refine rw_apply hax3 ?_
       refine r_nil (q_then ?_)
       rcases cond_some hm with ⟨hb7, hm⟩ | ⟨hb7, hm⟩
       ·refine c_lit 61 rfl hb7 ?_
        refine c_true rfl (c_seq (c_region (r_assign rfl rfl rfl (r_nil (q_then (c_seq (c_seq (c_region ?_))))))))
        refine r_fieldAddr fa24_0 rfl rfl rfl ?_
        refine r_loadB1 ag3 rfl rfl hx1 rfl (i := 0) rfl rfl ?_
        refine r_bin rfl rfl rfl rfl rfl ?_
        refine r_nil (q_then ?_)
        obtain ⟨name1, hb8, hm⟩ := bind_some hm
        refine c_midT (fun a w' => wx1 = w' ∧ Has 105 a [(1, .pointer (some ⟨b1, 0, none⟩)), (4, vs name1)]) ?_ ?_
        ·rintro a wx28 ⟨rfl, hax4⟩
         refine cw_apply hax4 ?_
         refine c_seq ?_
         refine c_regionH (SH F [.box b1 24 [.int .i64 x1.Op, .int .i64 x1.N, vs x1.Name, .slice as1 ns1 cs1]]) 10 rfl (by kernel_rfl) hx1 ?_
         intro wx29 hx31
         refine d_tk 0 rfl (by kernel_rfl) rfl rfl rfl rfl (hx31.sh (Frz.refl _) [0] (by decide) rfl) (fun _ _ _ _ _ => r_move rfl rfl rfl (r_nil (qq rfl))) ?_
         refine d_tk 3 rfl (by kernel_rfl) rfl rfl rfl rfl (hx31.sh (Frz.refl _) [0] (by decide) rfl) (fun _ _ _ _ _ => r_fieldAddr fa24_3 rfl rfl rfl (r_nil (qq rfl))) ?_
         refine d_tk 4 rfl (by kernel_rfl) rfl rfl rfl rfl (hx31.sh (Frz.refl _) [0] (by decide) rfl) (fun _ _ _ _ hq => r_loadB1 ag22 rfl rfl hq rfl (i := 0) rfl rfl (r_nil (qq rfl))) ?_
         obtain ⟨ex5, he5, hm⟩ := bind_some hm
         obtain ⟨b10, o5, cs5, hf5, hr11, hrun5⟩ := findex_ex (P := Tryz.prog) (r := rp_Expr) u22 sz24 hs1 he5
         obtain ⟨as19, ns19, cs19, hc5, hs19⟩ := expr_iff.1 hr11
         subst hc5
         refine d_findex 5 rfl (by kernel_rfl) (by kernel_rfl) (by kernel_rfl) rfl rfl rfl rfl hrun5 (hx31.sh (Frz.refl _) [0] (by decide) rfl) ?_
         refine d_tk 6 rfl (by kernel_rfl) rfl rfl rfl rfl (hx31.sh (Frz.refl _) [0] (by decide) rfl) (fun _ _ _ hleq hq => r_loadFW ag24 sz24 rfl rfl hq (hf5.mono hleq) rfl rfl (r_nil (qq rfl))) ?_
         refine d_step 1 rfl (by kernel_rfl) ?_
         refine r_buildSlice (e := 9) (cs := [vs name1, vs [40]]) (q := 1) rfl rfl hx31 rfl (fun _ => by kernel_rfl) rfl rfl ?_
         intro b11 wx30 hx32
         refine d_next (hx32.sh (Frz.refl _) [1] (by decide) rfl) ?_
         refine d_step 2 rfl (by kernel_rfl) ?_
         obtain ⟨Fx16, hF16, hx33, hsx5⟩ := freezeRow hx32 (i := 0) rfl ((show RowN Rp.str F 2 [vs name1, vs [40]] [name1, [40]] from ⟨rfl, ⟨_, _, rfl, rfl, ⟨_, _, rfl, rfl, (rfl : RowR Rp.str _ [] [])⟩⟩⟩))
         obtain ⟨v12, hv10, hm⟩ := bind_some hm
         refine r_callG0 ent39 rfl rfl rfl rfl hx33 (ref35_words_ok _ _ _ hv10 hx33.sat hsx5) ?_
         rintro _ Fx17 _ wx31 hF17 hx34 ⟨as20, ns20, cs20, xss20, rfl, rfl, hs20⟩
         refine d_next (hx34.sh (hF16.trans hF17) [1] (by decide) rfl) ?_
         refine d_step 7 rfl (by kernel_rfl) ?_
         obtain ⟨v13, hv11, hm⟩ := bind_some hm
         refine r_callG0 ent40 rfl rfl rfl rfl hx34 (ih.1 _ _ hv11 hx34.sat ((hs19.mono hF16).mono hF17)) ?_
         rintro _ Fx18 _ wx32 hF18 hx35 ⟨as21, ns21, cs21, xss21, rfl, rfl, hs21⟩
         refine d_next (hx35.sh ((hF16.trans hF17).trans hF18) [2] (by decide) rfl) ?_
         refine d_step 8 rfl (by kernel_rfl) ?_
         obtain ⟨Fx19, hF19, hx36, hsx6⟩ := freezeRow hx35 (i := 0) rfl hs21
         obtain ⟨l8, hr12, hm⟩ := bind_some hm
         refine r_appendF (r := rp_Token) ap45 rfl rfl rfl hx36 rfl rfl (i := 0) rfl ((hs20.mono hF18).mono hF19) hsx6 hr12 ?_
         intro as22 cs22 wx33 xss22 hx37 hs22
         refine d_next (hx37.sh (((hF16.trans hF17).trans hF18).trans hF19) [1] (by decide) rfl) ?_
         refine d_tk 9 rfl (by kernel_rfl) rfl rfl rfl rfl (hx37.sh (((hF16.trans hF17).trans hF18).trans hF19) [1] (by decide) rfl) (fun _ _ _ _ _ => r_assign rfl rfl rfl (r_nil (qq rfl))) ?_
         refine d_done (by kernel_rfl) ?_
         refine q_then (c_seq ?_)
         refine c_regionH (SH Fx19 [.box b1 24 [.int .i64 x1.Op, .int .i64 x1.N, vs x1.Name, .slice as1 ns1 cs1]]) 11 rfl (by kernel_rfl) hx37 ?_
         intro wx34 hx38
         refine d_tk 0 rfl (by kernel_rfl) rfl rfl rfl rfl (hx38.sh (Frz.refl _) [1] (by decide) rfl) (fun _ _ _ _ _ => r_move rfl rfl rfl (r_nil (qq rfl))) ?_
         refine d_tk 4 rfl (by kernel_rfl) rfl rfl rfl rfl (hx38.sh (Frz.refl _) [1] (by decide) rfl) (fun _ _ _ _ _ => r_fieldAddr fa24_3 rfl rfl rfl (r_nil (qq rfl))) ?_
         refine d_tk 5 rfl (by kernel_rfl) rfl rfl rfl rfl (hx38.sh (Frz.refl _) [1] (by decide) rfl) (fun _ _ _ _ hq => r_loadB1 ag22 rfl rfl hq rfl (i := 0) rfl rfl (r_nil (qq rfl))) ?_
         obtain ⟨ex6, he6, hm⟩ := bind_some hm
         obtain ⟨b12, o6, cs6, hf6, hr13, hrun6⟩ := findex_ex (P := Tryz.prog) (r := rp_Expr) u22 sz24 ((((hs1.mono hF16).mono hF17).mono hF18).mono hF19) he6
         obtain ⟨as23, ns23, cs23, hc6, hs23⟩ := expr_iff.1 hr13
         subst hc6
         refine d_findex 6 rfl (by kernel_rfl) (by kernel_rfl) (by kernel_rfl) rfl rfl rfl rfl hrun6 (hx38.sh (Frz.refl _) [1] (by decide) rfl) ?_
         refine d_tk 7 rfl (by kernel_rfl) rfl rfl rfl rfl (hx38.sh (Frz.refl _) [1] (by decide) rfl) (fun _ _ _ hleq hq => r_loadFW ag24 sz24 rfl rfl hq (hf6.mono hleq) rfl rfl (r_nil (qq rfl))) ?_
         refine d_step 1 rfl (by kernel_rfl) ?_
         obtain ⟨v14, hv12, hm⟩ := bind_some hm
         refine r_callG0 ent41 rfl rfl rfl rfl hx38 (ref35_word_ok _ _ _ hv12 hx38.sat) ?_
         rintro _ Fx20 _ wx35 hF20 hx39 ⟨rfl, rfl⟩
         refine d_next (hx39.sh hF20 [1] (by decide) rfl) ?_
         refine d_step 2 rfl (by kernel_rfl) ?_
         refine r_buildSlice (e := 53) (cs := [.int .i64 v14.Kind, vs v14.Text, .int .i64 v14.N, .int .i64 v14.Pos]) (q := 4) rfl rfl hx39 rfl (fun _ => by kernel_rfl) rfl rfl ?_
         intro b13 wx36 hx40
         refine d_next (hx40.sh hF20 [2] (by decide) rfl) ?_
         refine d_step 3 rfl (by kernel_rfl) ?_
         obtain ⟨l9, hr14, hm⟩ := bind_some hm
         refine r_appendN (r := rp_Token) ap45 rfl rfl hx40 rfl rfl (i := 1) (j := 0) rfl rfl (hs22.mono hF20) ((show RowN rp_Token Fx20 1 [.int .i64 v14.Kind, vs v14.Text, .int .i64 v14.N, .int .i64 v14.Pos] [v14] from ⟨rfl, ⟨_, _, rfl, rfl, (rfl : RowR rp_Token _ [] [])⟩⟩)) hr14 ?_
         intro as24 cs24 wx37 hx41 hs24
         refine d_next (hx41.sh hF20 [2] (by decide) rfl) ?_
         refine d_step 8 rfl (by kernel_rfl) ?_
         obtain ⟨v15, hv13, hm⟩ := bind_some hm
         refine r_callG0 ent40 rfl rfl rfl rfl hx41 (ih.1 _ _ hv13 hx41.sat (hs23.mono hF20)) ?_
         rintro _ Fx21 _ wx38 hF21 hx42 ⟨as25, ns25, cs25, xss25, rfl, rfl, hs25⟩
         refine d_next (hx42.sh (hF20.trans hF21) [3] (by decide) rfl) ?_
         refine d_step 9 rfl (by kernel_rfl) ?_
         obtain ⟨Fx22, hF22, hx43, hsx7⟩ := freezeRow hx42 (i := 0) rfl hs25
         obtain ⟨l10, hr15, hm⟩ := bind_some hm
         refine r_appendF (r := rp_Token) ap45 rfl rfl rfl hx43 rfl rfl (i := 1) rfl ((hs24.mono hF21).mono hF22) hsx7 hr15 ?_
         intro as26 cs26 wx39 xss26 hx44 hs26
         refine d_next (hx44.sh ((hF20.trans hF21).trans hF22) [2] (by decide) rfl) ?_
         refine d_tk 10 rfl (by kernel_rfl) rfl rfl rfl rfl (hx44.sh ((hF20.trans hF21).trans hF22) [2] (by decide) rfl) (fun _ _ _ _ _ => r_assign rfl rfl rfl (r_nil (qq rfl))) ?_
         refine d_done (by kernel_rfl) ?_
         refine q_then (c_seq (c_region (r_move rfl rfl rfl ?_)))
         obtain ⟨v16, hv14, hm⟩ := bind_some hm
         refine r_callG0 ent41 rfl rfl rfl rfl hx44 (ref35_word_ok _ _ _ hv14 hx44.sat) ?_
         rintro _ Fx23 _ wx40 hF23 hx45 ⟨rfl, rfl⟩
         refine r_buildSlice (e := 53) (cs := [.int .i64 v16.Kind, vs v16.Text, .int .i64 v16.N, .int .i64 v16.Pos]) (q := 4) rfl rfl hx45 rfl (fun _ => by kernel_rfl) rfl rfl ?_
         intro b14 wx41 hx46
         obtain ⟨l11, hr16, hm⟩ := bind_some hm
         refine r_appendN (r := rp_Token) ap45 rfl rfl hx46 rfl rfl (i := 2) (j := 0) rfl rfl (hs26.mono hF23) ((show RowN rp_Token Fx23 1 [.int .i64 v16.Kind, vs v16.Text, .int .i64 v16.N, .int .i64 v16.Pos] [v16] from ⟨rfl, ⟨_, _, rfl, rfl, (rfl : RowR rp_Token _ [] [])⟩⟩)) hr16 ?_
         intro as27 cs27 wx42 hx47 hs27
         refine r_assign rfl rfl rfl (r_nil (q_then (c_ret (q_then_ret ?_))))
         refine b_ret1 rfl rfl ?_
         obtain rfl := Option.some.inj hm
         exact ⟨_, _, _, rfl, hx47.pick [2] (by decide) rfl, as27, ((((ns20 + ns21) + 1) + ns25) + 1), cs27, (xss26 ++ [.int .i64 v16.Kind, vs v16.Text, .int .i64 v16.N, .int .i64 v16.Pos]), rfl, rfl, hs27⟩
        ·clear hm
         rcases cond_some hb8 with ⟨hb9, hb8⟩ | ⟨hb9, hb8⟩
         ·refine c_lit 64 rfl hb9 ?_
          refine c_true rfl (c_region (r_assign rfl rfl rfl (r_nil ?_)))
          refine q_next (fun a ha => ?_)
          cases hb8
          exact ⟨rfl, ha.cut (l := [1, 4]) rfl⟩
         ·refine c_lit 64 rfl hb9 ?_
          refine c_false rfl (c_skip ?_)
          refine q_next (fun a ha => ?_)
          cases hb8
          exact ⟨rfl, ha.cut (l := [1, 4]) rfl⟩
       ·refine c_lit 61 rfl hb7 ?_
        refine c_false rfl (c_skip (q_then (c_seq ?_)))
        refine c_regionH (SH F [.box b1 24 [.int .i64 x1.Op, .int .i64 x1.N, vs x1.Name, .slice as1 ns1 cs1]]) 18 rfl (by kernel_rfl) hx1 ?_
        intro wx43 hx48
        refine d_tk 0 rfl (by kernel_rfl) rfl rfl rfl rfl (hx48.sh (Frz.refl _) [0] (by decide) rfl) (fun _ _ _ _ _ => r_fieldAddr fa24_3 rfl rfl rfl (r_nil (qq rfl))) ?_
        refine d_tk 1 rfl (by kernel_rfl) rfl rfl rfl rfl (hx48.sh (Frz.refl _) [0] (by decide) rfl) (fun _ _ _ _ hq => r_loadB1 ag22 rfl rfl hq rfl (i := 0) rfl rfl (r_nil (qq rfl))) ?_
        obtain ⟨ex7, he7, hm⟩ := bind_some hm
        obtain ⟨b15, o7, cs7, hf7, hr17, hrun7⟩ := findex_ex (P := Tryz.prog) (r := rp_Expr) u22 sz24 hs1 he7
        obtain ⟨as28, ns28, cs28, hc7, hs28⟩ := expr_iff.1 hr17
        subst hc7
        refine d_findex 2 rfl (by kernel_rfl) (by kernel_rfl) (by kernel_rfl) rfl rfl rfl rfl hrun7 (hx48.sh (Frz.refl _) [0] (by decide) rfl) ?_
        refine d_tk 3 rfl (by kernel_rfl) rfl rfl rfl rfl (hx48.sh (Frz.refl _) [0] (by decide) rfl) (fun _ _ _ hleq hq => r_loadFW ag24 sz24 rfl rfl hq (hf7.mono hleq) rfl rfl (r_nil (qq rfl))) ?_
        refine d_tk 5 rfl (by kernel_rfl) rfl rfl rfl rfl (hx48.sh (Frz.refl _) [0] (by decide) rfl) (fun _ _ _ _ _ => r_fieldAddr fa24_0 rfl rfl rfl (r_nil (qq rfl))) ?_
        refine d_tk 6 rfl (by kernel_rfl) rfl rfl rfl rfl (hx48.sh (Frz.refl _) [0] (by decide) rfl) (fun _ _ _ _ hq => r_loadB1 ag3 rfl rfl hq rfl (i := 0) rfl rfl (r_nil (qq rfl))) ?_
        refine d_tk 11 rfl (by kernel_rfl) rfl rfl rfl rfl (hx48.sh (Frz.refl _) [0] (by decide) rfl) (fun _ _ _ _ _ => r_fieldAddr fa24_3 rfl rfl rfl (r_nil (qq rfl))) ?_
        refine d_tk 12 rfl (by kernel_rfl) rfl rfl rfl rfl (hx48.sh (Frz.refl _) [0] (by decide) rfl) (fun _ _ _ _ hq => r_loadB1 ag22 rfl rfl hq rfl (i := 0) rfl rfl (r_nil (qq rfl))) ?_
        obtain ⟨ex8, he8, hm⟩ := bind_some hm
        obtain ⟨b16, o8, cs8, hf8, hr18, hrun8⟩ := findex_ex (P := Tryz.prog) (r := rp_Expr) u22 sz24 hs1 he8
        obtain ⟨as29, ns29, cs29, hc8, hs29⟩ := expr_iff.1 hr18
        subst hc8
        refine d_findex 13 rfl (by kernel_rfl) (by kernel_rfl) (by kernel_rfl) rfl rfl rfl rfl hrun8 (hx48.sh (Frz.refl _) [0] (by decide) rfl) ?_
        refine d_tk 14 rfl (by kernel_rfl) rfl rfl rfl rfl (hx48.sh (Frz.refl _) [0] (by decide) rfl) (fun _ _ _ hleq hq => r_loadFW ag24 sz24 rfl rfl hq (hf8.mono hleq) rfl rfl (r_nil (qq rfl))) ?_
        refine d_step 4 rfl (by kernel_rfl) ?_
        obtain ⟨v17, hv15, hm⟩ := bind_some hm
        refine r_callG0 ent66 rfl rfl rfl rfl hx48 (ih.2 _ _ hv15 hx48.sat hs28) ?_
        rintro _ Fx24 _ wx44 hF24 hx49 ⟨as30, ns30, cs30, xss30, rfl, rfl, hs30⟩
        refine d_next (hx49.sh hF24 [1] (by decide) rfl) ?_
        refine d_step 7 rfl (by kernel_rfl) ?_
        obtain ⟨v18, hv16, hm⟩ := bind_some hm
        refine r_callG0 ent67 rfl rfl rfl rfl hx49 (ref35_sign_ok _ _ _ hv16 hx49.sat) ?_
        rintro _ Fx25 _ wx45 hF25 hx50 ⟨rfl, rfl⟩
        refine d_next (hx50.sh (hF24.trans hF25) [1] (by decide) rfl) ?_
        refine d_step 8 rfl (by kernel_rfl) ?_
        obtain ⟨v19, hv17, hm⟩ := bind_some hm
        refine r_callG0 ent41 rfl rfl rfl rfl hx50 (ref35_word_ok _ _ _ hv17 hx50.sat) ?_
        rintro _ Fx26 _ wx46 hF26 hx51 ⟨rfl, rfl⟩
        refine d_next (hx51.sh ((hF24.trans hF25).trans hF26) [1] (by decide) rfl) ?_
        refine d_step 9 rfl (by kernel_rfl) ?_
        refine r_buildSlice (e := 53) (cs := [.int .i64 v19.Kind, vs v19.Text, .int .i64 v19.N, .int .i64 v19.Pos]) (q := 4) rfl rfl hx51 rfl (fun _ => by kernel_rfl) rfl rfl ?_
        intro b17 wx47 hx52
        refine d_next (hx52.sh ((hF24.trans hF25).trans hF26) [2] (by decide) rfl) ?_
        refine d_step 10 rfl (by kernel_rfl) ?_
        obtain ⟨l12, hr19, hm⟩ := bind_some hm
        refine r_appendN (r := rp_Token) ap45 rfl rfl hx52 rfl rfl (i := 1) (j := 0) rfl rfl ((hs30.mono hF25).mono hF26) ((show RowN rp_Token Fx26 1 [.int .i64 v19.Kind, vs v19.Text, .int .i64 v19.N, .int .i64 v19.Pos] [v19] from ⟨rfl, ⟨_, _, rfl, rfl, (rfl : RowR rp_Token _ [] [])⟩⟩)) hr19 ?_
        intro as31 cs31 wx48 hx53 hs31
        refine d_next (hx53.sh ((hF24.trans hF25).trans hF26) [2] (by decide) rfl) ?_
        refine d_step 15 rfl (by kernel_rfl) ?_
        obtain ⟨v20, hv18, hm⟩ := bind_some hm
        refine r_callG0 ent66 rfl rfl rfl rfl hx53 (ih.2 _ _ hv18 hx53.sat (((hs29.mono hF24).mono hF25).mono hF26)) ?_
        rintro _ Fx27 _ wx49 hF27 hx54 ⟨as32, ns32, cs32, xss32, rfl, rfl, hs32⟩
        refine d_next (hx54.sh (((hF24.trans hF25).trans hF26).trans hF27) [3] (by decide) rfl) ?_
        refine d_step 16 rfl (by kernel_rfl) ?_
        obtain ⟨Fx28, hF28, hx55, hsx8⟩ := freezeRow hx54 (i := 0) rfl hs32
        obtain ⟨l13, hr20, hm⟩ := bind_some hm
        refine r_appendF (r := rp_Token) ap45 rfl rfl rfl hx55 rfl rfl (i := 1) rfl ((hs31.mono hF27).mono hF28) hsx8 hr20 ?_
        intro as33 cs33 wx50 xss33 hx56 hs33
        refine d_next (hx56.sh ((((hF24.trans hF25).trans hF26).trans hF27).trans hF28) [2] (by decide) rfl) ?_
        refine d_tk 17 rfl (by kernel_rfl) rfl rfl rfl rfl (hx56.sh ((((hF24.trans hF25).trans hF26).trans hF27).trans hF28) [2] (by decide) rfl) (fun _ _ _ _ _ => r_assign rfl rfl rfl (r_nil (qq rfl))) ?_
        refine d_done (by kernel_rfl) ?_
        refine q_then (c_ret ?_)
        refine b_ret1 rfl rfl ?_
        obtain rfl := Option.some.inj hm
        exact ⟨_, _, _, rfl, hx56.pick [1] (by decide) rfl, as33, ((ns30 + 1) + ns32), cs33, xss33, rfl, rfl, hs33⟩
      ·clear hm
       rcases cond_some hb6 with ⟨hb10, hb6⟩ | ⟨hb10, hb6⟩
       ·refine r_lit 57 rfl hb10 ?_
        refine r_off rfl (by decide) rfl (r_off rfl (by decide) rfl (r_off rfl (by decide) rfl (r_pick_true rfl rfl rfl rfl (r_nil ?_))))
        refine q_next (fun a ha => ?_)
        cases hb6
        exact ⟨rfl, ha.cut (l := [1, 61]) rfl⟩
       ·refine r_lit 57 rfl hb10 ?_
        refine r_fieldAddr fa24_0 rfl rfl rfl ?_
        refine r_loadB1 ag3 rfl rfl hx1 rfl (i := 0) rfl rfl ?_
        refine r_bin rfl rfl rfl rfl rfl ?_
        refine r_pick_false rfl rfl rfl rfl (r_nil ?_)
        refine q_next (fun a ha => ?_)
        cases hb6
        exact ⟨rfl, ha.cut (l := [1, 61]) rfl⟩
  ·intro x1 r hm w F hs as1 ns1 cs1 hs1
   rw [ref35_atom_s] at hm
   have h := HS.init hs
   refine calls_of 28 Tryz.func66 rfl rfl rfl ?_
   refine c_seq (c_region ?_)
   refine r_box rfl rfl rfl rfl h ?_
   intro b1 wx1 hx1
   refine r_assign rfl rfl rfl (r_nil (q_then (c_seq (c_region ?_))))
   refine r_loadBW ag24 sz24 rfl rfl hx1 rfl (i := 0) rfl rfl ?_
   obtain ⟨v1, hv1, hm⟩ := bind_some hm
   refine r_callG0 ent40 rfl rfl rfl rfl hx1 (ih.1 _ _ hv1 hx1.sat hs1) ?_
   rintro _ Fx1 _ wx2 hF1 hx2 ⟨as2, ns2, cs2, xss2, rfl, rfl, hs2⟩
   refine r_assign rfl rfl rfl (r_nil (q_then (c_seq (c_seq (c_region ?_)))))
   refine r_fieldAddr fa24_3 rfl rfl rfl ?_
   refine r_loadB1 ag22 rfl rfl hx2 rfl (i := 1) rfl rfl ?_
   refine r_lenS hs1.len u22 rfl rfl rfl ?_
   refine r_bin rfl rfl rfl rfl rfl ?_
   refine r_move rfl rfl rfl ?_
   obtain ⟨v2, hb1, hm⟩ := bind_some hm
   refine r_mid 4 (fun a w' => wx2 = w' ∧ Has 28 a [(1, .pointer (some ⟨b1, 0, none⟩)), (3, .slice as2 ns2 cs2), (14, .bool v2)]) ?_ ?_
   ·rintro a wx3 ⟨rfl, hax1⟩
    refine rw_apply hax1 ?_
    refine r_move rfl rfl rfl ?_
    obtain ⟨v3, hb2, hm⟩ := bind_some hm
    refine r_mid 4 (fun a w' => wx2 = w' ∧ Has 28 a [(3, .slice as2 ns2 cs2), (19, .bool v3)]) ?_ ?_
    ·rintro a wx4 ⟨rfl, hax2⟩
     refine rw_apply hax2 ?_
     refine r_nil (q_then ?_)
     rcases cond_some hm with ⟨hb3, hm⟩ | ⟨hb3, hm⟩
     ·refine c_lit 19 rfl hb3 ?_
      refine c_true rfl (c_seq (c_region (r_move rfl rfl rfl (r_assign rfl rfl rfl (r_nil (q_then (c_ret (q_then_ret ?_))))))))
      refine b_ret1 rfl rfl ?_
      obtain rfl := Option.some.inj hm
      exact ⟨_, _, _, rfl, hx2.pick [0] (by decide) rfl, as2, ns2, cs2, xss2, rfl, rfl, hs2⟩
     ·refine c_lit 19 rfl hb3 ?_
      refine c_false rfl (c_skip (q_then (c_seq (c_region ?_))))
      obtain ⟨v4, hv2, hm⟩ := bind_some hm
      refine r_callG0 ent41 rfl rfl rfl rfl hx2 (ref35_word_ok _ _ _ hv2 hx2.sat) ?_
      rintro _ Fx2 _ wx5 hF2 hx3 ⟨rfl, rfl⟩
      refine r_buildSlice (e := 53) (cs := [.int .i64 v4.Kind, vs v4.Text, .int .i64 v4.N, .int .i64 v4.Pos]) (q := 4) rfl rfl hx3 rfl (fun _ => by kernel_rfl) rfl rfl ?_
      intro b2 wx6 hx4
      refine r_move rfl rfl rfl ?_
      obtain ⟨Fx3, hF3, hx5, hsx1⟩ := freezeRow hx4 (i := 1) rfl (hs2.mono hF2)
      obtain ⟨l1, hr1, hm⟩ := bind_some hm
      refine r_appendF (r := rp_Token) ap45 rfl rfl rfl hx5 rfl rfl (i := 0) rfl ((show RowN rp_Token Fx2 1 [.int .i64 v4.Kind, vs v4.Text, .int .i64 v4.N, .int .i64 v4.Pos] [v4] from ⟨rfl, ⟨_, _, rfl, rfl, (rfl : RowR rp_Token _ [] [])⟩⟩).mono hF3) hsx1 hr1 ?_
      intro as3 cs3 wx7 xss3 hx6 hs3
      obtain ⟨v5, hv3, hm⟩ := bind_some hm
      refine r_callG0 ent41 rfl rfl rfl rfl hx6 (ref35_word_ok _ _ _ hv3 hx6.sat) ?_
      rintro _ Fx4 _ wx8 hF4 hx7 ⟨rfl, rfl⟩
      refine r_buildSlice (e := 53) (cs := [.int .i64 v5.Kind, vs v5.Text, .int .i64 v5.N, .int .i64 v5.Pos]) (q := 4) rfl rfl hx7 rfl (fun _ => by kernel_rfl) rfl rfl ?_
      intro b3 wx9 hx8
      obtain ⟨l2, hr2, hm⟩ := bind_some hm
      refine r_appendN (r := rp_Token) ap45 rfl rfl hx8 rfl rfl (i := 1) (j := 0) rfl rfl (hs3.mono hF4) ((show RowN rp_Token Fx4 1 [.int .i64 v5.Kind, vs v5.Text, .int .i64 v5.N, .int .i64 v5.Pos] [v5] from ⟨rfl, ⟨_, _, rfl, rfl, (rfl : RowR rp_Token _ [] [])⟩⟩)) hr2 ?_
      intro as4 cs4 wx10 hx9 hs4
      refine r_assign rfl rfl rfl (r_nil (q_then (c_ret ?_)))
      refine b_ret1 rfl rfl ?_
      obtain rfl := Option.some.inj hm
      exact ⟨_, _, _, rfl, hx9.pick [1] (by decide) rfl, as4, ((1 + ns2) + 1), cs4, (xss3 ++ [.int .i64 v5.Kind, vs v5.Text, .int .i64 v5.N, .int .i64 v5.Pos]), rfl, rfl, hs4⟩
    ·clear hm
     rcases cond_some hb2 with ⟨hb4, hb2⟩ | ⟨hb4, hb2⟩
     ·refine r_lit 15 rfl hb4 ?_
      refine r_off rfl (by decide) rfl (r_off rfl (by decide) rfl (r_off rfl (by decide) rfl (r_pick_true rfl rfl rfl rfl (r_nil ?_))))
      refine q_next (fun a ha => ?_)
      cases hb2
      exact ⟨rfl, ha.cut (l := [3, 19]) rfl⟩
     ·refine r_lit 15 rfl hb4 ?_
      refine r_fieldAddr fa24_0 rfl rfl rfl ?_
      refine r_loadB1 ag3 rfl rfl hx2 rfl (i := 1) rfl rfl ?_
      refine r_bin rfl rfl rfl rfl rfl ?_
      refine r_pick_false rfl rfl rfl rfl (r_nil ?_)
      refine q_next (fun a ha => ?_)
      cases hb2
      exact ⟨rfl, ha.cut (l := [3, 19]) rfl⟩
   ·clear hm
    rcases cond_some hb1 with ⟨hb5, hb1⟩ | ⟨hb5, hb1⟩
    ·refine r_lit 10 rfl hb5 ?_
     refine r_off rfl (by decide) rfl (r_off rfl (by decide) rfl (r_off rfl (by decide) rfl (r_pick_true rfl rfl rfl rfl (r_nil ?_))))
     refine q_next (fun a ha => ?_)
     cases hb1
     exact ⟨rfl, ha.cut (l := [1, 3, 14]) rfl⟩
    ·refine r_lit 10 rfl hb5 ?_
     refine r_fieldAddr fa24_0 rfl rfl rfl ?_
     refine r_loadB1 ag3 rfl rfl hx2 rfl (i := 1) rfl rfl ?_
     refine r_bin rfl rfl rfl rfl rfl ?_
     refine r_pick_false rfl rfl rfl rfl (r_nil ?_)
     refine q_next (fun a ha => ?_)
     cases hb1
     exact ⟨rfl, ha.cut (l := [1, 3, 14]) rfl⟩
theorem ref35_expr_ok (n : Nat) (x1 : Expr) (r : (List Token)) (hm : ref35_expr n x1 = some r) {w : World} {F : Frz} (hs : Sat F w) {as1 : Option Addr} {ns1 : Nat} {cs1 : Nat} (hs1 : SlR rp_Expr F as1 ns1 cs1 x1.Args) :
  Calls Tryz.prog 40 #[.agg #[.int .i64 x1.Op, .int .i64 x1.N, vs x1.Name, .slice as1 ns1 cs1]] w fun e w' => ∃ v F' O', e = .returned v ∧ HS F w [] F' O' w' ∧ (∃ (a0_0 : Option Addr) (n0_0 : Nat) (c0_0 : Nat) (xs0_0 : List Value), v = .slice a0_0 n0_0 c0_0 ∧ O' = [.row 53 4 a0_0 n0_0 c0_0 xs0_0] ∧ RowN rp_Token F' n0_0 xs0_0 r) :=
 (ref35_expr_all n).1 x1 r hm hs hs1
theorem ent43 : Ent Tryz.prog 43 := fun _ _ => by kernel_rfl
def ref35_Print (n : Nat) (t1 : Tariff) : Option (Bs × Bool) :=
 (ref35_Written n t1).bind fun v1 =>
 bif !v1 then
  some ([], false)
 else
  (ref35_words n [[116, 97, 114, 105, 102, 102], t1.Name, [123], [102, 101, 101], [61]]).bind fun v2 =>
  (ref35_expr n t1.Fee).bind fun v3 =>
  (app 40 v2 v3).bind fun l1 =>
  (ref35_word n [59]).bind fun v4 =>
  (app 40 l1 [v4]).bind fun l2 =>
  (bif t1.Cap != (-1) then
   (ref35_words n [[99, 97, 112], [61]]).bind fun v7 =>
   (app 40 l2 v7).bind fun l5 =>
   (ref35_number n t1.Cap).bind fun v8 =>
   (ref35_word n [59]).bind fun v9 =>
   (app 40 l5 [v8, v9]).bind fun l6 =>
   some l6
  else
   some l2).bind fun l3 =>
  (ref35_word n [125]).bind fun v5 =>
  (app 40 l3 [v5]).bind fun l4 =>
  (ref06_Print n l4).bind fun v6 =>
  some (v6, true)
set_option maxHeartbeats 1000000 in
set_option maxRecDepth 1000000 in
theorem ref35_Print_ok (n : Nat) (t1 : Tariff) (r : (Bs × Bool)) (hm : ref35_Print n t1 = some r) {w : World} {F : Frz} (hs : Sat F w) {as1 : Option Addr} {ns1 : Nat} {cs1 : Nat} (hs1 : SlR rp_Expr F as1 ns1 cs1 t1.Fee.Args) :
  Calls Tryz.prog 10 #[.agg #[vs t1.Name, .int .i64 t1.Fee.Op, .int .i64 t1.Fee.N, vs t1.Fee.Name, .slice as1 ns1 cs1, .int .i64 t1.Cap]] w fun e w' => ∃ v F' O', e = .returned v ∧ HS F w [] F' O' w' ∧ (v = .tuple #[vs r.1, .bool r.2] ∧ O' = []) := by
 unfold ref35_Print at hm
 have h := HS.init hs
 refine calls_of 38 Tryz.func10 rfl rfl rfl ?_
 refine c_seq (c_region ?_)
 refine r_box rfl rfl rfl rfl h ?_
 intro b1 wx1 hx1
 refine r_assign rfl rfl rfl (r_assign rfl rfl rfl (r_nil (q_then (c_seq (c_seq (c_region ?_))))))
 refine r_loadBW ag26 sz26 rfl rfl hx1 rfl (i := 0) rfl rfl ?_
 obtain ⟨v1, hv1, hm⟩ := bind_some hm
 refine r_callG0 ent38 rfl rfl rfl rfl hx1 (ref35_Written_ok _ _ _ hv1 hx1.sat hs1) ?_
 rintro _ Fx1 _ wx2 hF1 hx2 ⟨rfl, rfl⟩
 refine r_not rfl rfl rfl (r_nil (q_then ?_))
 rcases cond_some hm with ⟨hb1, hm⟩ | ⟨hb1, hm⟩
 ·refine c_lit 7 rfl hb1 ?_
  refine c_true rfl (c_seq (c_region (r_assign rfl rfl rfl (r_assign rfl rfl rfl (r_nil (q_then (c_ret (q_then_ret ?_))))))))
  refine b_retA (vl := [vs [], .bool false]) rfl ⟨v_tmp rfl, v_tmp rfl, trivial⟩ (by simp) ?_
  obtain rfl := Option.some.inj hm
  exact ⟨_, _, _, rfl, hx2.pick [] (by decide) rfl, rfl, rfl⟩
 ·refine c_lit 7 rfl hb1 ?_
  refine c_false rfl (c_skip (q_then (c_seq ?_)))
  refine c_regionH (SH Fx1 [.box b1 26 [vs t1.Name, .int .i64 t1.Fee.Op, .int .i64 t1.Fee.N, vs t1.Fee.Name, .slice as1 ns1 cs1, .int .i64 t1.Cap]]) 9 rfl (by kernel_rfl) hx2 ?_
  intro wx3 hx3
  refine d_tk 0 rfl (by kernel_rfl) rfl rfl rfl rfl (hx3.sh (Frz.refl _) [0] (by decide) rfl) (fun _ _ _ _ _ => r_fieldAddr fa26_0 rfl rfl rfl (r_nil (qq rfl))) ?_
  refine d_tk 1 rfl (by kernel_rfl) rfl rfl rfl rfl (hx3.sh (Frz.refl _) [0] (by decide) rfl) (fun _ _ _ _ hq => r_loadB1 ag9 rfl rfl hq rfl (i := 0) rfl rfl (r_nil (qq rfl))) ?_
  refine d_tk 4 rfl (by kernel_rfl) rfl rfl rfl rfl (hx3.sh (Frz.refl _) [0] (by decide) rfl) (fun _ _ _ _ _ => r_fieldAddr fa26_1 rfl rfl rfl (r_nil (qq rfl))) ?_
  refine d_tk 5 rfl (by kernel_rfl) rfl rfl rfl rfl (hx3.sh (Frz.refl _) [0] (by decide) rfl) (fun _ _ _ _ hq => r_loadBA (cs' := [.int .i64 t1.Fee.Op, .int .i64 t1.Fee.N, vs t1.Fee.Name, .slice as1 ns1 cs1]) ag24 sz24 rfl rfl hq rfl (i := 0) rfl rfl rfl (r_nil (qq rfl))) ?_
  refine d_step 2 rfl (by kernel_rfl) ?_
  refine r_buildSlice (e := 9) (cs := [vs [116, 97, 114, 105, 102, 102], vs t1.Name, vs [123], vs [102, 101, 101], vs [61]]) (q := 1) rfl rfl hx3 rfl (fun _ => by kernel_rfl) rfl rfl ?_
  intro b2 wx4 hx4
  refine d_next (hx4.sh (Frz.refl _) [1] (by decide) rfl) ?_
  refine d_step 3 rfl (by kernel_rfl) ?_
  obtain ⟨Fx2, hF2, hx5, hsx1⟩ := freezeRow hx4 (i := 0) rfl ((show RowN Rp.str Fx1 5 [vs [116, 97, 114, 105, 102, 102], vs t1.Name, vs [123], vs [102, 101, 101], vs [61]] [[116, 97, 114, 105, 102, 102], t1.Name, [123], [102, 101, 101], [61]] from ⟨rfl, ⟨_, _, rfl, rfl, ⟨_, _, rfl, rfl, ⟨_, _, rfl, rfl, ⟨_, _, rfl, rfl, ⟨_, _, rfl, rfl, (rfl : RowR Rp.str _ [] [])⟩⟩⟩⟩⟩⟩))
  obtain ⟨v2, hv2, hm⟩ := bind_some hm
  refine r_callG0 ent39 rfl rfl rfl rfl hx5 (ref35_words_ok _ _ _ hv2 hx5.sat hsx1) ?_
  rintro _ Fx3 _ wx5 hF3 hx6 ⟨as2, ns2, cs2, xss2, rfl, rfl, hs2⟩
  refine d_next (hx6.sh (hF2.trans hF3) [1] (by decide) rfl) ?_
  refine d_step 6 rfl (by kernel_rfl) ?_
  obtain ⟨v3, hv3, hm⟩ := bind_some hm
  refine r_callG0 ent40 rfl rfl rfl rfl hx6 (ref35_expr_ok _ _ _ hv3 hx6.sat (((hs1.mono hF1).mono hF2).mono hF3)) ?_
  rintro _ Fx4 _ wx6 hF4 hx7 ⟨as3, ns3, cs3, xss3, rfl, rfl, hs3⟩
  refine d_next (hx7.sh ((hF2.trans hF3).trans hF4) [2] (by decide) rfl) ?_
  refine d_step 7 rfl (by kernel_rfl) ?_
  obtain ⟨Fx5, hF5, hx8, hsx2⟩ := freezeRow hx7 (i := 0) rfl hs3
  obtain ⟨l1, hr1, hm⟩ := bind_some hm
  refine r_appendF (r := rp_Token) ap45 rfl rfl rfl hx8 rfl rfl (i := 0) rfl ((hs2.mono hF4).mono hF5) hsx2 hr1 ?_
  intro as4 cs4 wx7 xss4 hx9 hs4
  refine d_next (hx9.sh (((hF2.trans hF3).trans hF4).trans hF5) [1] (by decide) rfl) ?_
  refine d_tk 8 rfl (by kernel_rfl) rfl rfl rfl rfl (hx9.sh (((hF2.trans hF3).trans hF4).trans hF5) [1] (by decide) rfl) (fun _ _ _ _ _ => r_assign rfl rfl rfl (r_nil (qq rfl))) ?_
  refine d_done (by kernel_rfl) ?_
  refine q_then (c_seq (c_region (r_move rfl rfl rfl ?_)))
  obtain ⟨v4, hv4, hm⟩ := bind_some hm
  refine r_callG0 ent41 rfl rfl rfl rfl hx9 (ref35_word_ok _ _ _ hv4 hx9.sat) ?_
  rintro _ Fx6 _ wx8 hF6 hx10 ⟨rfl, rfl⟩
  refine r_buildSlice (e := 53) (cs := [.int .i64 v4.Kind, vs v4.Text, .int .i64 v4.N, .int .i64 v4.Pos]) (q := 4) rfl rfl hx10 rfl (fun _ => by kernel_rfl) rfl rfl ?_
  intro b3 wx9 hx11
  obtain ⟨l2, hr2, hm⟩ := bind_some hm
  refine r_appendN (r := rp_Token) ap45 rfl rfl hx11 rfl rfl (i := 1) (j := 0) rfl rfl (hs4.mono hF6) ((show RowN rp_Token Fx6 1 [.int .i64 v4.Kind, vs v4.Text, .int .i64 v4.N, .int .i64 v4.Pos] [v4] from ⟨rfl, ⟨_, _, rfl, rfl, (rfl : RowR rp_Token _ [] [])⟩⟩)) hr2 ?_
  intro as5 cs5 wx10 hx12 hs5
  refine r_assign rfl rfl rfl (r_nil (q_then (c_seq (c_seq (c_region ?_)))))
  refine r_fieldAddr fa26_2 rfl rfl rfl ?_
  refine r_loadB1 ag3 rfl rfl hx12 rfl (i := 2) rfl rfl ?_
  refine r_bin rfl rfl rfl rfl rfl ?_
  refine r_nil (q_then ?_)
  obtain ⟨l3, hb2, hm⟩ := bind_some hm
  refine c_midT (fun a w' => ∃ (Fx7 : Frz) (as6 : Option Addr) (ns6 : Nat) (cs6 : Nat) (xss6 : List Value), Frz.le Fx6 Fx7 ∧ HS F w [] Fx7 [.row 53 4 (some ⟨b3, 0, none⟩) 1 1 [.int .i64 v4.Kind, vs v4.Text, .int .i64 v4.N, .int .i64 v4.Pos], .row 53 4 as6 ns6 cs6 xss6, .box b1 26 [vs t1.Name, .int .i64 t1.Fee.Op, .int .i64 t1.Fee.N, vs t1.Fee.Name, .slice as1 ns1 cs1, .int .i64 t1.Cap]] w' ∧ (RowN rp_Token Fx7 ns6 xss6 l3) ∧ Has 38 a [(4, .slice as6 ns6 cs6)]) ?_ ?_
  ·rintro a wx11 ⟨Fx7, as6, ns6, cs6, xss6, hF7, hx13, hs6, hax1⟩
   refine cw_apply hax1 ?_
   refine c_seq (c_region (r_move rfl rfl rfl ?_))
   obtain ⟨v5, hv5, hm⟩ := bind_some hm
   refine r_callG0 ent41 rfl rfl rfl rfl hx13 (ref35_word_ok _ _ _ hv5 hx13.sat) ?_
   rintro _ Fx8 _ wx12 hF8 hx14 ⟨rfl, rfl⟩
   refine r_buildSlice (e := 53) (cs := [.int .i64 v5.Kind, vs v5.Text, .int .i64 v5.N, .int .i64 v5.Pos]) (q := 4) rfl rfl hx14 rfl (fun _ => by kernel_rfl) rfl rfl ?_
   intro b4 wx13 hx15
   obtain ⟨l4, hr3, hm⟩ := bind_some hm
   refine r_appendN (r := rp_Token) ap45 rfl rfl hx15 rfl rfl (i := 2) (j := 0) rfl rfl (hs6.mono hF8) ((show RowN rp_Token Fx8 1 [.int .i64 v5.Kind, vs v5.Text, .int .i64 v5.N, .int .i64 v5.Pos] [v5] from ⟨rfl, ⟨_, _, rfl, rfl, (rfl : RowR rp_Token _ [] [])⟩⟩)) hr3 ?_
   intro as7 cs7 wx14 hx16 hs7
   obtain ⟨Fx9, hF9, hx17, hsx3⟩ := freezeRow hx16 (i := 2) rfl hs7
   obtain ⟨v6, hv6, hm⟩ := bind_some hm
   refine r_callG0 ent43 rfl rfl rfl rfl hx17 (ref06_Print_ok _ _ _ hv6 hx17.sat hsx3) ?_
   rintro _ Fx10 _ wx15 hF10 hx18 ⟨rfl, rfl⟩
   refine r_assign rfl rfl rfl (r_assign rfl rfl rfl (r_nil (q_then (c_ret ?_))))
   refine b_retA (vl := [vs v6, .bool true]) rfl ⟨v_tmp rfl, v_tmp rfl, trivial⟩ (by simp) ?_
   obtain rfl := Option.some.inj hm
   exact ⟨_, _, _, rfl, hx18.pick [] (by decide) rfl, rfl, rfl⟩
  ·clear hm
   rcases cond_some hb2 with ⟨hb3, hb2⟩ | ⟨hb3, hb2⟩
   ·refine c_lit 22 rfl hb3 ?_
    refine c_true rfl ?_
    refine c_regionH (SH Fx6 [.row 53 4 (some ⟨b3, 0, none⟩) 1 1 [.int .i64 v4.Kind, vs v4.Text, .int .i64 v4.N, .int .i64 v4.Pos], .box b1 26 [vs t1.Name, .int .i64 t1.Fee.Op, .int .i64 t1.Fee.N, vs t1.Fee.Name, .slice as1 ns1 cs1, .int .i64 t1.Cap]]) 11 rfl (by kernel_rfl) hx12 ?_
    intro wx16 hx19
    refine d_tk 0 rfl (by kernel_rfl) rfl rfl rfl rfl (hx19.sh (Frz.refl _) [0, 2] (by decide) rfl) (fun _ _ _ _ _ => r_move rfl rfl rfl (r_nil (qq rfl))) ?_
    refine d_tk 4 rfl (by kernel_rfl) rfl rfl rfl rfl (hx19.sh (Frz.refl _) [0, 2] (by decide) rfl) (fun _ _ _ _ _ => r_fieldAddr fa26_2 rfl rfl rfl (r_nil (qq rfl))) ?_
    refine d_tk 5 rfl (by kernel_rfl) rfl rfl rfl rfl (hx19.sh (Frz.refl _) [0, 2] (by decide) rfl) (fun _ _ _ _ hq => r_loadB1 ag3 rfl rfl hq rfl (i := 1) rfl rfl (r_nil (qq rfl))) ?_
    refine d_step 1 rfl (by kernel_rfl) ?_
    refine r_buildSlice (e := 9) (cs := [vs [99, 97, 112], vs [61]]) (q := 1) rfl rfl hx19 rfl (fun _ => by kernel_rfl) rfl rfl ?_
    intro b5 wx17 hx20
    refine d_next (hx20.sh (Frz.refl _) [1, 3] (by decide) rfl) ?_
    refine d_step 2 rfl (by kernel_rfl) ?_
    obtain ⟨Fx11, hF11, hx21, hsx4⟩ := freezeRow hx20 (i := 0) rfl ((show RowN Rp.str Fx6 2 [vs [99, 97, 112], vs [61]] [[99, 97, 112], [61]] from ⟨rfl, ⟨_, _, rfl, rfl, ⟨_, _, rfl, rfl, (rfl : RowR Rp.str _ [] [])⟩⟩⟩))
    obtain ⟨v7, hv7, hb2⟩ := bind_some hb2
    refine r_callG0 ent39 rfl rfl rfl rfl hx21 (ref35_words_ok _ _ _ hv7 hx21.sat hsx4) ?_
    rintro _ Fx12 _ wx18 hF12 hx22 ⟨as8, ns8, cs8, xss8, rfl, rfl, hs8⟩
    refine d_next (hx22.sh (hF11.trans hF12) [1, 3] (by decide) rfl) ?_
    refine d_step 3 rfl (by kernel_rfl) ?_
    obtain ⟨Fx13, hF13, hx23, hsx5⟩ := freezeRow hx22 (i := 0) rfl hs8
    obtain ⟨l5, hr4, hb2⟩ := bind_some hb2
    refine r_appendF (r := rp_Token) ap45 rfl rfl rfl hx23 rfl rfl (i := 1) rfl (((hs5.mono hF11).mono hF12).mono hF13) hsx5 hr4 ?_
    intro as9 cs9 wx19 xss9 hx24 hs9
    refine d_next (hx24.sh ((hF11.trans hF12).trans hF13) [0, 2] (by decide) rfl) ?_
    refine d_step 6 rfl (by kernel_rfl) ?_
    obtain ⟨v8, hv8, hb2⟩ := bind_some hb2
    refine r_callG0 ent42 rfl rfl rfl rfl hx24 (ref35_number_ok _ _ _ hv8 hx24.sat) ?_
    rintro _ Fx14 _ wx20 hF14 hx25 ⟨rfl, rfl⟩
    refine d_next (hx25.sh (((hF11.trans hF12).trans hF13).trans hF14) [0, 2] (by decide) rfl) ?_
    refine d_step 7 rfl (by kernel_rfl) ?_
    obtain ⟨v9, hv9, hb2⟩ := bind_some hb2
    refine r_callG0 ent41 rfl rfl rfl rfl hx25 (ref35_word_ok _ _ _ hv9 hx25.sat) ?_
    rintro _ Fx15 _ wx21 hF15 hx26 ⟨rfl, rfl⟩
    refine d_next (hx26.sh ((((hF11.trans hF12).trans hF13).trans hF14).trans hF15) [0, 2] (by decide) rfl) ?_
    refine d_step 8 rfl (by kernel_rfl) ?_
    refine r_buildSlice (e := 53) (cs := [.int .i64 v8.Kind, vs v8.Text, .int .i64 v8.N, .int .i64 v8.Pos, .int .i64 v9.Kind, vs v9.Text, .int .i64 v9.N, .int .i64 v9.Pos]) (q := 4) rfl rfl hx26 rfl (fun _ => by kernel_rfl) rfl rfl ?_
    intro b6 wx22 hx27
    refine d_next (hx27.sh ((((hF11.trans hF12).trans hF13).trans hF14).trans hF15) [1, 3] (by decide) rfl) ?_
    refine d_step 9 rfl (by kernel_rfl) ?_
    obtain ⟨l6, hr5, hb2⟩ := bind_some hb2
    refine r_appendN (r := rp_Token) ap45 rfl rfl hx27 rfl rfl (i := 2) (j := 0) rfl rfl ((hs9.mono hF14).mono hF15) ((show RowN rp_Token Fx15 2 [.int .i64 v8.Kind, vs v8.Text, .int .i64 v8.N, .int .i64 v8.Pos, .int .i64 v9.Kind, vs v9.Text, .int .i64 v9.N, .int .i64 v9.Pos] [v8, v9] from ⟨rfl, ⟨_, _, rfl, rfl, ⟨_, _, rfl, rfl, (rfl : RowR rp_Token _ [] [])⟩⟩⟩)) hr5 ?_
    intro as10 cs10 wx23 hx28 hs10
    refine d_next (hx28.sh ((((hF11.trans hF12).trans hF13).trans hF14).trans hF15) [1, 3] (by decide) rfl) ?_
    refine d_tk 10 rfl (by kernel_rfl) rfl rfl rfl rfl (hx28.sh ((((hF11.trans hF12).trans hF13).trans hF14).trans hF15) [1, 3] (by decide) rfl) (fun _ _ _ _ _ => r_assign rfl rfl rfl (r_nil (qq rfl))) ?_
    refine d_done (by kernel_rfl) ?_
    refine q_next (fun a ha => ?_)
    cases hb2
    exact ⟨_, as10, ((((ns2 + ns3) + 1) + ns8) + 2), cs10, (xss9 ++ [.int .i64 v8.Kind, vs v8.Text, .int .i64 v8.N, .int .i64 v8.Pos, .int .i64 v9.Kind, vs v9.Text, .int .i64 v9.N, .int .i64 v9.Pos]), ((((hF11.trans hF12).trans hF13).trans hF14).trans hF15), hx28.pick [1, 2, 3] (by decide) rfl, hs10, ha.cut (l := [4]) rfl⟩
   ·refine c_lit 22 rfl hb3 ?_
    refine c_false rfl (c_skip ?_)
    refine q_next (fun a ha => ?_)
    cases hb2
    exact ⟨_, as5, ((ns2 + ns3) + 1), cs5, (xss4 ++ [.int .i64 v4.Kind, vs v4.Text, .int .i64 v4.N, .int .i64 v4.Pos]), Frz.refl _, hx12.pick [0, 1, 2] (by decide) rfl, hs5, ha.cut (l := [4]) rfl⟩
end Go.Proofs.YtpihabofmnnbbaaGreatDoor.M

namespace Go.Proofs.YtpihabofmnnbbaaGreatDoor.M
open Go Go.RowKit Rt
theorem ent4 : Ent Tryz.prog 4 := fun _ _ => by kernel_rfl
theorem ent8 : Ent Tryz.prog 8 := fun _ _ => by kernel_rfl
theorem ent10 : Ent Tryz.prog 10 := fun _ _ => by kernel_rfl
theorem ent12 : Ent Tryz.prog 12 := fun _ _ => by kernel_rfl
theorem ent15 : Ent Tryz.prog 15 := fun _ _ => by kernel_rfl
theorem u4 : Tryz.prog.underlying 4 = some .bool := by kernel_rfl
theorem ent6 : Ent Tryz.prog 6 := fun _ _ => by kernel_rfl
theorem ent5 : Ent Tryz.prog 5 := fun _ _ => by kernel_rfl
def law35_TariffTells (n : Nat) (s1 : Bs) (t1 : Tariff) (names1 : (List Bs)) : Option Bool :=
 (law35_small n).bind fun v1 =>
 (bif decide (1000 < (s1.length : Int)) then
  some true
 else
  (law35_limited n t1).bind fun v22 =>
  some (!v22)).bind fun v2 =>
 (bif v2 then
  some true
 else
  (law35_few n names1).bind fun v21 =>
  some (!v21)).bind fun v3 =>
 bif v3 then
  some v1
 else
  (tariff_Parse n s1).bind fun v4 =>
  (ref35_Parse n s1).bind fun v5 =>
  (tariff_Print n t1).bind fun v6 =>
  (ref35_Print n t1).bind fun v7 =>
  (tariff_Type n t1.Fee names1).bind fun v8 =>
  (ref35_Type n t1.Fee names1).bind fun v9 =>
  (ref35_SameTariff n v4.1 v5.1).bind fun v10 =>
  (bif v10 then
   some (v4.2.1 == v5.2.1)
  else
   some false).bind fun v11 =>
  (bif v11 then
   some (v4.2.2 == v5.2.2)
  else
   some false).bind fun v12 =>
  (bif v12 then
   some (v6.1 == v7.1)
  else
   some false).bind fun v13 =>
  (bif v13 then
   some (v6.2 == v7.2)
  else
   some false).bind fun v14 =>
  (bif v14 then
   some (v8.1 == v9.1)
  else
   some false).bind fun v15 =>
  (bif v15 then
   some (v8.2 == v9.2)
  else
   some false).bind fun v16 =>
  (bif v1 then
   some v16
  else
   some false).bind fun v17 =>
  (bif v17 then
   (tariff_Check n t1 names1).bind fun v19 =>
   (ref35_Check n t1 names1).bind fun v20 =>
   some (v19 == v20)
  else
   some false).bind fun v18 =>
  some v18
set_option maxHeartbeats 1000000 in
set_option maxRecDepth 1000000 in
theorem law35_TariffTells_ok (n : Nat) (s1 : Bs) (t1 : Tariff) (names1 : (List Bs)) (r : Bool) (hm : law35_TariffTells n s1 t1 names1 = some r) {w : World} {F : Frz} (hs : Sat F w) {as2 : Option Addr} {ns2 : Nat} {cs2 : Nat} {as3 : Option Addr} {ns3 : Nat} {cs3 : Nat} (hs2 : SlR rp_Expr F as2 ns2 cs2 t1.Fee.Args) (hs3 : SlR Rp.str F as3 ns3 cs3 names1) (hg0 : FX F 0 [.int .u8 40, .int .u8 41, .int .u8 44, .int .u8 59, .int .u8 58, .int .u8 61, .int .u8 60, .int .u8 43, .int .u8 45, .int .u8 42, .int .u8 47, .int .u8 123, .int .u8 125]) (hg1 : FX F 1 (Lib.pow10Tab.map (Value.int .u64))) :
  Calls Tryz.prog 3 #[vs s1, .agg #[vs t1.Name, .int .i64 t1.Fee.Op, .int .i64 t1.Fee.N, vs t1.Fee.Name, .slice as2 ns2 cs2, .int .i64 t1.Cap], .slice as3 ns3 cs3] w fun e w' => ∃ v F' O', e = .returned v ∧ HS F w [] F' O' w' ∧ (v = .bool r ∧ O' = []) := by
 unfold law35_TariffTells at hm
 have h := HS.init hs
 refine calls_of 120 Tryz.func3 rfl rfl rfl ?_
 refine c_seq (c_region ?_)
 refine r_box rfl rfl rfl rfl h ?_
 intro b1 wx1 hx1
 refine r_assign rfl rfl rfl (r_nil (q_then (c_seq (c_region ?_))))
 obtain ⟨v1, hv1, hm⟩ := bind_some hm
 refine r_callG0 ent4 rfl rfl rfl rfl hx1 (law35_small_ok _ _ hv1 hx1.sat hg0 hg1) ?_
 rintro _ Fx1 _ wx2 hF1 hx2 ⟨rfl, rfl⟩
 refine r_assign rfl rfl rfl (r_nil (q_then (c_seq (c_seq (c_region (r_move rfl rfl rfl ?_))))))
 refine r_slen u9 rfl rfl rfl ?_
 refine r_bin rfl rfl rfl rfl rfl ?_
 refine r_move rfl rfl rfl ?_
 obtain ⟨v2, hb1, hm⟩ := bind_some hm
 refine r_mid 4 (fun a w' => ∃ (Fx2 : Frz), Frz.le Fx1 Fx2 ∧ HS F w [] Fx2 [.box b1 26 [vs t1.Name, .int .i64 t1.Fee.Op, .int .i64 t1.Fee.N, vs t1.Fee.Name, .slice as2 ns2 cs2, .int .i64 t1.Cap]] w' ∧ Has 120 a [(0, vs s1), (2, .slice as3 ns3 cs3), (4, .pointer (some ⟨b1, 0, none⟩)), (7, .bool v1), (31, .bool v2)]) ?_ ?_
 ·rintro a wx3 ⟨Fx2, hF2, hx3, hax1⟩
  refine rw_apply hax1 ?_
  refine r_move rfl rfl rfl ?_
  obtain ⟨v3, hb2, hm⟩ := bind_some hm
  refine r_mid 4 (fun a w' => wx3 = w' ∧ Has 120 a [(0, vs s1), (2, .slice as3 ns3 cs3), (4, .pointer (some ⟨b1, 0, none⟩)), (7, .bool v1), (36, .bool v3)]) ?_ ?_
  ·rintro a wx4 ⟨rfl, hax2⟩
   refine rw_apply hax2 ?_
   refine r_nil (q_then ?_)
   rcases cond_some hm with ⟨hb3, hm⟩ | ⟨hb3, hm⟩
   ·refine c_lit 36 rfl hb3 ?_
    refine c_true rfl (c_seq (c_region (r_move rfl rfl rfl (r_assign rfl rfl rfl (r_nil (q_then (c_ret (q_then_ret ?_))))))))
    refine b_ret1 rfl rfl ?_
    obtain rfl := Option.some.inj hm
    exact ⟨_, _, _, rfl, hx3.pick [] (by decide) rfl, rfl, rfl⟩
   ·refine c_lit 36 rfl hb3 ?_
    refine c_false rfl (c_skip (q_then (c_seq (c_region (r_move rfl rfl rfl ?_)))))
    obtain ⟨v4, hv2, hm⟩ := bind_some hm
    refine r_callG0 ent7 rfl rfl rfl rfl hx3 (tariff_Parse_ok _ _ _ hv2 hx3.sat ((hg0.mono hF1).mono hF2)) ?_
    rintro _ Fx3 _ wx5 hF3 hx4 ⟨as4, ns4, cs4, rfl, rfl, hs4⟩
    refine r_move rfl rfl rfl (r_extract rfl rfl rfl rfl (r_extract rfl rfl rfl rfl (r_extract rfl rfl rfl rfl ?_)))
    refine r_alloc ze26 rfl rfl rfl hx4 ?_
    intro b2 wx6 hx5
    refine r_store sz26 rfl hx5 rfl rfl rfl rfl (i := 0) rfl rfl rfl rfl ?_
    intro wx7 hx6
    refine r_assign rfl rfl rfl (r_assign rfl rfl rfl (r_nil (q_then (c_seq (c_region (r_move rfl rfl rfl ?_))))))
    obtain ⟨v5, hv3, hm⟩ := bind_some hm
    refine r_callG0 ent8 rfl rfl rfl rfl hx6 (ref35_Parse_ok _ _ _ hv3 hx6.sat) ?_
    rintro _ Fx4 _ wx8 hF4 hx7 ⟨as5, ns5, cs5, rfl, rfl, hs5⟩
    refine r_move rfl rfl rfl (r_extract rfl rfl rfl rfl (r_extract rfl rfl rfl rfl (r_extract rfl rfl rfl rfl ?_)))
    refine r_alloc ze26 rfl rfl rfl hx7 ?_
    intro b3 wx9 hx8
    refine r_store sz26 rfl hx8 rfl rfl rfl rfl (i := 0) rfl rfl rfl rfl ?_
    intro wx10 hx9
    refine r_assign rfl rfl rfl (r_assign rfl rfl rfl (r_nil (q_then (c_seq (c_region ?_)))))
    refine r_loadBW ag26 sz26 rfl rfl hx9 rfl (i := 2) rfl rfl ?_
    have hG1 := ((hF1.trans hF2).trans hF3).trans hF4
    obtain ⟨v6, hv4, hm⟩ := bind_some hm
    refine r_callG0 ent9 rfl rfl rfl rfl hx9 (tariff_Print_ok _ _ _ hv4 hx9.sat (hs2.mono hG1) (hg1.mono hG1)) ?_
    rintro _ Fx5 _ wx11 hF5 hx10 ⟨rfl, rfl⟩
    refine r_move rfl rfl rfl (r_extract rfl rfl rfl rfl (r_extract rfl rfl rfl rfl (r_assign rfl rfl rfl (r_assign rfl rfl rfl (r_nil (q_then (c_seq (c_region ?_))))))))
    refine r_loadBW ag26 sz26 rfl rfl hx10 rfl (i := 2) rfl rfl ?_
    obtain ⟨v7, hv5, hm⟩ := bind_some hm
    refine r_callG0 ent10 rfl rfl rfl rfl hx10 (ref35_Print_ok _ _ _ hv5 hx10.sat ((hs2.mono hG1).mono hF5)) ?_
    rintro _ Fx6 _ wx12 hF6 hx11 ⟨rfl, rfl⟩
    refine r_move rfl rfl rfl (r_extract rfl rfl rfl rfl (r_extract rfl rfl rfl rfl (r_assign rfl rfl rfl (r_assign rfl rfl rfl (r_nil (q_then (c_seq (c_region ?_))))))))
    refine r_fieldAddr fa26_1 rfl rfl rfl ?_
    refine r_loadBA (cs' := [.int .i64 t1.Fee.Op, .int .i64 t1.Fee.N, vs t1.Fee.Name, .slice as2 ns2 cs2]) ag24 sz24 rfl rfl hx11 rfl (i := 2) rfl rfl rfl ?_
    refine r_move rfl rfl rfl ?_
    obtain ⟨v8, hv6, hm⟩ := bind_some hm
    refine r_callG0 ent11 rfl rfl rfl rfl hx11 (tariff_Type_ok _ _ _ _ hv6 hx11.sat (((hs2.mono hG1).mono hF5).mono hF6) (((hs3.mono hG1).mono hF5).mono hF6)) ?_
    rintro _ Fx7 _ wx13 hF7 hx12 ⟨rfl, rfl⟩
    refine r_move rfl rfl rfl (r_extract rfl rfl rfl rfl (r_extract rfl rfl rfl rfl (r_assign rfl rfl rfl (r_assign rfl rfl rfl (r_nil (q_then (c_seq (c_region ?_))))))))
    refine r_fieldAddr fa26_1 rfl rfl rfl ?_
    refine r_loadBA (cs' := [.int .i64 t1.Fee.Op, .int .i64 t1.Fee.N, vs t1.Fee.Name, .slice as2 ns2 cs2]) ag24 sz24 rfl rfl hx12 rfl (i := 2) rfl rfl rfl ?_
    refine r_move rfl rfl rfl ?_
    obtain ⟨v9, hv7, hm⟩ := bind_some hm
    refine r_callG0 ent12 rfl rfl rfl rfl hx12 (ref35_Type_ok _ _ _ _ hv7 hx12.sat ((((hs2.mono hG1).mono hF5).mono hF6).mono hF7) ((((hs3.mono hG1).mono hF5).mono hF6).mono hF7)) ?_
    rintro _ Fx8 _ wx14 hF8 hx13 ⟨rfl, rfl⟩
    refine r_move rfl rfl rfl (r_extract rfl rfl rfl rfl (r_extract rfl rfl rfl rfl (r_assign rfl rfl rfl (r_assign rfl rfl rfl (r_nil (q_then (c_seq (c_region ?_))))))))
    refine r_loadBW ag26 sz26 rfl rfl hx13 rfl (i := 1) rfl rfl ?_
    refine r_loadBW ag26 sz26 rfl rfl hx13 rfl (i := 0) rfl rfl ?_
    have hG2 := (((hF4.trans hF5).trans hF6).trans hF7).trans hF8
    have hG3 := ((hF5.trans hF6).trans hF7).trans hF8
    obtain ⟨v10, hv8, hm⟩ := bind_some hm
    refine r_callG0 ent13 rfl rfl rfl rfl hx13 (ref35_SameTariff_ok _ _ _ _ hv8 hx13.sat (hs4.mono hG2) (hs5.mono hG3)) ?_
    rintro _ Fx9 _ wx15 hF9 hx14 ⟨rfl, rfl⟩
    refine r_move rfl rfl rfl ?_
    obtain ⟨v11, hb4, hm⟩ := bind_some hm
    refine r_mid 4 (fun a w' => wx15 = w' ∧ Has 120 a [(2, .slice as3 ns3 cs3), (4, .pointer (some ⟨b1, 0, none⟩)), (7, .bool v1), (10, .int .i64 v4.2.2), (13, .int .i64 v5.2.2), (14, vs v6.1), (15, .bool v6.2), (16, vs v7.1), (17, .bool v7.2), (18, .int .i64 v8.1), (19, .int .i64 v8.2), (20, .int .i64 v9.1), (21, .int .i64 v9.2), (81, .bool v11)]) ?_ ?_
    ·rintro a wx16 ⟨rfl, hax3⟩
     refine rw_apply hax3 ?_
     refine r_move rfl rfl rfl ?_
     obtain ⟨v12, hb5, hm⟩ := bind_some hm
     refine r_mid 4 (fun a w' => wx15 = w' ∧ Has 120 a [(2, .slice as3 ns3 cs3), (4, .pointer (some ⟨b1, 0, none⟩)), (7, .bool v1), (14, vs v6.1), (15, .bool v6.2), (16, vs v7.1), (17, .bool v7.2), (18, .int .i64 v8.1), (19, .int .i64 v8.2), (20, .int .i64 v9.1), (21, .int .i64 v9.2), (86, .bool v12)]) ?_ ?_
     ·rintro a wx17 ⟨rfl, hax4⟩
      refine rw_apply hax4 ?_
      refine r_move rfl rfl rfl ?_
      obtain ⟨v13, hb6, hm⟩ := bind_some hm
      refine r_mid 4 (fun a w' => wx15 = w' ∧ Has 120 a [(2, .slice as3 ns3 cs3), (4, .pointer (some ⟨b1, 0, none⟩)), (7, .bool v1), (15, .bool v6.2), (17, .bool v7.2), (18, .int .i64 v8.1), (19, .int .i64 v8.2), (20, .int .i64 v9.1), (21, .int .i64 v9.2), (91, .bool v13)]) ?_ ?_
      ·rintro a wx18 ⟨rfl, hax5⟩
       refine rw_apply hax5 ?_
       refine r_move rfl rfl rfl ?_
       obtain ⟨v14, hb7, hm⟩ := bind_some hm
       refine r_mid 4 (fun a w' => wx15 = w' ∧ Has 120 a [(2, .slice as3 ns3 cs3), (4, .pointer (some ⟨b1, 0, none⟩)), (7, .bool v1), (18, .int .i64 v8.1), (19, .int .i64 v8.2), (20, .int .i64 v9.1), (21, .int .i64 v9.2), (96, .bool v14)]) ?_ ?_
       ·rintro a wx19 ⟨rfl, hax6⟩
        refine rw_apply hax6 ?_
        refine r_move rfl rfl rfl ?_
        obtain ⟨v15, hb8, hm⟩ := bind_some hm
        refine r_mid 4 (fun a w' => wx15 = w' ∧ Has 120 a [(2, .slice as3 ns3 cs3), (4, .pointer (some ⟨b1, 0, none⟩)), (7, .bool v1), (19, .int .i64 v8.2), (21, .int .i64 v9.2), (101, .bool v15)]) ?_ ?_
        ·rintro a wx20 ⟨rfl, hax7⟩
         refine rw_apply hax7 ?_
         refine r_move rfl rfl rfl ?_
         obtain ⟨v16, hb9, hm⟩ := bind_some hm
         refine r_mid 4 (fun a w' => wx15 = w' ∧ Has 120 a [(2, .slice as3 ns3 cs3), (4, .pointer (some ⟨b1, 0, none⟩)), (7, .bool v1), (106, .bool v16)]) ?_ ?_
         ·rintro a wx21 ⟨rfl, hax8⟩
          refine rw_apply hax8 ?_
          refine r_assign rfl rfl rfl (r_nil (q_then (c_seq ?_)))
          refine c_regionD (by kernel_rfl) (by kernel_rfl) hx14 ?_
          refine q_stp rfl rfl rfl rfl (fun _ _ _ _ => r_move rfl rfl rfl (r_nil (qq rfl))) ?_
          refine q_stp rfl rfl rfl rfl (fun _ _ _ _ => r_move rfl rfl rfl (r_nil (qq rfl))) ?_
          obtain ⟨v17, hb10, hm⟩ := bind_some hm
          refine q_mid 2 (fun a => Has 120 a [(2, .slice as3 ns3 cs3), (4, .pointer (some ⟨b1, 0, none⟩)), (110, .bool v17)]) ?_ ?_
          ·intro a hax9
           refine qr_apply hax9 ?_
           refine q_stp rfl rfl rfl rfl (fun _ _ _ _ => r_move rfl rfl rfl (r_nil (qq rfl))) ?_
           obtain ⟨v18, hb11, hm⟩ := bind_some hm
           refine q_mid 8 (fun a => Has 120 a [(119, .bool v18)]) ?_ ?_
           ·intro a hax10
            refine qr_apply hax10 ?_
            refine q_stp rfl rfl rfl rfl (fun _ _ _ _ => r_assign rfl rfl rfl (r_nil (qq rfl))) ?_
            refine q_end ?_
            rintro wx24 ⟨Fx10, hF10, hx15⟩
            refine q_then (c_ret ?_)
            refine b_ret1 rfl rfl ?_
            obtain rfl := Option.some.inj hm
            exact ⟨_, _, _, rfl, hx15.pick [] (by decide) rfl, rfl, rfl⟩
           ·clear hm
            rcases cond_some hb11 with ⟨hb12, hb11⟩ | ⟨hb12, hb11⟩
            ·refine q_lit 111 rfl hb12 ?_
             refine q_stp rfl rfl rfl rfl (fun _ _ _ hq => r_loadBW ag26 sz26 rfl rfl hq rfl (i := 2) rfl rfl (r_nil (qq rfl))) ?_
             refine q_stp rfl rfl rfl rfl (fun _ _ _ _ => r_move rfl rfl rfl (r_nil (qq rfl))) ?_
             obtain ⟨v19, hv9, hb11⟩ := bind_some hb11
             refine q_callG0 ent14 rfl rfl rfl rfl (fun _ _ hleq hq => tariff_Check_ok _ _ _ _ hv9 hq.sat (((((((hs2.mono hG1).mono hF5).mono hF6).mono hF7).mono hF8).mono hF9).mono hleq) (((((((hs3.mono hG1).mono hF5).mono hF6).mono hF7).mono hF8).mono hF9).mono hleq)) ?_
             refine q_stp rfl rfl rfl rfl (fun _ _ _ hq => r_loadBW ag26 sz26 rfl rfl hq rfl (i := 2) rfl rfl (r_nil (qq rfl))) ?_
             refine q_stp rfl rfl rfl rfl (fun _ _ _ _ => r_move rfl rfl rfl (r_nil (qq rfl))) ?_
             obtain ⟨v20, hv10, hb11⟩ := bind_some hb11
             refine q_callG0 ent15 rfl rfl rfl rfl (fun _ _ hleq hq => ref35_Check_ok _ _ _ _ hv10 hq.sat (((((((hs2.mono hG1).mono hF5).mono hF6).mono hF7).mono hF8).mono hF9).mono hleq) (((((((hs3.mono hG1).mono hF5).mono hF6).mono hF7).mono hF8).mono hF9).mono hleq)) ?_
             refine q_stp rfl rfl rfl rfl (fun _ _ _ _ => r_bin rfl rfl rfl rfl rfl (r_nil (qq rfl))) ?_
             refine q_stp rfl rfl rfl rfl (fun _ _ _ _ => r_pick_true rfl rfl rfl rfl (r_nil (qq rfl))) ?_
             refine q_nil (fun a ha => ?_)
             cases hb11
             exact ha.cut (l := [119]) rfl
            ·refine q_lit 111 rfl hb12 ?_
             refine q_off rfl rfl rfl (q_off rfl rfl rfl (q_off rfl rfl rfl (q_off rfl rfl rfl (q_off rfl rfl rfl (q_off rfl rfl rfl (q_off rfl rfl rfl ?_))))))
             refine q_stp rfl rfl rfl rfl (fun _ _ _ _ => r_pick_false rfl rfl rfl rfl (r_nil (qq rfl))) ?_
             refine q_nil (fun a ha => ?_)
             cases hb11
             exact ha.cut (l := [119]) rfl
          ·clear hm
           rcases cond_some hb10 with ⟨hb13, hb10⟩ | ⟨hb13, hb10⟩
           ·refine q_lit 108 rfl hb13 ?_
            refine q_stp rfl rfl rfl rfl (fun _ _ _ _ => r_move rfl rfl rfl (r_nil (qq rfl))) ?_
            refine q_stp rfl rfl rfl rfl (fun _ _ _ _ => r_pick_true rfl rfl rfl rfl (r_nil (qq rfl))) ?_
            refine q_nil (fun a ha => ?_)
            cases hb10
            exact ha.cut (l := [2, 4, 110]) rfl
           ·refine q_lit 108 rfl hb13 ?_
            refine q_off rfl rfl rfl ?_
            refine q_stp rfl rfl rfl rfl (fun _ _ _ _ => r_pick_false rfl rfl rfl rfl (r_nil (qq rfl))) ?_
            refine q_nil (fun a ha => ?_)
            cases hb10
            exact ha.cut (l := [2, 4, 110]) rfl
         ·clear hm
          rcases cond_some hb9 with ⟨hb14, hb9⟩ | ⟨hb14, hb9⟩
          ·refine r_lit 102 rfl hb14 ?_
           refine r_move rfl rfl rfl (r_move rfl rfl rfl ?_)
           refine r_bin rfl rfl rfl rfl rfl ?_
           refine r_pick_true rfl rfl rfl rfl (r_nil ?_)
           refine q_next (fun a ha => ?_)
           cases hb9
           exact ⟨rfl, ha.cut (l := [2, 4, 7, 106]) rfl⟩
          ·refine r_lit 102 rfl hb14 ?_
           refine r_off rfl (by decide) rfl (r_off rfl (by decide) rfl (r_off rfl (by decide) rfl (r_pick_false rfl rfl rfl rfl (r_nil ?_))))
           refine q_next (fun a ha => ?_)
           cases hb9
           exact ⟨rfl, ha.cut (l := [2, 4, 7, 106]) rfl⟩
        ·clear hm
         rcases cond_some hb8 with ⟨hb15, hb8⟩ | ⟨hb15, hb8⟩
         ·refine r_lit 97 rfl hb15 ?_
          refine r_move rfl rfl rfl (r_move rfl rfl rfl ?_)
          refine r_bin rfl rfl rfl rfl rfl ?_
          refine r_pick_true rfl rfl rfl rfl (r_nil ?_)
          refine q_next (fun a ha => ?_)
          cases hb8
          exact ⟨rfl, ha.cut (l := [2, 4, 7, 19, 21, 101]) rfl⟩
         ·refine r_lit 97 rfl hb15 ?_
          refine r_off rfl (by decide) rfl (r_off rfl (by decide) rfl (r_off rfl (by decide) rfl (r_pick_false rfl rfl rfl rfl (r_nil ?_))))
          refine q_next (fun a ha => ?_)
          cases hb8
          exact ⟨rfl, ha.cut (l := [2, 4, 7, 19, 21, 101]) rfl⟩
       ·clear hm
        rcases cond_some hb7 with ⟨hb16, hb7⟩ | ⟨hb16, hb7⟩
        ·refine r_lit 92 rfl hb16 ?_
         refine r_move rfl rfl rfl (r_move rfl rfl rfl ?_)
         refine r_beq u4 rfl rfl rfl rfl ?_
         refine r_pick_true rfl rfl rfl rfl (r_nil ?_)
         refine q_next (fun a ha => ?_)
         cases hb7
         exact ⟨rfl, ha.cut (l := [2, 4, 7, 18, 19, 20, 21, 96]) rfl⟩
        ·refine r_lit 92 rfl hb16 ?_
         refine r_off rfl (by decide) rfl (r_off rfl (by decide) rfl (r_off rfl (by decide) rfl (r_pick_false rfl rfl rfl rfl (r_nil ?_))))
         refine q_next (fun a ha => ?_)
         cases hb7
         exact ⟨rfl, ha.cut (l := [2, 4, 7, 18, 19, 20, 21, 96]) rfl⟩
      ·clear hm
       rcases cond_some hb6 with ⟨hb17, hb6⟩ | ⟨hb17, hb6⟩
       ·refine r_lit 87 rfl hb17 ?_
        refine r_move rfl rfl rfl (r_move rfl rfl rfl ?_)
        refine r_str rfl rfl rfl rfl rfl ?_
        refine r_pick_true rfl rfl rfl rfl (r_nil ?_)
        refine q_next (fun a ha => ?_)
        cases hb6
        exact ⟨rfl, ha.cut (l := [2, 4, 7, 15, 17, 18, 19, 20, 21, 91]) rfl⟩
       ·refine r_lit 87 rfl hb17 ?_
        refine r_off rfl (by decide) rfl (r_off rfl (by decide) rfl (r_off rfl (by decide) rfl (r_pick_false rfl rfl rfl rfl (r_nil ?_))))
        refine q_next (fun a ha => ?_)
        cases hb6
        exact ⟨rfl, ha.cut (l := [2, 4, 7, 15, 17, 18, 19, 20, 21, 91]) rfl⟩
     ·clear hm
      rcases cond_some hb5 with ⟨hb18, hb5⟩ | ⟨hb18, hb5⟩
      ·refine r_lit 82 rfl hb18 ?_
       refine r_move rfl rfl rfl (r_move rfl rfl rfl ?_)
       refine r_bin rfl rfl rfl rfl rfl ?_
       refine r_pick_true rfl rfl rfl rfl (r_nil ?_)
       refine q_next (fun a ha => ?_)
       cases hb5
       exact ⟨rfl, ha.cut (l := [2, 4, 7, 14, 15, 16, 17, 18, 19, 20, 21, 86]) rfl⟩
      ·refine r_lit 82 rfl hb18 ?_
       refine r_off rfl (by decide) rfl (r_off rfl (by decide) rfl (r_off rfl (by decide) rfl (r_pick_false rfl rfl rfl rfl (r_nil ?_))))
       refine q_next (fun a ha => ?_)
       cases hb5
       exact ⟨rfl, ha.cut (l := [2, 4, 7, 14, 15, 16, 17, 18, 19, 20, 21, 86]) rfl⟩
    ·clear hm
     rcases cond_some hb4 with ⟨hb19, hb4⟩ | ⟨hb19, hb4⟩
     ·refine r_lit 77 rfl hb19 ?_
      refine r_move rfl rfl rfl (r_move rfl rfl rfl ?_)
      refine r_bin rfl rfl rfl rfl rfl ?_
      refine r_pick_true rfl rfl rfl rfl (r_nil ?_)
      refine q_next (fun a ha => ?_)
      cases hb4
      exact ⟨rfl, ha.cut (l := [2, 4, 7, 10, 13, 14, 15, 16, 17, 18, 19, 20, 21, 81]) rfl⟩
     ·refine r_lit 77 rfl hb19 ?_
      refine r_off rfl (by decide) rfl (r_off rfl (by decide) rfl (r_off rfl (by decide) rfl (r_pick_false rfl rfl rfl rfl (r_nil ?_))))
      refine q_next (fun a ha => ?_)
      cases hb4
      exact ⟨rfl, ha.cut (l := [2, 4, 7, 10, 13, 14, 15, 16, 17, 18, 19, 20, 21, 81]) rfl⟩
  ·clear hm
   rcases cond_some hb2 with ⟨hb20, hb2⟩ | ⟨hb20, hb2⟩
   ·refine r_lit 32 rfl hb20 ?_
    refine r_off rfl (by decide) rfl (r_off rfl (by decide) rfl (r_off rfl (by decide) rfl (r_pick_true rfl rfl rfl rfl (r_nil ?_))))
    refine q_next (fun a ha => ?_)
    cases hb2
    exact ⟨rfl, ha.cut (l := [0, 2, 4, 7, 36]) rfl⟩
   ·refine r_lit 32 rfl hb20 ?_
    refine r_move rfl rfl rfl ?_
    obtain ⟨v21, hv11, hb2⟩ := bind_some hb2
    refine r_callP0 ent6 rfl rfl rfl rfl (law35_few_ok _ _ _ hv11 hx3.sat ((hs3.mono hF1).mono hF2)) ?_
    refine r_not rfl rfl rfl (r_pick_false rfl rfl rfl rfl (r_nil ?_))
    refine q_next (fun a ha => ?_)
    cases hb2
    exact ⟨rfl, ha.cut (l := [0, 2, 4, 7, 36]) rfl⟩
 ·clear hm
  rcases cond_some hb1 with ⟨hb21, hb1⟩ | ⟨hb21, hb1⟩
  ·refine r_lit 27 rfl hb21 ?_
   refine r_off rfl (by decide) rfl (r_off rfl (by decide) rfl (r_off rfl (by decide) rfl (r_pick_true rfl rfl rfl rfl (r_nil ?_))))
   refine q_next (fun a ha => ?_)
   cases hb1
   exact ⟨_, Frz.refl _, hx2.pick [0] (by decide) rfl, ha.cut (l := [0, 2, 4, 7, 31]) rfl⟩
  ·refine r_lit 27 rfl hb21 ?_
   refine r_loadBW ag26 sz26 rfl rfl hx2 rfl (i := 0) rfl rfl ?_
   obtain ⟨v22, hv12, hb1⟩ := bind_some hb1
   refine r_callG0 ent5 rfl rfl rfl rfl hx2 (law35_limited_ok _ _ _ hv12 hx2.sat (hs2.mono hF1)) ?_
   rintro _ Fx11 _ wx25 hF11 hx16 ⟨rfl, rfl⟩
   refine r_not rfl rfl rfl (r_pick_false rfl rfl rfl rfl (r_nil ?_))
   refine q_next (fun a ha => ?_)
   cases hb1
   exact ⟨_, hF11, hx16.pick [0] (by decide) rfl, ha.cut (l := [0, 2, 4, 7, 31]) rfl⟩
end Go.Proofs.YtpihabofmnnbbaaGreatDoor.M

namespace Go.Proofs.YtpihabofmnnbbaaGreatDoor.Rt
open Go
def Ev {α : Type} (f : Nat → Option α) (r : α) : Prop := ∃ N, ∀ n, N ≤ n → f n = some r
section
variable {α β : Type}
theorem Ev.pure (a : α) : Ev (fun _ => some a) a := ⟨0, fun _ _ => rfl⟩
theorem Ev.all {f : Nat → Option α} {r : α} (h : ∀ n, f n = some r) : Ev f r := ⟨0, fun n _ => h n⟩
theorem Ev.bind {x : Nat → Option α} {f : Nat → α → Option β} {a : α} {b : β} (hx : Ev x a) (hf : Ev (fun n => f n a) b) : Ev (fun n => (x n).bind (f n)) b := by
  obtain ⟨N, hN⟩ := hx
  obtain ⟨M, hM⟩ := hf
  refine ⟨max N M, fun n hn => ?_⟩
  show (x n).bind (f n) = some b
  rw [hN n (by omega)]
  exact hM n (by omega)
theorem Ev.step {x : Option α} {f : Nat → α → Option β} {a : α} {b : β} (hx : x = some a) (hf : Ev (fun n => f n a) b) : Ev (fun n => x.bind (f n)) b := by
  subst hx; exact hf
theorem Ev.then {x : Nat → Option α} {b : α} {c : Bool} {y : Nat → Option α} (hc : c = true) (h : Ev x b) : Ev (fun n => bif c then x n else y n) b := by subst hc; exact h
theorem Ev.else {x : Nat → Option α} {b : α} {c : Bool} {y : Nat → Option α} (hc : c = false) (h : Ev y b) : Ev (fun n => bif c then x n else y n) b := by subst hc; exact h
theorem Ev.from {f g : Nat → Option α} {r : α} (N : Nat) (h : ∀ n, N ≤ n → f n = g n) (hg : Ev g r) : Ev f r := by
  obtain ⟨M, hM⟩ := hg
  exact ⟨max N M, fun n hn => by rw [h n (by omega)]; exact hM n (by omega)⟩
theorem Ev.eq {f : Nat → Option α} {r s : α} (h : Ev f r) (e : r = s) : Ev f s := e ▸ h
theorem Ev.uniq {f : Nat → Option α} {r s : α} (h : Ev f r) (k : Ev f s) : r = s := by
  obtain ⟨N, hN⟩ := h
  obtain ⟨M, hM⟩ := k
  have h1 := hN (max N M) (by omega)
  rw [hM (max N M) (by omega)] at h1
  exact (Option.some.inj h1).symm
end
theorem wrap64 (x : Int) : IntKind.i64.wrap x = if x % 18446744073709551616 ≥ 9223372036854775808 then x % 18446744073709551616 - 18446744073709551616 else x % 18446744073709551616 := by
  simp [IntKind.wrap, IntKind.bits, IntKind.signed]
theorem wrap_i64 {x : Int} (h1 : -9223372036854775808 ≤ x) (h2 : x ≤ 9223372036854775807) : IntKind.i64.wrap x = x := by
  rw [wrap64]; split <;> omega
theorem iadd_i64 {x y : Int} (h1 : -9223372036854775808 ≤ x + y) (h2 : x + y ≤ 9223372036854775807) : iadd .i64 x y = x + y := wrap_i64 h1 h2
theorem isub_i64 {x y : Int} (h1 : -9223372036854775808 ≤ x - y) (h2 : x - y ≤ 9223372036854775807) : isub .i64 x y = x - y := wrap_i64 h1 h2
theorem quo_i64 {x y : Int} (h0 : 0 ≤ x) (h1 : x ≤ 9223372036854775807) (h2 : 0 < y) : quo .i64 x y = some (x / y) := by
  unfold quo
  have h3 := Int.ediv_nonneg h0 (Int.le_of_lt h2)
  have h4 := Int.ediv_le_self y h0
  rw [if_neg (by omega), Int.tdiv_eq_ediv_of_nonneg h0, wrap_i64 (by omega) (by omega)]
theorem rem_pos {x y : Int} (h0 : 0 ≤ x) (h2 : 0 < y) : rem x y = some (x % y) := by
  unfold rem
  rw [if_neg (by omega), Int.tmod_eq_emod_of_nonneg h0]
section
variable {α : Type}
theorem ix_nat (l : List α) (i : Nat) : ix l (i : Int) = l[i]? := by simp [ix]
theorem app_eq {b : Nat} {l m : List α} (h : (l.length + m.length) * b ≤ 140737488355328) : app b l m = some (l ++ m) := by unfold app; rw [if_pos h]
theorem lsl_eq {l : List α} {p q : Nat} (h : p ≤ q) (h2 : q ≤ l.length) : lsl l (p : Int) (q : Int) = some ((l.take q).drop p) := by
  unfold lsl; rw [if_pos ⟨by omega, by omega, by omega⟩]; simp
end
end Go.Proofs.YtpihabofmnnbbaaGreatDoor.Rt

namespace Go.Proofs.YtpihabofmnnbbaaGreatDoor.Rt
open Go
theorem inc64 {i : Nat} (h : i < 4611686018427387904) : iadd .i64 (i : Int) 1 = ((i + 1 : Nat) : Int) := by rw [iadd_i64 (by omega) (by omega)]; omega
theorem dec64 {i : Nat} (h : i < 4611686018427387904) : isub .i64 ((i + 1 : Nat) : Int) 1 = (i : Int) := by rw [isub_i64 (by omega) (by omega)]; omega
theorem drop_cons {α : Type} {a : List α} {i : Nat} {x : α} {xs : List α} (h : a.drop i = x :: xs) : ix a (i : Int) = some x ∧ a.drop (i + 1) = xs ∧ i < a.length := by
  have h1 : i < a.length := by
    rcases Nat.lt_or_ge i a.length with h2 | h2
    · exact h2
    · rw [List.drop_eq_nil_of_le h2] at h; cases h
  rw [List.drop_eq_getElem_cons h1] at h
  injection h with h2 h3
  exact ⟨by rw [ix_nat, List.getElem?_eq_getElem h1, h2], h3, h1⟩
theorem drop_nil {α : Type} {a : List α} {i : Nat} (h : a.drop i = []) : a.length ≤ i := by simpa using h
theorem more_yes {α : Type} {a : List α} {i : Nat} {x : α} {xs : List α} (h : a.drop i = x :: xs) : decide ((i : Int) < (a.length : Int)) = true := by
  have := (drop_cons h).2.2
  exact decide_eq_true (by omega)
theorem more_no {α : Type} {a : List α} {i : Nat} (h : a.drop i = []) : decide ((i : Int) < (a.length : Int)) = false := by
  have := drop_nil h
  exact decide_eq_false (by omega)
section
variable {β : Type} {r : β} {c d : Bool} {y : Nat → Option Bool} {f : Nat → Bool → Option β}
theorem or_pure (hc : c = false) (hd : d = false) (hf : Ev (fun n => f n false) r) : Ev (fun n => (bif c then some true else some d).bind (f n)) r :=
  Ev.bind (a := false) (Ev.else hc (by subst hd; exact Ev.pure _)) hf
theorem and_call (hc : c = true) (hy : Ev y true) (hf : Ev (fun n => f n true) r) : Ev (fun n => (bif c then (y n).bind fun v => some v else some false).bind (f n)) r :=
  Ev.bind (a := true) (Ev.then hc (Ev.bind hy (Ev.pure _))) hf
theorem and_pure (hc : c = true) (hd : d = true) (hf : Ev (fun n => f n true) r) : Ev (fun n => (bif c then some d else some false).bind (f n)) r :=
  Ev.bind (a := true) (Ev.then hc (by subst hd; exact Ev.pure _)) hf
theorem guard {V : Bool} {rest : Nat → Option Bool} (h : V = false → Ev rest true) : Ev (fun n => bif V then some true else rest n) true := by
  cases V with
  | true => exact Ev.then rfl (Ev.pure _)
  | false => exact Ev.else rfl (h rfl)
end
theorem app_ok {α : Type} {b : Nat} {l m : List α} (h : (l.length + m.length) * b ≤ 140737488355328) : app b l m = some (l ++ m) := app_eq h
end Go.Proofs.YtpihabofmnnbbaaGreatDoor.Rt

namespace Go.Proofs.YtpihabofmnnbbaaGreatDoor.Rt
open Go
theorem Ev.suc {α : Type} {f g : Nat → Option α} {r : α} (e : ∀ n, f (n + 1) = g n) (h : Ev g r) : Ev f r := by
  obtain ⟨N, hN⟩ := h
  refine ⟨N + 1, fun n hn => ?_⟩
  obtain ⟨k, rfl⟩ : ∃ k, n = k + 1 := ⟨n - 1, by omega⟩
  rw [e]; exact hN k (by omega)
def Tt {α : Type} (Q : α → Prop) (f : Nat → Option α) : Prop := ∃ r, Ev f r ∧ Q r
section
variable {α β : Type} {P : α → Prop} {Q : β → Prop}
theorem Tt.pure {r : β} (h : Q r) : Tt Q (fun _ => some r) := ⟨r, Ev.pure r, h⟩
theorem Tt.of {f : Nat → Option β} {r : β} (h : Ev f r) (hq : Q r) : Tt Q f := ⟨r, h, hq⟩
theorem Tt.all {f : Nat → Option β} {r : β} (h : ∀ n, f n = some r) (hq : Q r) : Tt Q f := ⟨r, Ev.all h, hq⟩
theorem Tt.bind {x : Nat → Option α} {g : Nat → α → Option β} (hx : Tt P x) (h : ∀ r, P r → Tt Q (fun n => g n r)) : Tt Q (fun n => (x n).bind (g n)) := by
  obtain ⟨r, h1, h2⟩ := hx
  obtain ⟨s, h3, h4⟩ := h r h2
  exact ⟨s, Ev.bind h1 h3, h4⟩
theorem Tt.evb {x : Nat → Option α} {a : α} {g : Nat → α → Option β} (hx : Ev x a) (h : Tt Q (fun n => g n a)) : Tt Q (fun n => (x n).bind (g n)) := by
  obtain ⟨s, h3, h4⟩ := h
  exact ⟨s, Ev.bind hx h3, h4⟩
theorem Tt.step {x : Option α} {g : Nat → α → Option β} {a : α} (hx : x = some a) (h : Tt Q (fun n => g n a)) : Tt Q (fun n => x.bind (g n)) := by
  subst hx; exact h
theorem Tt.bif {c : Bool} {x y : Nat → Option β} (h1 : c = true → Tt Q x) (h2 : c = false → Tt Q y) : Tt Q (fun n => bif c then x n else y n) := by
  cases c
  · exact h2 rfl
  · exact h1 rfl
theorem Tt.suc {f g : Nat → Option β} (e : ∀ n, f (n + 1) = g n) (h : Tt Q g) : Tt Q f := by
  obtain ⟨r, h1, h2⟩ := h
  exact ⟨r, Ev.suc e h1, h2⟩
theorem Tt.cond {c d : Bool} {g : Nat → Bool → Option β} (h : ∀ b, Tt Q (fun n => g n b)) (k : Bool) : Tt Q (fun n => (bif c then some k else some d).bind (g n)) := by
  cases c <;> exact h _
end
end Go.Proofs.YtpihabofmnnbbaaGreatDoor.Rt

namespace Go.Proofs.YtpihabofmnnbbaaGreatDoor.Lx
abbrev Bs := List UInt8
def isLetter (c : UInt8) : Bool := decide ((97 ≤ c.toNat ∧ c.toNat ≤ 122) ∨ (65 ≤ c.toNat ∧ c.toNat ≤ 90))
def isDigit (c : UInt8) : Bool := decide (48 ≤ c.toNat ∧ c.toNat ≤ 57)
def isInner (c : UInt8) : Bool := decide ((97 ≤ c.toNat ∧ c.toNat ≤ 122) ∨ (65 ≤ c.toNat ∧ c.toNat ≤ 90) ∨ (48 ≤ c.toNat ∧ c.toNat ≤ 57) ∨ c.toNat = 95)
def isPlain (c : UInt8) : Bool := decide (32 ≤ c.toNat ∧ c.toNat ≤ 126)
def isBlank (c : UInt8) : Bool := decide (c.toNat = 32 ∨ c.toNat = 9 ∨ c.toNat = 10)
def isSign (c : UInt8) : Bool := [40, 41, 44, 59, 58, 61, 60, 43, 45, 42, 47, 123, 125].contains c
def spanN (p : UInt8 → Bool) : Bs → Nat
  | [] => 0
  | c :: r => bif p c then spanN p r + 1 else 0
theorem spanN_le (p : UInt8 → Bool) : ∀ l, spanN p l ≤ l.length
  | [] => by simp [spanN]
  | c :: r => by
    have := spanN_le p r
    simp only [spanN, List.length_cons]; cases p c <;> simp <;> omega
def name (l : Bs) : Bool := !l.isEmpty && isLetter (l.headD 0) && decide (l.length ≤ 20) && (spanN isInner l == l.length)
def dec (l : Bs) : Nat := l.foldl (fun n c => 10 * n + (c.toNat - 48)) 0
def maxNumber : Nat := 1099511627776
def numberOk (l : Bs) : Bool := !l.isEmpty && (spanN isDigit l == l.length) && !(l.headD 0 == 48 && !(l == [48])) && decide (l.length ≤ 13)
def number (l : Bs) : Nat × Bool := if numberOk l ∧ dec l ≤ maxNumber then (dec l, true) else (0, false)
def esc1 (c : UInt8) : Bs := if c.toNat = 34 ∨ c.toNat = 92 then [92, c] else [c]
def escBody : Bs → Bs
  | [] => []
  | c :: r => esc1 c ++ escBody r
def escaped (l : Bs) : Bs := 34 :: (escBody l ++ [34])
def quote (l : Bs) : Bs × Bool := if l.length ≤ 400 ∧ spanN isPlain l = l.length then (escaped l, true) else ([], false)
def qloop : Bs → Bs → Nat → Option (Bs × Nat)
  | [], _, _ => none
  | c :: r, acc, n =>
    if isPlain c = false then none
    else if c.toNat = 34 then some (acc, n)
    else if c.toNat = 92 then
      match r with
      | [] => none
      | d :: r' => if d.toNat = 34 ∨ d.toNat = 92 then qloop r' (acc ++ [d]) (n + 2) else none
    else qloop r (acc ++ [c]) (n + 1)
def quoted (l : Bs) : Bs × Nat :=
  match qloop (l.drop 1) [] 1 with
  | none => ([], 0)
  | some (v, n) => if v.length > 400 then ([], 0) else (v, n + 1)
def gapN : Bool → Bs → Nat
  | _, [] => 0
  | true, c :: r => if c.toNat = 10 then gapN false r + 1 else gapN true r + 1
  | false, c :: r => if isBlank c then gapN false r + 1 else if c.toNat = 35 then gapN true r + 1 else 0
end Go.Proofs.YtpihabofmnnbbaaGreatDoor.Lx

namespace Go.Proofs.YtpihabofmnnbbaaGreatDoor.Lx
open Rt M Go
def errT : Token := ⟨0, [], 0, 0⟩
def next (l : Rt.Bs) : Token × Nat × Int :=
  if isLetter (l.headD 0) then
    if name (l.take (spanN isInner l)) then (⟨0, l.take (spanN isInner l), 0, 0⟩, spanN isInner l, 0) else (errT, 0, 3)
  else if isDigit (l.headD 0) then
    if (number (l.take (spanN isDigit l))).2 then (⟨1, l.take (spanN isDigit l), (number (l.take (spanN isDigit l))).1, 0⟩, spanN isDigit l, 0) else (errT, 0, 3)
  else if (l.headD 0).toNat = 34 then
    if (quoted l).2 = 0 then (errT, 0, 2) else (⟨2, (quoted l).1, 0, 0⟩, (quoted l).2, 0)
  else if isSign (l.headD 0) then (⟨3, l.take 1, 0, 0⟩, 1, 0)
  else (errT, 0, 10)
def scanF : Nat → Rt.Bs → Nat → List Token × Nat × Int
  | 0, _, _ => ([], 0, 0)
  | f + 1, r, at_ =>
    if gapN false r = r.length then ([], 0, 0)
    else if (next (r.drop (gapN false r))).2.2 ≠ 0 then ([], at_ + gapN false r, (next (r.drop (gapN false r))).2.2)
    else if (scanF f (r.drop (gapN false r + (next (r.drop (gapN false r))).2.1)) (at_ + gapN false r + (next (r.drop (gapN false r))).2.1)).2.2 ≠ 0 then
      scanF f (r.drop (gapN false r + (next (r.drop (gapN false r))).2.1)) (at_ + gapN false r + (next (r.drop (gapN false r))).2.1)
    else ({ (next (r.drop (gapN false r))).1 with Pos := ((at_ + gapN false r : Nat) : Int) } :: (scanF f (r.drop (gapN false r + (next (r.drop (gapN false r))).2.1)) (at_ + gapN false r + (next (r.drop (gapN false r))).2.1)).1, 0, 0)
def scan (l : Rt.Bs) : List Token × Nat × Int := if l.length > 4000 then ([], 0, 6) else scanF (l.length + 1) l 0
theorem sidx_drop {s r : Rt.Bs} {i : Nat} {c : UInt8} (h : s.drop i = c :: r) : sidx s (i : Int) = some (c.toNat : Int) := by
  have h1 : s[i]? = some c := by
    have := congrArg (·[0]?) h
    simpa using this
  simp [sidx, h1]
theorem len_drop {s r : Rt.Bs} {i : Nat} {c : UInt8} (h : s.drop i = c :: r) : i + r.length + 1 = s.length := by
  have := congrArg List.length h
  simp only [List.length_drop, List.length_cons] at this
  omega
theorem drop_succ {s r : Rt.Bs} {i : Nat} {c : UInt8} (h : s.drop i = c :: r) : s.drop (i + 1) = r := by
  rw [← List.drop_drop, h, List.drop_one, List.tail_cons]
theorem drop_nil {s : Rt.Bs} {i : Nat} (h : s.drop i = []) (hi : i ≤ s.length) : i = s.length := by
  have := congrArg List.length h
  simp only [List.length_drop, List.length_nil] at this
  omega
theorem wrap_i64 (x : Int) (h1 : -9223372036854775808 ≤ x) (h2 : x < 9223372036854775808) : IntKind.i64.wrap x = x := by
  simp [IntKind.wrap, IntKind.signed, IntKind.bits]
  split <;> omega
theorem iadd_nat (a b : Nat) (h : a + b < 9223372036854775808) : iadd .i64 (a : Int) (b : Int) = ((a + b : Nat) : Int) := by
  rw [iadd, wrap_i64 _ (by omega) (by omega)]; simp
theorem iadd_nat1 (a : Nat) (h : a + 1 < 9223372036854775808) : iadd .i64 (a : Int) 1 = ((a + 1 : Nat) : Int) := iadd_nat a 1 h
theorem ssl_nat {s : Rt.Bs} (a b : Nat) (h : a ≤ b) (hb : b ≤ s.length) : ssl s (a : Int) (b : Int) = some ((s.take b).drop a) := by
  rw [ssl, if_pos (by omega)]; simp
theorem ssl_from {s : Rt.Bs} (a : Nat) (h : a ≤ s.length) : ssl s (a : Int) (s.length : Int) = some (s.drop a) := by
  rw [ssl_nat a _ h (Nat.le_refl _), List.take_length]
theorem ssl_to {s : Rt.Bs} (b : Nat) (h : b ≤ s.length) : ssl s 0 (b : Int) = some (s.take b) := by
  have := ssl_nat (s := s) 0 b (by omega) h
  simpa using this
theorem byte_all {p : UInt8 → Bool} (h : (List.range 256).all (fun k => p (UInt8.ofNat k)) = true) (c : UInt8) : p c = true := by
  have := List.all_eq_true.mp h c.toNat (by simpa using c.toNat_lt)
  simpa using this
theorem blank_eq (n : Nat) (c : UInt8) : lexer_blank n (c.toNat : Int) = some (isBlank c) :=
  of_decide_eq_true (byte_all (p := fun c => decide (lexer_blank 0 (c.toNat : Int) = some (isBlank c))) (by decide +kernel) c)
theorem letter_eq (n : Nat) (c : UInt8) : lexer_letter n (c.toNat : Int) = some (isLetter c) :=
  of_decide_eq_true (byte_all (p := fun c => decide (lexer_letter 0 (c.toNat : Int) = some (isLetter c))) (by decide +kernel) c)
theorem digit_eq (n : Nat) (c : UInt8) : lexer_digit n (c.toNat : Int) = some (isDigit c) :=
  of_decide_eq_true (byte_all (p := fun c => decide (lexer_digit 0 (c.toNat : Int) = some (isDigit c))) (by decide +kernel) c)
theorem inner_eq (n : Nat) (c : UInt8) : lexer_inner n (c.toNat : Int) = some (isInner c) :=
  of_decide_eq_true (byte_all (p := fun c => decide (lexer_inner 0 (c.toNat : Int) = some (isInner c))) (by decide +kernel) c)
theorem plain_eq (n : Nat) (c : UInt8) : lexer_plain n (c.toNat : Int) = some (isPlain c) :=
  of_decide_eq_true (byte_all (p := fun c => decide (lexer_plain 0 (c.toNat : Int) = some (isPlain c))) (by decide +kernel) c)
theorem sub48 (c : UInt8) (h : isDigit c = true) : IntKind.i64.wrap (isub .u8 (c.toNat : Int) 48) = ((c.toNat - 48 : Nat) : Int) :=
  of_decide_eq_true (byte_all (p := fun c => decide (isDigit c = true → IntKind.i64.wrap (isub .u8 (c.toNat : Int) 48) = ((c.toNat - 48 : Nat) : Int))) (by decide +kernel) c) h
theorem toNat_inj {c d : UInt8} : ((c.toNat : Int) == (d.toNat : Int)) = (c == d) := by
  by_cases h : c = d
  · simp [h]
  · have : c.toNat ≠ d.toNat := fun e => h (UInt8.toNat_inj.mp e)
    rw [beq_eq_false_iff_ne.mpr h, beq_eq_false_iff_ne]; omega
theorem span_loop {p : UInt8 → Bool} {f : Int → Option Bool} (hf : ∀ c : UInt8, f c.toNat = some (p c)) {s : Rt.Bs} (hs : s.length < 9223372036854775807) {n : Nat} {kont : Int → Option Int} :
    ∀ {r : Rt.Bs} {i m : Nat}, s.drop i = r → i ≤ s.length → r.length < m → lexer_span_L1 n s f kont m (i : Int) = kont ((i + spanN p r : Nat) : Int)
  | [], i, m + 1, h, hi, _ => by
    have := drop_nil h hi
    rw [lexer_span_L1_s]
    simp [this, spanN]
  | c :: r, i, m + 1, h, hi, hm => by
    have h1 := len_drop h
    rw [lexer_span_L1_s, sidx_drop h, decide_eq_true (by omega)]
    simp only [cond_true, Option.bind_some, hf]
    cases hp : p c
    · simp [spanN, hp]
    · rw [cond_true, iadd_nat1 _ (by omega), span_loop hf hs (drop_succ h) (by omega) (by simp only [List.length_cons] at hm; omega)]
      simp only [spanN, hp, cond_true]
      congr 2; omega
theorem span_eq {p : UInt8 → Bool} {f : Int → Option Bool} (hf : ∀ c : UInt8, f c.toNat = some (p c)) {s : Rt.Bs} (hs : s.length < 9223372036854775807) {n : Nat} (hn : s.length < n) :
    lexer_span n s f = some ((spanN p s : Nat) : Int) := by
  have := span_loop hf hs (n := n) (kont := fun nx2 => some nx2) (r := s) (i := 0) (m := n) (by simp) (by omega) hn
  simpa [lexer_span] using this
theorem headD_idx {s : Rt.Bs} (h : s ≠ []) : sidx s 0 = some ((s.headD 0).toNat : Int) := by
  cases s with
  | nil => exact absurd rfl h
  | cons c r => exact sidx_drop (i := 0) rfl
theorem name_eq {s : Rt.Bs} (hs : s.length < 9223372036854775807) {n : Nat} (hn : s.length < n) : lexer_Name n s = some (name s) := by
  cases hs0 : s with
  | nil => rfl
  | cons c r =>
    rw [← hs0]
    have h0 : s ≠ [] := by rw [hs0]; simp
    have h1 : (s == []) = false := by simp [hs0]
    simp only [lexer_Name, h1, Bool.not_false, cond_true, headD_idx h0, Option.bind_some, letter_eq, span_eq (inner_eq n) hs hn, name]
    have h2 : s.isEmpty = false := by simp [hs0]
    rw [h2]
    cases isLetter (s.headD 0) <;> by_cases h3 : s.length ≤ 20 <;> simp [h3]
    · rw [decide_eq_true (by omega)]
      simp only [cond_true, Option.some.injEq]
      rw [Bool.eq_iff_iff]; simp; omega
    · rw [decide_eq_false (by omega)]; simp
end Go.Proofs.YtpihabofmnnbbaaGreatDoor.Lx

namespace Go.Proofs.YtpihabofmnnbbaaGreatDoor.Lx
open Rt M Go
def decF (a : Nat) (l : Rt.Bs) : Nat := l.foldl (fun n c => 10 * n + (c.toNat - 48)) a
theorem digit_le {c : UInt8} (h : isDigit c = true) : c.toNat - 48 ≤ 9 := by
  simp only [isDigit, decide_eq_true_eq] at h; omega
theorem decF_ge : ∀ (l : Rt.Bs) (a : Nat), a * 10 ^ l.length ≤ decF a l
  | [], a => by simp [decF]
  | c :: r, a => by
    have h1 := decF_ge r (10 * a + (c.toNat - 48))
    show _ ≤ decF (10 * a + (c.toNat - 48)) r
    refine Nat.le_trans ?_ h1
    rw [List.length_cons, Nat.pow_succ, Nat.mul_comm (10 ^ r.length) 10, ← Nat.mul_assoc]
    exact Nat.mul_le_mul_right _ (by omega)
theorem number_loop {s : Rt.Bs} (hs : s.length ≤ 13) {n : Nat} {kont : Int → Option (Int × Bool)} :
    ∀ {r : Rt.Bs} {i m a : Nat}, s.drop i = r → i ≤ s.length → r.length < m → spanN isDigit r = r.length → a < 10 ^ i → lexer_Number_L1 n s kont m (a : Int) (i : Int) = kont ((decF a r : Nat) : Int)
  | [], i, m + 1, a, h, hi, _, _, _ => by
    have := drop_nil h hi
    rw [lexer_Number_L1_s]
    simp [this, decF]
  | c :: r, i, m + 1, a, h, hi, hm, hd, ha => by
    have h1 := len_drop h
    simp only [spanN, List.length_cons] at hd
    cases hp : isDigit c
    · simp [hp] at hd
    simp only [hp, cond_true] at hd
    have h2 := digit_le hp
    have h3 : a < 10 ^ 12 := Nat.lt_of_lt_of_le ha (Nat.pow_le_pow_right (by omega) (by omega))
    rw [lexer_Number_L1_s, sidx_drop h, decide_eq_true (by omega)]
    simp only [cond_true, Option.bind_some, sub48 c hp]
    have e1 : imul .i64 10 (a : Int) = ((10 * a : Nat) : Int) := by rw [imul, wrap_i64 _ (by omega) (by omega)]; simp
    rw [e1, iadd_nat _ _ (by omega), iadd_nat1 _ (by omega), number_loop hs (drop_succ h) (by omega) (by simp only [List.length_cons] at hm; omega) (by omega) (by rw [Nat.pow_succ]; omega)]
    rfl
theorem number_eq {s : Rt.Bs} (hs : s.length < 9223372036854775807) {n : Nat} (hn : s.length < n) : lexer_Number n s = some (((number s).1 : Int), (number s).2) := by
  cases hs0 : s with
  | nil => rfl
  | cons c r =>
    rw [← hs0]
    have h0 : s ≠ [] := by rw [hs0]; simp
    have h1 : (s == []) = false := by simp [hs0]
    have h2 : s.isEmpty = false := by simp [hs0]
    simp only [lexer_Number, h1, cond_false, span_eq (digit_eq n) hs hn, Option.bind_some, headD_idx h0, number, numberOk, h2, Bool.not_false, Bool.true_and]
    have e1 : ((((s.headD 0).toNat : Nat) : Int) == 48) = (s.headD 0 == 48) := toNat_inj (d := 48)
    rw [e1]
    by_cases h3 : spanN isDigit s = s.length
    · rw [h3]
      simp only [bne_self_eq_false, cond_false, beq_self_eq_true, Bool.true_and]
      have e2 : (bif s.headD 0 == 48 then some (!s == [48]) else some false).bind (fun v4 => some v4) = some (s.headD 0 == 48 && !s == [48]) := by
        cases s.headD 0 == 48 <;> rfl
      rw [e2]
      simp only [Option.bind_some]
      cases hz : (s.headD 0 == 48 && !s == [48])
      · by_cases h4 : s.length ≤ 13
        · rw [decide_eq_false (show ¬ (13 : Int) < s.length by omega)]
          simp only [cond_false, Option.bind_some]
          have := number_loop h4 (n := n) (kont := fun nx2 => bif decide (1099511627776 < nx2) then some (0, false) else some (nx2, true)) (r := s) (i := 0) (m := n) (a := 0) (by simp) (by omega) hn h3 (by simp)
          simp only [Int.natCast_zero] at this
          rw [this]
          have h5 : decF 0 s = dec s := rfl
          rw [h5]
          by_cases h6 : dec s ≤ maxNumber
          · rw [decide_eq_false (by simp only [maxNumber] at h6; omega)]
            simp [h4, h6]
          · rw [decide_eq_true (by simp only [maxNumber] at h6; omega)]
            simp [h6]
        · rw [decide_eq_true (show (13 : Int) < s.length by omega)]
          simp [h4]
      · simp
    · have e3 : (((spanN isDigit s : Nat) : Int) != (s.length : Int)) = true := by simp; omega
      have e4 : (spanN isDigit s == s.length) = false := by simp [h3]
      rw [e3, e4]
      simp
def not10 (c : UInt8) : Bool := !(c == 10)
def hashN : Rt.Bs → Nat
  | [] => 0
  | c :: r => if c.toNat = 35 then gapN true r + 1 else 0
theorem gap_split : ∀ r : Rt.Bs, gapN false r = spanN isBlank r + hashN (r.drop (spanN isBlank r))
  | [] => rfl
  | c :: r => by
    cases hp : isBlank c
    · simp only [gapN, spanN, hp, cond_false, List.drop_zero, hashN]
      simp
    · simp only [gapN, spanN, hp, cond_true, List.drop_succ_cons, if_true, gap_split r]
      omega
theorem gap_true : ∀ r : Rt.Bs, gapN true r = spanN not10 r + gapN false (r.drop (spanN not10 r))
  | [] => rfl
  | c :: r => by
    by_cases h : c.toNat = 10
    · have h1 : c = 10 := UInt8.toNat_inj.mp h
      subst h1
      simp [gapN, spanN, not10, isBlank]
    · have h1 : not10 c = true := by
        have : c ≠ 10 := fun e => h (by rw [e]; rfl)
        simp [not10, this]
      simp only [gapN, spanN, h1, h, if_false, cond_true, List.drop_succ_cons, gap_true r]
      omega
theorem hashN_step {c : UInt8} {r : Rt.Bs} (h : c.toNat = 35) : hashN (c :: r) = spanN not10 (c :: r) + spanN isBlank ((c :: r).drop (spanN not10 (c :: r))) + hashN (((c :: r).drop (spanN not10 (c :: r))).drop (spanN isBlank ((c :: r).drop (spanN not10 (c :: r))))) := by
  have h1 : not10 c = true := by
    have : c ≠ 10 := fun e => by rw [e] at h; exact absurd h (by decide)
    simp [not10, this]
  simp only [hashN, h, if_true, spanN, h1, cond_true, List.drop_succ_cons, gap_true r, gap_split (r.drop (spanN not10 r))]
  omega
theorem gapN_le : ∀ (b : Bool) (r : Rt.Bs), gapN b r ≤ r.length
  | _, [] => by simp [gapN]
  | true, c :: r => by
    have h1 := gapN_le true r; have h2 := gapN_le false r
    simp only [gapN, List.length_cons]; split <;> omega
  | false, c :: r => by
    have h1 := gapN_le true r; have h2 := gapN_le false r
    simp only [gapN, List.length_cons]; split
    · omega
    · split <;> omega
theorem gap_loop2 {s : Rt.Bs} (hs : s.length ≤ 1000000) {n : Nat} {kont : Int → Option Int} :
    ∀ {r : Rt.Bs} {i m : Nat}, s.drop i = r → i ≤ s.length → r.length < m → lexer_gap_L2 n s kont m (i : Int) = kont ((i + spanN not10 r : Nat) : Int)
  | [], i, m + 1, h, hi, _ => by
    have := drop_nil h hi
    rw [lexer_gap_L2_s]
    simp [this, spanN]
  | c :: r, i, m + 1, h, hi, hm => by
    have h1 := len_drop h
    rw [lexer_gap_L2_s, sidx_drop h, decide_eq_true (by omega)]
    have e : ((c.toNat : Int) != 10) = not10 c := by rw [not10, bne, ← toNat_inj (d := 10)]; rfl
    simp only [cond_true, Option.bind_some, e]
    cases hp : not10 c
    · simp [spanN, hp]
    · rw [cond_true, iadd_nat1 _ (by omega), gap_loop2 hs (drop_succ h) (by omega) (by simp only [List.length_cons] at hm; omega)]
      simp only [spanN, hp, cond_true]
      congr 2; omega
theorem gap_loop1 {s : Rt.Bs} (hs : s.length ≤ 1000000) {n : Nat} (hn : s.length < n) {kont : Int → Option Int} :
    ∀ {m : Nat} {r : Rt.Bs} {i : Nat}, s.drop i = r → i ≤ s.length → r.length < m → lexer_gap_L1 n s kont m (i : Int) = kont ((i + hashN r : Nat) : Int)
  | m + 1, [], i, h, hi, _ => by
    have := drop_nil h hi
    rw [lexer_gap_L1_s]
    simp [this, hashN]
  | m + 1, c :: r, i, h, hi, hm => by
    have h1 := len_drop h
    rw [lexer_gap_L1_s, sidx_drop h, decide_eq_true (by omega)]
    simp only [cond_true, Option.bind_some]
    by_cases hc : c.toNat = 35
    · have e : ((c.toNat : Int) == 35) = true := by rw [hc]; rfl
      rw [e, cond_true, gap_loop2 hs h hi (by simp only [List.length_cons]; omega)]
      have h2 := spanN_le not10 (c :: r)
      simp only [List.length_cons] at h2 hm
      have h3 : s.drop (i + spanN not10 (c :: r)) = (c :: r).drop (spanN not10 (c :: r)) := by rw [← List.drop_drop, h]
      rw [ssl_from _ (by omega), Option.bind_some, h3, span_eq (blank_eq n) (by simp; omega) (by simp; omega), Option.bind_some]
      have h4 := spanN_le isBlank ((c :: r).drop (spanN not10 (c :: r)))
      simp only [List.length_drop, List.length_cons] at h4
      have h6 : 1 ≤ spanN not10 (c :: r) := by
        have h7 : not10 c = true := by
          have : c ≠ 10 := fun e => by rw [e] at hc; exact absurd hc (by decide)
          simp [not10, this]
        simp only [spanN, h7, cond_true]; omega
      rw [iadd_nat _ _ (by omega), gap_loop1 hs hn (r := ((c :: r).drop (spanN not10 (c :: r))).drop (spanN isBlank ((c :: r).drop (spanN not10 (c :: r)))))
        (by rw [← h3, List.drop_drop]) (by omega) (by simp only [List.length_drop, List.length_cons]; omega), hashN_step hc]
      congr 2; omega
    · have e : ((c.toNat : Int) == 35) = false := by rw [beq_eq_false_iff_ne]; omega
      rw [e, cond_false, hashN, if_neg hc]; rfl
theorem gap_eq {s : Rt.Bs} (hs : s.length ≤ 1000000) {n : Nat} (hn : s.length < n) : lexer_gap n s = some ((gapN false s : Nat) : Int) := by
  have h := spanN_le isBlank s
  simp only [lexer_gap, span_eq (blank_eq n) (by omega) hn, Option.bind_some]
  rw [gap_loop1 hs hn (r := s.drop (spanN isBlank s)) rfl h (by simp; omega), gap_split s]
def ints (l : Rt.Bs) : List Int := l.map fun c => (c.toNat : Int)
theorem ints_snoc (l : Rt.Bs) (c : UInt8) : ints l ++ [(c.toNat : Int)] = ints (l ++ [c]) := by simp [ints]
theorem ints_len (l : Rt.Bs) : (ints l).length = l.length := by simp [ints]
theorem strOf_ints : ∀ l : Rt.Bs, strOf (ints l) = l
  | [] => rfl
  | c :: r => by
    have h := strOf_ints r
    simp only [strOf, ints, List.map_cons] at *
    rw [h]; simp
theorem qloop_cons (c : UInt8) (r acc : Rt.Bs) (n : Nat) : qloop (c :: r) acc n = if isPlain c = false then none
    else if c.toNat = 34 then some (acc, n)
    else if c.toNat = 92 then
      match r with
      | [] => none
      | d :: r' => if d.toNat = 34 ∨ d.toNat = 92 then qloop r' (acc ++ [d]) (n + 2) else none
    else qloop r (acc ++ [c]) (n + 1) := by
  cases r <;> simp only [qloop]
theorem quoted_loop {s : Rt.Bs} (hs : s.length ≤ 1000000) {n : Nat} {kont : Int → List Int → Option (Rt.Bs × Int)} :
    ∀ {m : Nat} {r acc : Rt.Bs} {i : Nat}, s.drop i = r → i ≤ s.length → acc.length ≤ i → r.length < m →
      lexer_quoted_L1 n s kont m (i : Int) (ints acc) = match qloop r acc i with
        | none => some ([], 0)
        | some (v, k) => kont (k : Int) (ints v)
  | m + 1, [], acc, i, h, hi, _, _ => by
    have := drop_nil h hi
    rw [lexer_quoted_L1_s]
    simp [this, qloop]
  | m + 1, c :: r, acc, i, h, hi, ha, hm => by
    have h1 := len_drop h
    simp only [List.length_cons] at hm
    rw [lexer_quoted_L1_s, sidx_drop h, decide_eq_false (by omega)]
    simp only [cond_false, Option.bind_some, plain_eq]
    cases hp : isPlain c
    · simp [qloop_cons, hp]
    simp only [Bool.not_true, cond_false]
    by_cases h34 : c.toNat = 34
    · rw [h34, qloop_cons, hp, if_neg (by simp), if_pos h34]; rfl
    have e34 : ((c.toNat : Int) == 34) = false := by rw [beq_eq_false_iff_ne]; omega
    rw [e34, cond_false]
    by_cases h92 : c.toNat = 92
    · have e : ((c.toNat : Int) == 92) = true := by rw [h92]; rfl
      rw [e, cond_true, iadd_nat1 _ (by omega)]
      cases r with
      | nil =>
        rw [decide_eq_true (by simp at h1; omega)]
        simp [qloop, hp, h92]
      | cons d r' =>
        have h' := drop_succ h
        have h1' := len_drop h'
        simp only [List.length_cons] at hm
        rw [decide_eq_false (by omega), sidx_drop h']
        simp only [cond_false, Option.bind_some]
        by_cases hd : d.toNat = 34 ∨ d.toNat = 92
        · have e2 : (bif (d.toNat : Int) != 34 then some ((d.toNat : Int) != 92) else some false) = some false := by
            rcases hd with hd | hd <;> rw [hd] <;> rfl
          have h3 : (((ints acc).length + [(d.toNat : Int)].length) * 1) ≤ 140737488355328 := by rw [ints_len]; simp; omega
          rw [e2]
          simp only [Option.bind_some, cond_false]
          rw [app, if_pos h3, Option.bind_some, ints_snoc, iadd_nat1 _ (by omega), quoted_loop hs (drop_succ h') (by omega) (by simp; omega) (by omega)]
          simp [qloop, hp, h92, hd]
        · have e2 : (bif (d.toNat : Int) != 34 then some ((d.toNat : Int) != 92) else some false) = some true := by
            have : ((d.toNat : Int) != 34) = true := by simp; omega
            rw [this, cond_true]
            have : ((d.toNat : Int) != 92) = true := by simp; omega
            rw [this]
          rw [e2]
          simp [qloop, hp, h92, hd]
    · have e : ((c.toNat : Int) == 92) = false := by rw [beq_eq_false_iff_ne]; omega
      have h3 : (((ints acc).length + [(c.toNat : Int)].length) * 1) ≤ 140737488355328 := by rw [ints_len]; simp; omega
      rw [e, cond_false, app, if_pos h3, Option.bind_some, ints_snoc, iadd_nat1 _ (by omega), quoted_loop hs (drop_succ h) (by omega) (by simp; omega) (by omega)]
      simp [qloop_cons, hp, h34, h92]
theorem qloop_lt : ∀ {r acc v : Rt.Bs} {i k : Nat}, qloop r acc i = some (v, k) → i ≤ k ∧ k < i + r.length
  | [], _, _, _, _, h => by simp [qloop] at h
  | c :: r, acc, v, i, k, h => by
    rw [qloop_cons] at h
    split at h
    · cases h
    split at h
    · cases h; simp
    split at h
    · cases r with
      | nil => cases h
      | cons d r' =>
        simp only at h
        split at h
        · have := qloop_lt h; simp only [List.length_cons]; omega
        · cases h
    · have := qloop_lt h; simp only [List.length_cons]; omega
theorem quoted_eq {s : Rt.Bs} (h0 : s ≠ []) (hs : s.length ≤ 1000000) {n : Nat} (hn : s.length < n) : lexer_quoted n s = some ((quoted s).1, ((quoted s).2 : Int)) := by
  have h1 : 1 ≤ s.length := by cases s; exact absurd rfl h0; simp
  have := quoted_loop hs (n := n) (kont := fun nx2 l2 => bif decide (400 < (l2.length : Int)) then some ([], 0) else some (strOf l2, iadd .i64 nx2 1)) (m := n) (r := s.drop 1) (acc := []) (i := 1) rfl h1 (by simp) (by simp; omega)
  simp only [lexer_quoted]
  refine this.trans ?_
  simp only [quoted]
  cases hq : qloop (s.drop 1) [] 1 with
  | none => rfl
  | some x =>
    obtain ⟨v, k⟩ := x
    have h2 := qloop_lt hq
    simp only [List.length_drop] at h2
    simp only [ints_len, strOf_ints]
    by_cases h3 : v.length > 400
    · rw [decide_eq_true (by omega), if_pos h3]; rfl
    · rw [decide_eq_false (by omega), if_neg h3, cond_false, iadd_nat1 _ (by omega)]
def signs : List UInt8 := [40, 41, 44, 59, 58, 61, 60, 43, 45, 42, 47, 123, 125]
theorem ix_drop {α : Type} {l r : List α} {i : Nat} {c : α} (h : l.drop i = c :: r) : ix l (i : Int) = some c := by
  have h1 : l[i]? = some c := by
    have := congrArg (·[0]?) h
    simpa using this
  simp [ix, h1]
theorem next_loop {s : Rt.Bs} (h0 : s ≠ []) {n : Nat} {kont : Option (Token × Int × Int)} :
    ∀ {r : List UInt8} {i m : Nat}, signs.drop i = r → i ≤ 13 → r.length < m → lexer_next_L1 n s kont m (i : Int) = if r.contains (s.headD 0) then some (⟨3, s.take 1, 0, 0⟩, 1, 0) else kont
  | [], i, m + 1, h, hi, _ => by
    have := congrArg List.length h
    simp only [signs, List.length_drop, List.length_cons, List.length_nil] at this
    have : i = 13 := by omega
    subst this
    rw [lexer_next_L1_s]; rfl
  | c :: r, i, m + 1, h, hi, hm => by
    have h1 := congrArg List.length h
    simp only [signs, List.length_drop, List.length_cons, List.length_nil] at h1 hm
    have h2 : ([40, 41, 44, 59, 58, 61, 60, 43, 45, 42, 47, 123, 125] : List Int).drop i = ints (c :: r) := by
      rw [← h, ints, List.map_drop]; rfl
    have h3 : 1 ≤ s.length := by cases s; exact absurd rfl h0; simp
    rw [lexer_next_L1_s, decide_eq_true (by omega), cond_true, ix_drop h2, headD_idx h0, Option.bind_some, Option.bind_some, toNat_inj]
    by_cases e : s.headD 0 = c
    · rw [e, beq_self_eq_true, cond_true, show (1 : Int) = ((1 : Nat) : Int) from rfl, ssl_to 1 h3]
      simp
    · have e1 : (s.headD 0 == c) = false := beq_eq_false_iff_ne.mpr e
      rw [e1, cond_false, iadd_nat1 _ (by omega), next_loop h0 (r := r) (by rw [← List.drop_drop, h]; rfl) (by omega) (by omega), List.contains_cons, e1, Bool.false_or]
theorem next_eq {s : Rt.Bs} (h0 : s ≠ []) (hs : s.length ≤ 1000000) {n : Nat} (hn : s.length + 13 < n) : lexer_next n s = some ((next s).1, ((next s).2.1 : Int), (next s).2.2) := by
  have hi := spanN_le isInner s
  have hd := spanN_le isDigit s
  simp only [lexer_next, headD_idx h0, Option.bind_some, letter_eq, digit_eq, next]
  cases hl : isLetter (s.headD 0)
  · cases hdd : isDigit (s.headD 0)
    · simp only [cond_false, Bool.false_eq_true, if_false]
      by_cases hq : (s.headD 0).toNat = 34
      · rw [hq, if_pos rfl]
        simp only [quoted_eq h0 hs (n := n) (by omega), Option.bind_some]
        by_cases hz : (quoted s).2 = 0
        · rw [hz, if_pos rfl]; rfl
        · have e : ((((quoted s).2 : Nat) : Int) == 0) = false := by rw [beq_eq_false_iff_ne]; omega
          rw [e, if_neg hz]; rfl
      · have e : (((s.headD 0).toNat : Int) == 34) = false := by rw [beq_eq_false_iff_ne]; omega
        rw [e, if_neg hq, cond_false]
        have := next_loop h0 (n := n) (kont := some (⟨0, [], 0, 0⟩, 0, 10)) (r := signs) (i := 0) (m := n) rfl (by omega) (by simp [signs]; omega)
        refine this.trans ?_
        have e : isSign (s.headD 0) = signs.contains (s.headD 0) := rfl
        rw [e]
        split <;> rfl
    · simp only [cond_false, cond_true, Bool.false_eq_true, if_false, if_true]
      rw [span_eq (digit_eq n) (by omega) (by omega), Option.bind_some, ssl_to _ hd, Option.bind_some, number_eq (by simp; omega) (by simp; omega), Option.bind_some]
      cases h : (number (s.take (spanN isDigit s))).2
      · rfl
      · simp [Nat.min_eq_left hd]
  · simp only [cond_true, if_true]
    rw [span_eq (inner_eq n) (by omega) (by omega), Option.bind_some, ssl_to _ hi, Option.bind_some, name_eq (by simp; omega) (by simp; omega), Option.bind_some]
    cases h : name (s.take (spanN isInner s))
    · rfl
    · simp [Nat.min_eq_left hi]
theorem span_pos {p : UInt8 → Bool} {l : Rt.Bs} (h0 : l ≠ []) (h : p (l.headD 0) = true) : 1 ≤ spanN p l := by
  cases l with
  | nil => exact absurd rfl h0
  | cons c r => simp only [List.headD_cons] at h; simp only [spanN, h, cond_true]; omega
theorem letter_inner {c : UInt8} (h : isLetter c = true) : isInner c = true := by
  simp only [isLetter, isInner, decide_eq_true_eq] at *; omega
theorem quoted_len {l : Rt.Bs} (h0 : l ≠ []) : (quoted l).2 ≤ l.length := by
  have h1 : 1 ≤ l.length := by cases l; exact absurd rfl h0; simp
  simp only [quoted]
  cases hq : qloop (l.drop 1) [] 1 with
  | none => simp
  | some x =>
    obtain ⟨v, k⟩ := x
    have := qloop_lt hq
    simp only [List.length_drop] at this
    simp only
    split
    · simp
    · simp only; omega
theorem next_len {l : Rt.Bs} (h0 : l ≠ []) (h : (next l).2.2 = 0) : 1 ≤ (next l).2.1 ∧ (next l).2.1 ≤ l.length := by
  have h1 : 1 ≤ l.length := by cases l; exact absurd rfl h0; simp
  have hi := spanN_le isInner l
  have hd := spanN_le isDigit l
  have hq := quoted_len h0
  simp only [next] at *
  split at h
  · rename_i hl
    have := span_pos h0 (letter_inner hl)
    split at h
    · rename_i hn; simp only [hl, hn, if_true]; omega
    · cases h
  rename_i hl
  split at h
  · rename_i hd'
    have := span_pos h0 hd'
    split at h
    · rename_i hn; simp only [hl, hd', hn, if_true]; simp only [Bool.false_eq_true, if_false]; omega
    · cases h
  rename_i hd'
  split at h
  · rename_i h34
    split at h
    · cases h
    · rename_i hn; simp only [hl, hd', h34, hn, if_true, if_false]; simp only [Bool.false_eq_true, if_false]; omega
  rename_i h34
  split at h
  · rename_i hn; simp only [hl, hd', h34, hn, if_true, if_false]; simp only [Bool.false_eq_true, if_false]; omega
  · cases h
theorem scanF_end {f a : Nat} {r : Rt.Bs} (h : gapN false r = r.length) : scanF (f + 1) r a = ([], 0, 0) := by rw [scanF, if_pos h]
theorem scanF_bad {f a : Nat} {r : Rt.Bs} (h : gapN false r ≠ r.length) (hx : (next (r.drop (gapN false r))).2.2 ≠ 0) : scanF (f + 1) r a = ([], a + gapN false r, (next (r.drop (gapN false r))).2.2) := by
  rw [scanF, if_neg h, if_pos hx]
theorem scanF_more {f a : Nat} {r : Rt.Bs} (h : gapN false r ≠ r.length) (hx : (next (r.drop (gapN false r))).2.2 = 0) : scanF (f + 1) r a =
    if (scanF f (r.drop (gapN false r + (next (r.drop (gapN false r))).2.1)) (a + gapN false r + (next (r.drop (gapN false r))).2.1)).2.2 ≠ 0 then
      scanF f (r.drop (gapN false r + (next (r.drop (gapN false r))).2.1)) (a + gapN false r + (next (r.drop (gapN false r))).2.1)
    else ({ (next (r.drop (gapN false r))).1 with Pos := ((a + gapN false r : Nat) : Int) } :: (scanF f (r.drop (gapN false r + (next (r.drop (gapN false r))).2.1)) (a + gapN false r + (next (r.drop (gapN false r))).2.1)).1, 0, 0) := by
  rw [scanF, if_neg h, if_neg (Decidable.not_not.mpr hx)]
theorem scan_loop {s : Rt.Bs} (hs : s.length ≤ 1000000) {n : Nat} (hn : s.length + 13 < n) :
    ∀ {m f at_ : Nat} {r : Rt.Bs} {acc : List Token}, s.drop at_ = r → at_ ≤ s.length → acc.length ≤ at_ → r.length < m → r.length < f →
      lexer_Scan_L1 n s m (at_ : Int) acc = some (if (scanF f r at_).2.2 = 0 then (acc ++ (scanF f r at_).1, 0, 0) else ([], ((scanF f r at_).2.1 : Int), (scanF f r at_).2.2))
  | m + 1, f + 1, at_, r, acc, h, hi, ha, hm, hf => by
    have h1 : at_ + r.length = s.length := by
      have := congrArg List.length h
      simp only [List.length_drop] at this; omega
    have hg := gapN_le false r
    rw [lexer_Scan_L1_s, ssl_from _ hi, Option.bind_some, h, gap_eq (by omega) (by omega), Option.bind_some, iadd_nat _ _ (by omega)]
    by_cases hend : gapN false r = r.length
    · have e : (((at_ + gapN false r : Nat) : Int) == (s.length : Int)) = true := by rw [beq_iff_eq]; omega
      rw [e, scanF_end hend]; simp
    have e : (((at_ + gapN false r : Nat) : Int) == (s.length : Int)) = false := by rw [beq_eq_false_iff_ne]; omega
    have h2 : r.drop (gapN false r) ≠ [] := by
      intro e; have := congrArg List.length e; simp only [List.length_drop, List.length_nil] at this; omega
    have h3 : s.drop (at_ + gapN false r) = r.drop (gapN false r) := by rw [← List.drop_drop, h]
    rw [e, cond_false, ssl_from _ (by omega), Option.bind_some, h3, next_eq h2 (by simp; omega) (by simp; omega), Option.bind_some]
    by_cases hx : (next (r.drop (gapN false r))).2.2 = 0
    · have h4 := next_len h2 hx
      have h5 : ((acc.length + [(⟨(next (r.drop (gapN false r))).1.Kind, (next (r.drop (gapN false r))).1.Text, (next (r.drop (gapN false r))).1.N, ((at_ + gapN false r : Nat) : Int)⟩ : Token)].length) * 40) ≤ 140737488355328 := by
        simp only [List.length_cons, List.length_nil]; omega
      have e2 : ((next (r.drop (gapN false r))).2.2 != 0) = false := by rw [hx]; rfl
      simp only [List.length_drop] at h4
      simp only [e2, cond_false]
      rw [scanF_more hend hx, app, if_pos h5, Option.bind_some, iadd_nat _ _ (by omega), scan_loop hs hn (f := f) (r := r.drop (gapN false r + (next (r.drop (gapN false r))).2.1))
        (by rw [Nat.add_assoc, ← List.drop_drop, h]) (by omega) (by simp only [List.length_append, List.length_cons, List.length_nil]; omega) (by simp only [List.length_drop]; omega) (by simp only [List.length_drop]; omega)]
      by_cases hy : (scanF f (r.drop (gapN false r + (next (r.drop (gapN false r))).2.1)) (at_ + gapN false r + (next (r.drop (gapN false r))).2.1)).2.2 = 0
      · simp [hy]
      · simp [hy]
    · have e2 : ((next (r.drop (gapN false r))).2.2 != 0) = true := bne_iff_ne.mpr hx
      rw [scanF_bad hend hx, if_neg hx]
      simp only [e2, cond_true]
theorem scan_eq {s : Rt.Bs} (hs : s.length ≤ 1000000) {n : Nat} (hn : s.length + 13 < n) : lexer_Scan n s = some ((scan s).1, ((scan s).2.1 : Int), (scan s).2.2) := by
  simp only [lexer_Scan, scan]
  by_cases h : s.length > 4000
  · rw [decide_eq_true (by omega), if_pos h]; rfl
  · rw [decide_eq_false (by omega), if_neg h, cond_false]
    have h1 := scan_loop hs hn (m := n) (f := s.length + 1) (at_ := 0) (r := s) (acc := []) rfl (by omega) (by simp) (by omega) (by omega)
    refine h1.trans ?_
    by_cases h2 : (scanF (s.length + 1) s 0).2.2 = 0
    · have : (scanF (s.length + 1) s 0).2.1 = 0 := by
        have h3 : ∀ (f : Nat) (r : Rt.Bs) (a : Nat), (scanF f r a).2.2 = 0 → (scanF f r a).2.1 = 0 := by
          intro f
          induction f with
          | zero => intro r a _; rfl
          | succ f ih =>
            intro r a h
            by_cases h1 : gapN false r = r.length
            · rw [scanF_end h1]
            by_cases h2 : (next (r.drop (gapN false r))).2.2 = 0
            · rw [scanF_more h1 h2] at h ⊢
              split at h
              · rename_i h3; exact absurd h h3
              · rename_i h3; rw [if_neg h3]
            · rw [scanF_bad h1 h2] at h; exact absurd h h2
        exact h3 _ _ _ h2
      simp [h2, this]
    · have : (scanF (s.length + 1) s 0).1 = [] := by
        have h3 : ∀ (f : Nat) (r : Rt.Bs) (a : Nat), (scanF f r a).2.2 ≠ 0 → (scanF f r a).1 = [] := by
          intro f
          induction f with
          | zero => intro r a _; rfl
          | succ f ih =>
            intro r a h
            by_cases h1 : gapN false r = r.length
            · rw [scanF_end h1]
            by_cases h2 : (next (r.drop (gapN false r))).2.2 = 0
            · rw [scanF_more h1 h2] at h ⊢
              split at h
              · rename_i h3; rw [if_pos h3]; exact ih _ _ h3
              · exact absurd rfl h
            · rw [scanF_bad h1 h2]
        exact h3 _ _ _ h2
      simp [h2, this]
end Go.Proofs.YtpihabofmnnbbaaGreatDoor.Lx

namespace Go.Proofs.YtpihabofmnnbbaaGreatDoor.Ta
open Go Rt M
inductive Fit : M.Expr → Prop
  | mk {o n : Int} {s : Rt.Bs} {l : List M.Expr} : l.length ≤ 1000000 → (∀ y, y ∈ l → Fit y) → Fit ⟨o, n, s, l⟩
theorem Fit.leaf (o n : Int) (s : Rt.Bs) : Fit ⟨o, n, s, []⟩ := Fit.mk (by simp) (by simp)
theorem Fit.one {x : M.Expr} (o n : Int) (s : Rt.Bs) (h : Fit x) : Fit ⟨o, n, s, [x]⟩ := Fit.mk (by simp) (by simpa using h)
theorem Fit.two {x y : M.Expr} (o n : Int) (s : Rt.Bs) (h : Fit x) (h2 : Fit y) : Fit ⟨o, n, s, [x, y]⟩ := Fit.mk (by simp) (by simp [h, h2])
theorem Fit.three {x y z : M.Expr} (o n : Int) (s : Rt.Bs) (h : Fit x) (h2 : Fit y) (h3 : Fit z) : Fit ⟨o, n, s, [x, y, z]⟩ := Fit.mk (by simp) (by simp [h, h2, h3])
abbrev Rd (l : List Token) (a : Nat) (e : Int) : reader := ⟨l, (a : Int), e⟩
def endT : Token := ⟨4, [], 0, 0⟩
def nextT (l : List Token) (a : Nat) (e : Int) : Token := if e = 0 then (l[a]?).getD endT else endT
theorem next_n (n : Nat) {l : List Token} {a : Nat} {e : Int} (ha : a ≤ l.length) : tariff_reader_next n (Rd l a e) = some (Rd l a e, nextT l a e) := by
  unfold tariff_reader_next nextT
  by_cases he : e = 0
  · subst he
    rw [if_pos rfl]
    by_cases h : a = l.length
    · have e1 : (((a : Int)) == (l.length : Int)) = true := by simp [h]
      have e2 : l[a]? = none := by simp [h]
      show (Option.bind (some ((a : Int) == (l.length : Int))) _) = _
      rw [e1, e2]; rfl
    · have e1 : (((a : Int)) == (l.length : Int)) = false := by simp; omega
      have e2 : l[a]? = some l[a] := List.getElem?_eq_getElem (by omega)
      show (Option.bind (some ((a : Int) == (l.length : Int))) _) = _
      rw [e1, Option.bind_some, cond_false]
      show (ix l (a : Int)).bind _ = _
      rw [ix_nat, e2]; rfl
  · have e1 : (e != 0) = true := by simpa using he
    rw [if_neg he]
    show Option.bind (bif e != 0 then some true else _) _ = _
    rw [e1]; rfl
def isT (l : List Token) (a : Nat) (e : Int) (s : Rt.Bs) : Bool := (nextT l a e).Text == s && ((nextT l a e).Kind == 0 || (nextT l a e).Kind == 3)
theorem is_n (n : Nat) {l : List Token} {a : Nat} {e : Int} (s : Rt.Bs) (ha : a ≤ l.length) : tariff_reader_is n (Rd l a e) s = some (Rd l a e, isT l a e s) := by
  unfold tariff_reader_is isT
  rw [next_n n ha, Option.bind_some]
  dsimp only
  cases (nextT l a e).Text == s <;> cases (nextT l a e).Kind == 0 <;> rfl
theorem next_lt {l : List Token} {a : Nat} {e : Int} (h : (nextT l a e).Kind ≠ 4) : a < l.length ∧ e = 0 := by
  unfold nextT at h
  split at h
  · rename_i he
    refine ⟨?_, he⟩
    rcases Nat.lt_or_ge a l.length with h1 | h1
    · exact h1
    · rw [List.getElem?_eq_none h1] at h; exact absurd rfl h
  · exact absurd rfl h
theorem isT_lt {l : List Token} {a : Nat} {e : Int} {s : Rt.Bs} (h : isT l a e s = true) : a < l.length ∧ e = 0 := by
  refine next_lt fun h2 => ?_
  unfold isT at h
  rw [h2] at h
  simp at h
theorem take_n (n : Nat) {l : List Token} {a : Nat} {e : Int} (s : Rt.Bs) (hl : l.length ≤ 1000000) (ha : a ≤ l.length) : tariff_reader_take n (Rd l a e) s = some (Rd l (bif isT l a e s then a + 1 else a) e, isT l a e s) := by
  unfold tariff_reader_take
  rw [is_n n s ha, Option.bind_some]
  dsimp only
  cases h : isT l a e s with
  | false => rfl
  | true => rw [cond_true, Option.bind_some, inc64 (by omega)]; rfl
def failE (e x : Int) : Int := if e = 0 then x else e
theorem fail_n (n : Nat) (l : List Token) (a : Nat) (e x : Int) : tariff_reader_fail n (Rd l a e) x = some (Rd l a (failE e x)) := by
  unfold tariff_reader_fail failE
  by_cases he : e = 0
  · subst he; rfl
  · have e1 : (e == 0) = false := by simpa using he
    rw [if_neg he]
    show (bif e == 0 then _ else _) = _
    rw [e1]; rfl
def InR (l : List Token) (a : Nat) (r : reader) : Prop := ∃ (b : Nat) (e : Int), r = Rd l b e ∧ a ≤ b ∧ b ≤ l.length
theorem InR.here {l : List Token} {a : Nat} {e : Int} (h : a ≤ l.length) : InR l a (Rd l a e) := ⟨a, e, rfl, Nat.le_refl _, h⟩
theorem InR.from {l : List Token} {a b : Nat} {r : reader} (h : InR l b r) (hab : a ≤ b) : InR l a r := by
  obtain ⟨c, e, h1, h2, h3⟩ := h
  exact ⟨c, e, h1, by omega, h3⟩
end Go.Proofs.YtpihabofmnnbbaaGreatDoor.Ta

namespace Go.Proofs.YtpihabofmnnbbaaGreatDoor.Ta
open Go Rt M
theorem left {k m : Nat} (h : k < m) : ∃ j, m = j + 1 := ⟨m - 1, by omega⟩
theorem pred {k m : Nat} (h : k + 1 < m) : ∃ j, m = j + 1 ∧ k < j := ⟨m - 1, by omega, by omega⟩
theorem name_ev (s : Rt.Bs) : Ev (fun n => lexer_Name n s) (Lx.name s) := by
  refine ⟨21, fun n hn => ?_⟩
  by_cases h : s.length ≤ 20
  · exact Lx.name_eq (by omega) (by omega)
  · have h0 : s ≠ [] := by intro e; rw [e] at h; simp at h
    have h1 : (s == []) = false := by simpa using h0
    have h2 : Lx.name s = false := by unfold Lx.name; rw [decide_eq_false h]; simp
    rw [h2]
    unfold lexer_Name
    dsimp only
    rw [h1, Bool.not_false, cond_true, Lx.headD_idx h0, Option.bind_some, Lx.letter_eq, Option.bind_some, Option.bind_some]
    cases Lx.isLetter (s.headD 0)
    · rfl
    · rw [cond_true, decide_eq_false (show ¬ (s.length : Int) ≤ 20 by omega)]; rfl
theorem Index_L (n : Nat) (l : List Rt.Bs) (s : Rt.Bs) (hl : l.length < 4611686018427387904) : ∀ (us : List Rt.Bs) (i m : Nat), l.drop i = us → us.length < m →
    slices_Index_string_string_L1 n l s (some (-1)) m (i : Int) = some (if s ∈ us then ((i + us.idxOf s : Nat) : Int) else -1)
  | [], i, m + 1, hd, _ => by rw [slices_Index_string_string_L1_s, more_no hd]; rfl
  | x :: us, i, m + 1, hd, hm => by
    obtain ⟨h1, h2, h3⟩ := drop_cons hd
    have ih := Index_L n l s hl us (i + 1) m h2 (by simp only [List.length_cons] at hm; omega)
    rw [slices_Index_string_string_L1_s, more_yes hd, cond_true, h1, Option.bind_some]
    by_cases h : s = x
    · subst h
      rw [beq_self_eq_true, cond_true, if_pos (by simp)]; simp
    · have e : (s == x) = false := by simpa using h
      rw [e, cond_false, inc64 (by omega), ih]
      by_cases h5 : s ∈ us
      · rw [if_pos h5, if_pos (List.mem_cons_of_mem _ h5), List.idxOf_cons, show (x == s) = false by simpa using fun h6 => h h6.symm]
        simp only [cond_false]; congr 1; omega
      · rw [if_neg h5, if_neg (by simp [h, h5])]
theorem Contains_ev {l : List Rt.Bs} (s : Rt.Bs) (hl : l.length < 4611686018427387904) : Ev (fun n => slices_Contains_string_string n l s) (decide (s ∈ l)) := by
  refine ⟨l.length + 1, fun n hn => ?_⟩
  unfold slices_Contains_string_string slices_Index_string_string
  dsimp only
  have h : slices_Index_string_string_L1 n l s (some (-1)) n 0 = _ := Index_L n l s hl l 0 n rfl (by omega)
  rw [h, Option.bind_some]
  by_cases h5 : s ∈ l
  · rw [if_pos h5, decide_eq_true h5, decide_eq_true (by omega)]
  · rw [if_neg h5, decide_eq_false h5]; rfl
def named1 (l : List Rt.Bs) : Nat → List Rt.Bs → Bool
  | _, [] => decide ((l.length : Int) ≤ 6)
  | i, s :: us => Lx.name s && (!decide (s ∈ l.take i) && named1 l (i + 1) us)
def named (l : List Rt.Bs) : Bool := named1 l 0 l
theorem named_L (l : List Rt.Bs) (hl : l.length < 4611686018427387904) : ∀ (us : List Rt.Bs) (i : Nat), l.drop i = us → ∃ N, ∀ n m, N ≤ n → us.length < m →
    tariff_named_L1 n l (some (decide ((l.length : Int) ≤ 6))) m (i : Int) = some (named1 l i us)
  | [], i, hd => by
    refine ⟨0, fun n m _ hm => ?_⟩
    obtain ⟨m, rfl⟩ := left hm
    rw [tariff_named_L1_s, more_no hd]; rfl
  | s :: us, i, hd => by
    obtain ⟨h1, h2, h3⟩ := drop_cons hd
    obtain ⟨N, ih⟩ := named_L l hl us (i + 1) h2
    obtain ⟨N1, e1⟩ := name_ev s
    obtain ⟨N2, e2⟩ := Contains_ev (l := l.take i) s (by simp; omega)
    refine ⟨max N (max N1 N2), fun n m hn hm => ?_⟩
    obtain ⟨m, rfl, hm2⟩ := pred (by simpa using hm)
    have e1 : lexer_Name n s = some (Lx.name s) := e1 n (by omega)
    have e2 : slices_Contains_string_string n (l.take i) s = some (decide (s ∈ l.take i)) := e2 n (by omega)
    rw [tariff_named_L1_s, more_yes hd, cond_true, h1, Option.bind_some, e1, Option.bind_some]
    unfold named1
    cases Lx.name s with
    | false => rfl
    | true =>
      have e3 : lsl l 0 (i : Int) = some (l.take i) := by
        have := lsl_eq (l := l) (p := 0) (q := i) (by omega) (by omega)
        simpa using this
      rw [Bool.not_true, cond_false, e3, Option.bind_some, e2, Option.bind_some, Option.bind_some, Bool.true_and]
      cases decide (s ∈ l.take i) with
      | true => rfl
      | false => rw [cond_false, inc64 (by omega), ih n m (by omega) hm2]; rfl
theorem named_ev {l : List Rt.Bs} (hl : l.length < 4611686018427387904) : Ev (fun n => tariff_named n l) (named l) := by
  obtain ⟨N, h⟩ := named_L l hl l 0 rfl
  exact ⟨N + l.length + 1, fun n hn => h n n (by omega) (by omega)⟩
theorem sized_L (x : M.Expr) (lv : Int) (hx : x.Args.length ≤ 1000000) : ∀ (us : List M.Expr) (i : Nat) (lf : Int), x.Args.drop i = us → (∀ y, y ∈ us → ∀ lv lf : Int, Tt (fun _ => True) (fun n => tariff_sized n y lv lf)) →
    ∃ N r, ∀ n m, N ≤ n → us.length < m → tariff_sized_L1 n (tariff_sized n) x lv (fun f2 => some (f2, true)) m (i : Int) lf = some r
  | [], i, lf, hd, _ => by
    refine ⟨0, (lf, true), fun n m _ hm => ?_⟩
    obtain ⟨m, rfl⟩ := left hm
    rw [tariff_sized_L1_s, more_no hd]; rfl
  | y :: us, i, lf, hd, H => by
    obtain ⟨h1, h2, h3⟩ := drop_cons hd
    obtain ⟨⟨l2, b⟩, ⟨N1, e1⟩, _⟩ := H y (by simp) (isub .i64 lv 1) lf
    obtain ⟨N, r, ih⟩ := sized_L x lv hx us (i + 1) l2 h2 (fun z hz => H z (by simp [hz]))
    refine ⟨max N N1, bif b then r else (l2, false), fun n m hn hm => ?_⟩
    obtain ⟨m, rfl, hm2⟩ := pred (by simpa using hm)
    have e1 : tariff_sized n y (isub .i64 lv 1) lf = some (l2, b) := e1 n (by omega)
    rw [tariff_sized_L1_s, more_yes hd, cond_true, h1, Option.bind_some, e1, Option.bind_some]
    dsimp only
    cases b with
    | false => rfl
    | true => rw [Bool.not_true, cond_false, inc64 (by omega), ih n m (by omega) hm2]; rfl
theorem sized_t {x : M.Expr} (hx : Fit x) : ∀ lv lf : Int, Tt (fun _ => True) (fun n => tariff_sized n x lv lf) := by
  induction hx with
  | @mk o k s l hl _ ih =>
    intro lv lf
    refine Tt.suc (g := fun n => _) (fun n => tariff_sized_s n _ _ _) ?_
    refine Tt.cond (fun b => ?_) true
    refine Tt.bif (fun _ => Tt.pure trivial) (fun _ => ?_)
    obtain ⟨N, r, h⟩ := sized_L ⟨o, k, s, l⟩ lv hl l 0 (isub .i64 lf 1) rfl ih
    exact ⟨r, ⟨N + l.length + 1, fun n hn => h n n (by omega) (by omega)⟩, trivial⟩
def argsN (o : Int) : Int := if o ≤ 4 then 0 else if o = 14 then 1 else if o = 11 then 3 else 2
theorem args_n (n : Nat) (o : Int) : tariff_args n o = some (argsN o) := by
  unfold tariff_args argsN
  by_cases h1 : o ≤ 4
  · rw [decide_eq_true h1, if_pos h1]; rfl
  · rw [decide_eq_false h1, if_neg h1, cond_false]
    by_cases h2 : o = 14
    · subst h2; rfl
    · rw [show (o == 14) = false by simpa using h2, if_neg h2, cond_false]
      by_cases h3 : o = 11
      · subst h3; rfl
      · rw [show (o == 11) = false by simpa using h3, if_neg h3]; rfl
inductive Shp : M.Expr → Prop
  | mk {o n : Int} {s : Rt.Bs} {l : List M.Expr} : 0 ≤ o → o ≤ 16 → (l.length : Int) = argsN o → (∀ y, y ∈ l → Shp y) → Shp ⟨o, n, s, l⟩
theorem IndexFunc_X (l : List M.Expr) (hl : l.length ≤ 1000000) (f : Nat → M.Expr → Option Bool) (Q : M.Expr → Prop) : ∀ (us : List M.Expr) (i : Nat), l.drop i = us → (∀ y, y ∈ us → Tt (fun b => b = false → Q y) (fun n => f n y)) →
    ∃ N r, (r = -1 ∧ (∀ y, y ∈ us → Q y) ∨ 0 ≤ r) ∧ ∀ n m, N ≤ n → us.length < m → slices_IndexFunc_api_Expr_api_Expr_L1 n l (f n) (some (-1)) m (i : Int) = some r
  | [], i, hd, _ => by
    refine ⟨0, -1, .inl ⟨rfl, by simp⟩, fun n m _ hm => ?_⟩
    obtain ⟨m, rfl⟩ := left hm
    rw [slices_IndexFunc_api_Expr_api_Expr_L1_s, more_no hd]; rfl
  | y :: us, i, hd, H => by
    obtain ⟨h1, h2, h3⟩ := drop_cons hd
    obtain ⟨b, ⟨N1, e1⟩, hb⟩ := H y (by simp)
    obtain ⟨N, r, hr, ih⟩ := IndexFunc_X l hl f Q us (i + 1) h2 (fun z hz => H z (by simp [hz]))
    cases b with
    | true =>
      refine ⟨N1, (i : Int), .inr (by omega), fun n m hn hm => ?_⟩
      obtain ⟨m, rfl⟩ := left hm
      have e1 : f n y = some true := e1 n (by omega)
      rw [slices_IndexFunc_api_Expr_api_Expr_L1_s, more_yes hd, cond_true, h1, Option.bind_some, e1]; rfl
    | false =>
      refine ⟨max N N1, r, hr.imp (fun h => ⟨h.1, by simpa using ⟨hb rfl, h.2⟩⟩) id, fun n m hn hm => ?_⟩
      obtain ⟨m, rfl, hm2⟩ := pred (by simpa using hm)
      have e1 : f n y = some false := e1 n (by omega)
      rw [slices_IndexFunc_api_Expr_api_Expr_L1_s, more_yes hd, cond_true, h1, Option.bind_some, e1, Option.bind_some, cond_false, inc64 (by omega)]
      exact ih n m (by omega) hm2
theorem ContainsFunc_X (l : List M.Expr) (hl : l.length ≤ 1000000) (f : Nat → M.Expr → Option Bool) (Q : M.Expr → Prop) (H : ∀ y, y ∈ l → Tt (fun b => b = false → Q y) (fun n => f n y)) :
    Tt (fun b => b = false → ∀ y, y ∈ l → Q y) (fun n => slices_ContainsFunc_api_Expr_api_Expr n l (f n)) := by
  obtain ⟨N, r, hr, ih⟩ := IndexFunc_X l hl f Q l 0 rfl H
  refine ⟨decide (0 ≤ r), ⟨N + l.length + 1, fun n hn => ?_⟩, fun hb => ?_⟩
  · unfold slices_ContainsFunc_api_Expr_api_Expr slices_IndexFunc_api_Expr_api_Expr
    dsimp only
    have e : slices_IndexFunc_api_Expr_api_Expr_L1 n l (f n) (some (-1)) n 0 = some r := ih n n (by omega) (by omega)
    rw [e]; rfl
  · have := of_decide_eq_false hb
    rcases hr with h | h
    · exact h.2
    · omega
theorem shaped_t {x : M.Expr} (hx : Fit x) : Tt (fun b => b = true → Shp x) (fun n => tariff_shaped n x) := by
  induction hx with
  | @mk o k s l hl _ ih =>
    refine Tt.suc (fun n => tariff_shaped_s n _) ?_
    refine Tt.bind (P := fun b => b = false → 0 ≤ o ∧ o ≤ 16) (Tt.bif (fun h => Tt.pure fun h => by cases h) (fun h => Tt.pure fun h2 => ?_)) ?_
    · have h1 := of_decide_eq_false h
      have h3 := of_decide_eq_false h2
      dsimp only at h1 h3
      omega
    intro b hb
    refine Tt.bind (P := fun c => c = false → (0 ≤ o ∧ o ≤ 16) ∧ (l.length : Int) = argsN o) (Tt.bif (fun h => Tt.pure fun h => by cases h) (fun h => ?_)) ?_
    · refine Tt.evb (Ev.all fun n => args_n n _) (Tt.pure fun h2 => ⟨hb h, by simpa using h2⟩)
    intro c hc
    refine Tt.bif (fun _ => Tt.pure fun h => by cases h) (fun h => ?_)
    obtain ⟨⟨h1, h2⟩, h3⟩ := hc h
    refine Tt.bif (fun h0 => ?_) (fun h0 => ?_)
    · have h0' : o = 0 := by simpa using h0
      subst h0'
      have hz : l = [] := by
        have : (l.length : Int) = 0 := h3
        exact List.length_eq_zero_iff.1 (by omega)
      subst hz
      refine Tt.bind (P := fun _ => True) (Tt.bif (fun _ => Tt.pure trivial) (fun _ => Tt.pure trivial)) fun _ _ => ?_
      refine Tt.bind (P := fun _ => True) (Tt.bif (fun _ => Tt.pure trivial) (fun _ => Tt.pure trivial)) fun _ _ => ?_
      exact Tt.pure fun _ => Shp.mk h1 h2 h3 (by simp)
    refine Tt.bind (P := fun b => b = true → o = 1 ∨ o = 4) (Tt.bif (fun h => Tt.pure fun _ => .inl (by simpa using h)) (fun _ => Tt.pure fun h => .inr (by simpa using h))) ?_
    intro b1 hb1
    refine Tt.bif (fun h4 => ?_) (fun h4 => ?_)
    · have hz : l = [] := by
        have : (l.length : Int) = 0 := by rw [h3]; rcases hb1 h4 with rfl | rfl <;> rfl
        exact List.length_eq_zero_iff.1 (by omega)
      subst hz
      refine Tt.bind (P := fun _ => True) (Tt.bif (fun _ => ?_) (fun _ => Tt.pure trivial)) fun _ _ => ?_
      · exact Tt.evb (name_ev _) (Tt.pure trivial)
      · exact Tt.pure fun _ => Shp.mk h1 h2 h3 (by simp)
    refine Tt.bind (P := fun _ => True) (Tt.bif (fun _ => Tt.pure trivial) (fun _ => Tt.pure trivial)) fun _ _ => ?_
    refine Tt.bind (P := fun b => b = true → ∀ y, y ∈ l → Shp y) (Tt.bif (fun _ => ?_) (fun _ => Tt.pure fun h => by cases h)) ?_
    · refine Tt.bind (ContainsFunc_X l hl tariff_shaped_1 Shp (fun y hy => ?_)) ?_
      · refine Tt.suc (fun n => tariff_shaped_1_s n _) ?_
        refine Tt.bind (ih y hy) ?_
        intro b hb
        exact Tt.pure fun h => hb (by simpa using h)
      · intro b hb
        exact Tt.pure fun h => hb (by simpa using h)
    · intro b hb
      exact Tt.pure fun h => Shp.mk h1 h2 h3 (hb h)
theorem ix_some {α : Type} {l : List α} {i : Nat} (h : i < l.length) : ix l (i : Int) = some l[i] := by rw [ix_nat, List.getElem?_eq_getElem h]
theorem scanF_len : ∀ (f : Nat) (r : Rt.Bs) (a : Nat), (Lx.scanF f r a).1.length ≤ r.length
  | 0, r, a => by simp [Lx.scanF]
  | f + 1, r, a => by
    by_cases hend : Lx.gapN false r = r.length
    · rw [Lx.scanF_end hend]; simp
    have hg := Lx.gapN_le false r
    by_cases hx : (Lx.next (r.drop (Lx.gapN false r))).2.2 = 0
    · have h2 : r.drop (Lx.gapN false r) ≠ [] := by
        intro e; have := congrArg List.length e; simp only [List.length_drop, List.length_nil] at this; omega
      have h4 := Lx.next_len h2 hx
      have ih := scanF_len f (r.drop (Lx.gapN false r + (Lx.next (r.drop (Lx.gapN false r))).2.1)) (a + Lx.gapN false r + (Lx.next (r.drop (Lx.gapN false r))).2.1)
      simp only [List.length_drop] at h4 ih
      rw [Lx.scanF_more hend hx]
      split
      · omega
      · simp only [List.length_cons]; omega
    · rw [Lx.scanF_bad hend hx]; simp
theorem scan_len (s : Rt.Bs) : (Lx.scan s).1.length ≤ s.length := by
  unfold Lx.scan
  split
  · simp
  · exact scanF_len _ _ _
theorem Scan_ev {s : Rt.Bs} (hs : s.length ≤ 1000000) : Ev (fun n => lexer_Scan n s) ((Lx.scan s).1, ((Lx.scan s).2.1 : Int), (Lx.scan s).2.2) := ⟨s.length + 14, fun n hn => Lx.scan_eq hs (by omega)⟩
end Go.Proofs.YtpihabofmnnbbaaGreatDoor.Ta

namespace Go.Proofs.YtpihabofmnnbbaaGreatDoor.Tp
open Go Rt M Ta
mutual
def cnt : M.Expr → Nat
  | ⟨_, _, _, l⟩ => cnts l + 1
def cnts : List M.Expr → Nat
  | [] => 0
  | x :: l => cnt x + cnts l
 end
mutual
def dep : M.Expr → Nat
  | ⟨_, _, _, l⟩ => deps l + 1
def deps : List M.Expr → Nat
  | [] => 0
  | x :: l => max (dep x) (deps l)
 end
theorem nat_i64 {a : Nat} (h : 1 ≤ a) (h2 : a ≤ 1000000) : isub .i64 (a : Int) 1 = ((a - 1 : Nat) : Int) := by rw [isub_i64 (by omega) (by omega)]; omega
def Siz (d c lv lf : Nat) (r : Int × Bool) : Prop := (r.2 = true → d ≤ lv ∧ c ≤ lf ∧ r.1 = ((lf - c : Nat) : Int)) ∧ (d ≤ lv → c ≤ lf → r.2 = true)
theorem sized_LX (x : M.Expr) (lv : Nat) (hv1 : 1 ≤ lv) (hv : lv ≤ 1000000) (hx : x.Args.length ≤ 1000000) : ∀ (us : List M.Expr) (i lf : Nat), lf ≤ 1000000 → x.Args.drop i = us → (∀ y, y ∈ us → ∀ lv lf : Nat, lv ≤ 1000000 → lf ≤ 1000000 → Tt (Siz (dep y) (cnt y) lv lf) (fun n => tariff_sized n y lv lf)) →
    ∃ N r, Siz (deps us) (cnts us) (lv - 1) lf r ∧ ∀ n m, N ≤ n → us.length < m → tariff_sized_L1 n (tariff_sized n) x (lv : Int) (fun f2 => some (f2, true)) m (i : Int) (lf : Int) = some r
  | [], i, lf, hlf, hd, _ => by
    refine ⟨0, (lf, true), ⟨fun _ => ⟨Nat.zero_le _, Nat.zero_le _, rfl⟩, fun _ _ => rfl⟩, fun n m _ hm => ?_⟩
    obtain ⟨m, rfl⟩ := left hm
    rw [tariff_sized_L1_s, more_no hd]; rfl
  | y :: us, i, lf, hlf, hd, H => by
    obtain ⟨h1, h2, h3⟩ := drop_cons hd
    obtain ⟨⟨l2, b⟩, ⟨N1, e1⟩, q1, q2⟩ := H y (by simp) (lv - 1) lf (by omega) hlf
    rw [← nat_i64 hv1 hv] at e1
    have hcs : cnts (y :: us) = cnt y + cnts us := rfl
    have hds : deps (y :: us) = max (dep y) (deps us) := rfl
    cases b with
    | false =>
      have h5 : ¬(dep y ≤ lv - 1 ∧ cnt y ≤ lf) := fun h => by have := q2 h.1 h.2; cases this
      refine ⟨N1, (l2, false), ⟨fun h => (by cases h), fun h6 h7 => absurd ⟨by omega, by omega⟩ h5⟩, fun n m hn hm => ?_⟩
      obtain ⟨m, rfl⟩ := left hm
      have e1 : tariff_sized n y (isub .i64 lv 1) lf = some (l2, false) := e1 n (by omega)
      rw [tariff_sized_L1_s, more_yes hd, cond_true, h1, Option.bind_some, e1, Option.bind_some]; rfl
    | true =>
      obtain ⟨h5, h6, h7⟩ := q1 rfl
      dsimp only at h7
      subst h7
      obtain ⟨N, r, ⟨hr1, hr2⟩, ih⟩ := sized_LX x lv hv1 hv hx us (i + 1) (lf - cnt y) (by omega) h2 (fun z hz => H z (by simp [hz]))
      refine ⟨max N N1, r, ⟨fun h => ?_, fun h8 h9 => hr2 (by omega) (by omega)⟩, fun n m hn hm => ?_⟩
      · obtain ⟨g1, g2, g3⟩ := hr1 h
        exact ⟨by omega, by omega, by rw [g3]; congr 1; omega⟩
      · obtain ⟨m, rfl, hm2⟩ := pred (by simpa using hm)
        have e1 : tariff_sized n y (isub .i64 lv 1) lf = some (((lf - cnt y : Nat) : Int), true) := e1 n (by omega)
        rw [tariff_sized_L1_s, more_yes hd, cond_true, h1, Option.bind_some, e1, Option.bind_some]
        dsimp only
        rw [Bool.not_true, cond_false, inc64 (by omega), ih n m (by omega) hm2]
theorem sized_x {x : M.Expr} (hx : Fit x) : ∀ lv lf : Nat, lv ≤ 1000000 → lf ≤ 1000000 → Tt (Siz (dep x) (cnt x) lv lf) (fun n => tariff_sized n x lv lf) := by
  induction hx with
  | @mk o k s l hl _ ih =>
    intro lv lf hv hf
    have hd : dep ⟨o, k, s, l⟩ = deps l + 1 := rfl
    have hc : cnt ⟨o, k, s, l⟩ = cnts l + 1 := rfl
    refine Tt.suc (g := fun n => _) (fun n => tariff_sized_s n _ _ _) ?_
    have hsub : isub .i64 (lf : Int) 1 = (lf : Int) - 1 := isub_i64 (by omega) (by omega)
    rw [hsub]
    refine Tt.bind (P := fun b => b = true ↔ (lv < 1 ∨ lf < 1)) (Tt.bif (fun h => Tt.pure (by have := of_decide_eq_true h; simp only [true_iff]; omega)) (fun h => Tt.pure ?_)) ?_
    · have := of_decide_eq_false h
      rw [decide_eq_true_iff]; omega
    intro b hb
    refine Tt.bif (fun h => Tt.pure ⟨fun h => (by cases h), fun h1 h2 => ?_⟩) (fun h => ?_)
    · have := hb.1 h; omega
    have h3 : ¬(lv < 1 ∨ lf < 1) := fun h4 => by have := hb.2 h4; rw [this] at h; cases h
    have e : (lf : Int) - 1 = ((lf - 1 : Nat) : Int) := by omega
    rw [e]
    obtain ⟨N, r, ⟨hr1, hr2⟩, hh⟩ := sized_LX ⟨o, k, s, l⟩ lv (by omega) hv hl l 0 (lf - 1) (by omega) rfl ih
    refine ⟨r, ⟨N + l.length + 1, fun n hn => hh n n (by omega) (by omega)⟩, fun h => ?_, fun h4 h5 => hr2 (by omega) (by omega)⟩
    obtain ⟨g1, g2, g3⟩ := hr1 h
    exact ⟨by omega, by omega, by rw [g3]; congr 1; omega⟩
def nodeok (o n : Int) (s : Rt.Bs) : Prop := if o = 0 then (0 ≤ n ∧ n ≤ 1099511627776) ∧ s = [] else if o = 1 ∨ o = 4 then n = 0 ∧ Lx.name s = true else n = 0 ∧ s = []
inductive Shx : M.Expr → Prop
  | mk {o n : Int} {s : Rt.Bs} {l : List M.Expr} : 0 ≤ o → o ≤ 16 → (l.length : Int) = argsN o → nodeok o n s → (∀ y, y ∈ l → Shx y) → Shx ⟨o, n, s, l⟩
theorem IndexFunc_X2 (l : List M.Expr) (hl : l.length ≤ 1000000) (f : Nat → M.Expr → Option Bool) (Q : M.Expr → Prop) : ∀ (us : List M.Expr) (i : Nat), l.drop i = us → (∀ y, y ∈ us → Tt (fun b => b = false ↔ Q y) (fun n => f n y)) →
    ∃ N r, (r = -1 ∧ (∀ y, y ∈ us → Q y) ∨ 0 ≤ r ∧ ¬∀ y, y ∈ us → Q y) ∧ ∀ n m, N ≤ n → us.length < m → slices_IndexFunc_api_Expr_api_Expr_L1 n l (f n) (some (-1)) m (i : Int) = some r
  | [], i, hd, _ => by
    refine ⟨0, -1, .inl ⟨rfl, by simp⟩, fun n m _ hm => ?_⟩
    obtain ⟨m, rfl⟩ := left hm
    rw [slices_IndexFunc_api_Expr_api_Expr_L1_s, more_no hd]; rfl
  | y :: us, i, hd, H => by
    obtain ⟨h1, h2, h3⟩ := drop_cons hd
    obtain ⟨b, ⟨N1, e1⟩, hb⟩ := H y (by simp)
    obtain ⟨N, r, hr, ih⟩ := IndexFunc_X2 l hl f Q us (i + 1) h2 (fun z hz => H z (by simp [hz]))
    cases b with
    | true =>
      refine ⟨N1, (i : Int), .inr ⟨by omega, fun h => ?_⟩, fun n m hn hm => ?_⟩
      · have := hb.2 (h y (by simp)); cases this
      obtain ⟨m, rfl⟩ := left hm
      have e1 : f n y = some true := e1 n (by omega)
      rw [slices_IndexFunc_api_Expr_api_Expr_L1_s, more_yes hd, cond_true, h1, Option.bind_some, e1]; rfl
    | false =>
      refine ⟨max N N1, r, hr.imp (fun h => ⟨h.1, by simpa using ⟨hb.1 rfl, h.2⟩⟩) (fun h => ⟨h.1, fun h5 => h.2 fun z hz => h5 z (by simp [hz])⟩), fun n m hn hm => ?_⟩
      obtain ⟨m, rfl, hm2⟩ := pred (by simpa using hm)
      have e1 : f n y = some false := e1 n (by omega)
      rw [slices_IndexFunc_api_Expr_api_Expr_L1_s, more_yes hd, cond_true, h1, Option.bind_some, e1, Option.bind_some, cond_false, inc64 (by omega)]
      exact ih n m (by omega) hm2
theorem ContainsFunc_X2 (l : List M.Expr) (hl : l.length ≤ 1000000) (f : Nat → M.Expr → Option Bool) (Q : M.Expr → Prop) (H : ∀ y, y ∈ l → Tt (fun b => b = false ↔ Q y) (fun n => f n y)) :
    Tt (fun b => b = false ↔ ∀ y, y ∈ l → Q y) (fun n => slices_ContainsFunc_api_Expr_api_Expr n l (f n)) := by
  obtain ⟨N, r, hr, ih⟩ := IndexFunc_X2 l hl f Q l 0 rfl H
  refine ⟨decide (0 ≤ r), ⟨N + l.length + 1, fun n hn => ?_⟩, ?_⟩
  · unfold slices_ContainsFunc_api_Expr_api_Expr slices_IndexFunc_api_Expr_api_Expr
    dsimp only
    have e : slices_IndexFunc_api_Expr_api_Expr_L1 n l (f n) (some (-1)) n 0 = some r := ih n n (by omega) (by omega)
    rw [e]; rfl
  · show decide (0 ≤ r) = false ↔ _
    rw [decide_eq_false_iff_not]
    rcases hr with h | h
    · exact ⟨fun _ => h.2, fun _ => by omega⟩
    · exact ⟨fun h5 => absurd h.1 h5, fun h5 => absurd h5 h.2⟩
theorem Shx.inv {o n : Int} {s : Rt.Bs} {l : List M.Expr} (h : Shx ⟨o, n, s, l⟩) : 0 ≤ o ∧ o ≤ 16 ∧ (l.length : Int) = argsN o ∧ nodeok o n s ∧ ∀ y, y ∈ l → Shx y := by
  cases h with
  | mk h1 h2 h3 h4 h5 => exact ⟨h1, h2, h3, h4, h5⟩
theorem shaped_x {x : M.Expr} (hx : Fit x) : Tt (fun b => b = true ↔ Shx x) (fun n => tariff_shaped n x) := by
  induction hx with
  | @mk o k s l hl _ ih =>
    refine Tt.suc (fun n => tariff_shaped_s n _) ?_
    refine Tt.bind (P := fun b => b = false ↔ 0 ≤ o ∧ o ≤ 16) (Tt.bif (fun h => Tt.pure ?_) (fun h => Tt.pure ?_)) ?_
    · have h1 := of_decide_eq_true h
      dsimp only at h1
      exact ⟨fun h => (by cases h), fun h => by omega⟩
    · have h1 := of_decide_eq_false h
      dsimp only at h1
      rw [decide_eq_false_iff_not]
      dsimp only
      omega
    intro b hb
    refine Tt.bind (P := fun c => c = false ↔ (0 ≤ o ∧ o ≤ 16) ∧ (l.length : Int) = argsN o) (Tt.bif (fun h => Tt.pure ?_) (fun h => ?_)) ?_
    · exact ⟨fun h => (by cases h), fun h5 => by have := hb.2 h5.1; rw [this] at h; cases h⟩
    · refine Tt.evb (Ev.all fun n => args_n n _) (Tt.pure ?_)
      have := hb.1 h
      simp only [bne_eq_false_iff_eq, this, true_and]
    intro c hc
    refine Tt.bif (fun h => Tt.pure ⟨fun h => (by cases h), fun h5 => ?_⟩) (fun h => ?_)
    · have h6 := h5.inv
      have := hc.2 ⟨⟨h6.1, h6.2.1⟩, h6.2.2.1⟩
      rw [this] at h; cases h
    obtain ⟨⟨h1, h2⟩, h3⟩ := hc.1 h
    have fin : ∀ {b : Bool}, (b = true ↔ nodeok o k s ∧ ∀ y, y ∈ l → Shx y) → (b = true ↔ Shx ⟨o, k, s, l⟩) := fun {b} hb => hb.trans ⟨fun h => Shx.mk h1 h2 h3 h.1 h.2, fun h => ⟨h.inv.2.2.2.1, h.inv.2.2.2.2⟩⟩
    refine Tt.bif (fun h0 => ?_) (fun h0 => ?_)
    · have h0' : o = 0 := by simpa using h0
      subst h0'
      have hz : l = [] := by
        have : (l.length : Int) = 0 := h3
        exact List.length_eq_zero_iff.1 (by omega)
      subst hz
      refine Tt.bind (P := fun b => b = true ↔ 0 ≤ k ∧ k ≤ 1099511627776) (Tt.bif (fun h => Tt.pure ?_) (fun h => Tt.pure ?_)) fun b hb => ?_
      · have h5 := of_decide_eq_true h
        rw [decide_eq_true_iff]
        exact ⟨fun h6 => ⟨h5, h6⟩, fun h6 => h6.2⟩
      · have h5 := of_decide_eq_false h
        exact ⟨fun h6 => (by cases h6), fun h6 => absurd h6.1 h5⟩
      refine Tt.bind (P := fun b => b = true ↔ (0 ≤ k ∧ k ≤ 1099511627776) ∧ s = []) (Tt.bif (fun h => Tt.pure ?_) (fun h => Tt.pure ?_)) fun b hb2 => ?_
      · have := hb.1 h
        simp [this]
      · exact ⟨fun h6 => (by cases h6), fun h6 => by rw [hb.2 h6.1] at h; cases h⟩
      refine Tt.pure (fin ?_)
      rw [hb2]
      exact ⟨fun h => ⟨h, by simp⟩, fun h => h.1⟩
    have hn0 : o ≠ 0 := by simpa using h0
    refine Tt.bind (P := fun b => b = true ↔ o = 1 ∨ o = 4) (Tt.bif (fun h => Tt.pure ?_) (fun h => Tt.pure ?_)) ?_
    · have : o = 1 := by simpa using h
      exact ⟨fun _ => .inl this, fun _ => rfl⟩
    · have : o ≠ 1 := by simpa using h
      simp [this]
    intro b1 hb1
    refine Tt.bif (fun h4 => ?_) (fun h4 => ?_)
    · have ho := hb1.1 h4
      have hz : l = [] := by
        have : (l.length : Int) = 0 := by rw [h3]; rcases ho with rfl | rfl <;> rfl
        exact List.length_eq_zero_iff.1 (by omega)
      subst hz
      have hno : nodeok o k s ↔ k = 0 ∧ Lx.name s = true := by unfold nodeok; rw [if_neg hn0, if_pos ho]
      refine Tt.bind (P := fun b => b = true ↔ k = 0 ∧ Lx.name s = true) (Tt.bif (fun h => ?_) (fun h => Tt.pure ?_)) fun b hb => ?_
      · have : k = 0 := by simpa using h
        refine Tt.evb (name_ev _) (Tt.pure ?_)
        simp [this]
      · have : k ≠ 0 := by simpa using h
        exact ⟨fun h => (by cases h), fun h => absurd h.1 this⟩
      refine Tt.pure (fin ?_)
      rw [hb, hno]
      exact ⟨fun h => ⟨h, by simp⟩, fun h => h.1⟩
    have ho : ¬(o = 1 ∨ o = 4) := fun h5 => by rw [hb1.2 h5] at h4; cases h4
    have hno : nodeok o k s ↔ k = 0 ∧ s = [] := by unfold nodeok; rw [if_neg hn0, if_neg ho]
    refine Tt.bind (P := fun b => b = true ↔ k = 0 ∧ s = []) (Tt.bif (fun h => Tt.pure ?_) (fun h => Tt.pure ?_)) fun b hb => ?_
    · have : k = 0 := by simpa using h
      simp [this]
    · have : k ≠ 0 := by simpa using h
      exact ⟨fun h => (by cases h), fun h => absurd h.1 this⟩
    refine Tt.bind (P := fun b => b = true ↔ nodeok o k s ∧ ∀ y, y ∈ l → Shx y) (Tt.bif (fun h => ?_) (fun h => Tt.pure ?_)) ?_
    · refine Tt.bind (ContainsFunc_X2 l hl tariff_shaped_1 Shx (fun y hy => ?_)) ?_
      · refine Tt.suc (fun n => tariff_shaped_1_s n _) ?_
        refine Tt.bind (ih y hy) ?_
        intro b hb
        refine Tt.pure ?_
        rw [← hb]; cases b <;> simp
      · intro b2 hb2
        refine Tt.pure ?_
        rw [hno, ← hb, ← hb2, h]
        cases b2 <;> simp
    · exact ⟨fun h5 => (by cases h5), fun h5 => by rw [hno, ← hb] at h5; rw [h5.1] at h; cases h⟩
    · intro b hb
      exact Tt.pure (fin hb)
def Frm (x : M.Expr) : Prop := (dep x ≤ 10 ∧ cnt x ≤ 100) ∧ Shx x
theorem form_x {x : M.Expr} (hx : Fit x) : Tt (fun b => b = true ↔ Frm x) (fun n => tariff_form n x) := by
  unfold tariff_form
  refine Tt.bind (sized_x hx 10 100 (by decide) (by decide)) fun r hr => ?_
  have h5 : r.2 = true ↔ dep x ≤ 10 ∧ cnt x ≤ 100 := ⟨fun h => ⟨(hr.1 h).1, (hr.1 h).2.1⟩, fun h => hr.2 h.1 h.2⟩
  refine Tt.bind (P := fun b => b = true ↔ Frm x) (Tt.bif (fun h => ?_) (fun h => Tt.pure ?_)) fun b hb => Tt.pure hb
  · refine Tt.bind (shaped_x hx) fun b hb => Tt.pure ?_
    unfold Frm
    rw [hb, ← h5, h]; simp
  · exact ⟨fun h6 => (by cases h6), fun h6 => by rw [h5.2 h6.1] at h; cases h⟩
def Wrt (t : Tariff) : Prop := Lx.name t.Name = true ∧ Frm t.Fee ∧ -1 ≤ t.Cap ∧ t.Cap ≤ 1099511627776
theorem writable_x {t : Tariff} (hx : Fit t.Fee) : Tt (fun b => b = true ↔ Wrt t) (fun n => tariff_writable n t) := by
  unfold tariff_writable
  refine Tt.evb (name_ev _) ?_
  refine Tt.bind (P := fun b => b = true ↔ Lx.name t.Name = true ∧ Frm t.Fee) (Tt.bif (fun h => ?_) (fun h => Tt.pure ?_)) fun b hb => ?_
  · refine Tt.bind (form_x hx) fun b hb => Tt.pure ?_
    rw [hb, h]; simp
  · exact ⟨fun h6 => (by cases h6), fun h6 => by rw [h6.1] at h; cases h⟩
  refine Tt.bind (P := fun b => b = true ↔ (Lx.name t.Name = true ∧ Frm t.Fee) ∧ -1 ≤ t.Cap) (Tt.bif (fun h => Tt.pure ?_) (fun h => Tt.pure ?_)) fun b hb => ?_
  · rw [decide_eq_true_iff, ← hb, h]; simp
  · exact ⟨fun h6 => (by cases h6), fun h6 => by rw [hb.2 h6.1] at h; cases h⟩
  refine Tt.bind (P := fun b => b = true ↔ Wrt t) (Tt.bif (fun h => Tt.pure ?_) (fun h => Tt.pure ?_)) fun b hb => ?_
  · have := hb.1 h
    rw [decide_eq_true_iff]
    exact ⟨fun h5 => ⟨this.1.1, this.1.2, this.2, h5⟩, fun h5 => h5.2.2.2⟩
  · exact ⟨fun h6 => (by cases h6), fun h6 => by rw [hb.2 ⟨⟨h6.1, h6.2.1⟩, h6.2.2.1⟩] at h; cases h⟩
  exact Tt.pure hb
end Go.Proofs.YtpihabofmnnbbaaGreatDoor.Tp

namespace Go.Proofs.YtpihabofmnnbbaaGreatDoor.Tp
open Go Rt M Ta
def wd (a b : Int) : Int := bif a == 2 || b == 2 then 2 else 1
inductive Typ (names : List Rt.Bs) : M.Expr → Int → Prop
  | num {m : Int} : 0 ≤ m → m ≤ 1099511627776 → Typ names ⟨0, m, [], []⟩ 1
  | lifts {s : Rt.Bs} : Lx.name s = true → s ∈ names → Typ names ⟨1, 0, s, []⟩ 1
  | pers : Typ names ⟨2, 0, [], []⟩ 1
  | flats : Typ names ⟨3, 0, [], []⟩ 1
  | wgt {s : Rt.Bs} : Lx.name s = true → s ∈ names → Typ names ⟨4, 0, s, []⟩ 2
  | ari {o : Int} {a b : M.Expr} {p q : Int} : (o = 5 ∨ o = 6 ∨ o = 9 ∨ o = 10) → Typ names a p → Typ names b q → p ≠ 0 → q ≠ 0 → Typ names ⟨o, 0, [], [a, b]⟩ (wd p q)
  | mul {a b : M.Expr} {p q : Int} : Typ names a p → Typ names b q → p ≠ 0 → q ≠ 0 → ¬(p = 2 ∧ q = 2) → Typ names ⟨7, 0, [], [a, b]⟩ (wd p q)
  | div {a : M.Expr} {m : Int} {p : Int} : Typ names a p → p ≠ 0 → 1 ≤ m → m ≤ 1099511627776 → Typ names ⟨8, 0, [], [a, ⟨0, m, [], []⟩]⟩ p
  | ite {c a b : M.Expr} {p q : Int} : Typ names c 0 → Typ names a p → Typ names b q → p ≠ 0 → q ≠ 0 → Typ names ⟨11, 0, [], [c, a, b]⟩ (wd p q)
  | rel {o : Int} {a b : M.Expr} : (o = 12 ∨ o = 13) → Typ names a 1 → Typ names b 1 → Typ names ⟨o, 0, [], [a, b]⟩ 0
  | not {a : M.Expr} : Typ names a 0 → Typ names ⟨14, 0, [], [a]⟩ 0
  | bin {o : Int} {a b : M.Expr} : (o = 15 ∨ o = 16) → Typ names a 0 → Typ names b 0 → Typ names ⟨o, 0, [], [a, b]⟩ 0
theorem wd_cases (a b : Int) : wd a b = 1 ∨ wd a b = 2 := by
  unfold wd
  cases a == 2 || b == 2
  · exact .inl rfl
  · exact .inr rfl
theorem Typ.range {names : List Rt.Bs} {x : M.Expr} {k : Int} (h : Typ names x k) : k = 0 ∨ k = 1 ∨ k = 2 := by
  induction h with
  | num => exact .inr (.inl rfl)
  | lifts => exact .inr (.inl rfl)
  | pers => exact .inr (.inl rfl)
  | flats => exact .inr (.inl rfl)
  | wgt => exact .inr (.inr rfl)
  | ari => exact .inr (wd_cases _ _)
  | mul => exact .inr (wd_cases _ _)
  | div _ _ _ _ ih => exact ih
  | ite => exact .inr (wd_cases _ _)
  | rel => exact .inl rfl
  | not => exact .inl rfl
  | bin => exact .inl rfl
theorem Typ.args {names : List Rt.Bs} {x : M.Expr} {k : Int} (h : Typ names x k) : ∀ y, y ∈ x.Args → ∃ p, Typ names y p := by
  cases h with
  | num => intro y hy; cases hy
  | lifts => intro y hy; cases hy
  | pers => intro y hy; cases hy
  | flats => intro y hy; cases hy
  | wgt => intro y hy; cases hy
  | ari _ ha hb => intro y hy; simp only [List.mem_cons, List.not_mem_nil, or_false] at hy; rcases hy with rfl | rfl <;> first | exact ⟨_, ha⟩ | exact ⟨_, hb⟩
  | mul ha hb => intro y hy; simp only [List.mem_cons, List.not_mem_nil, or_false] at hy; rcases hy with rfl | rfl <;> first | exact ⟨_, ha⟩ | exact ⟨_, hb⟩
  | div ha _ h1 h2 => intro y hy; simp only [List.mem_cons, List.not_mem_nil, or_false] at hy; rcases hy with rfl | rfl <;> first | exact ⟨_, ha⟩ | exact ⟨_, Typ.num (by omega) h2⟩
  | ite hc ha hb => intro y hy; simp only [List.mem_cons, List.not_mem_nil, or_false] at hy; rcases hy with rfl | rfl | rfl <;> first | exact ⟨_, hc⟩ | exact ⟨_, ha⟩ | exact ⟨_, hb⟩
  | rel _ ha hb => intro y hy; simp only [List.mem_cons, List.not_mem_nil, or_false] at hy; rcases hy with rfl | rfl <;> first | exact ⟨_, ha⟩ | exact ⟨_, hb⟩
  | not ha => intro y hy; simp only [List.mem_cons, List.not_mem_nil, or_false] at hy; rcases hy with rfl; exact ⟨_, ha⟩
  | bin _ ha hb => intro y hy; simp only [List.mem_cons, List.not_mem_nil, or_false] at hy; rcases hy with rfl | rfl <;> first | exact ⟨_, ha⟩ | exact ⟨_, hb⟩
theorem Typ.shx {names : List Rt.Bs} {x : M.Expr} {k : Int} (h : Typ names x k) : Shx x := by
  have nk : ∀ {o : Int}, 5 ≤ o → nodeok o 0 [] := fun {o} ho => by unfold nodeok; rw [if_neg (by omega), if_neg (by omega)]; exact ⟨rfl, rfl⟩
  have two : ∀ {o : Int} {a b : M.Expr}, (5 ≤ o ∧ o ≤ 16 ∧ o ≠ 11 ∧ o ≠ 14) → Shx a → Shx b → Shx ⟨o, 0, [], [a, b]⟩ := fun {o a b} ho ha hb => by
    refine Shx.mk (by omega) (by omega) ?_ (nk ho.1) ?_
    · show (2 : Int) = _
      unfold argsN; rw [if_neg (by omega), if_neg (by omega), if_neg (by omega)]
    · intro y hy; simp only [List.mem_cons, List.not_mem_nil, or_false] at hy; rcases hy with rfl | rfl <;> first | exact ha | exact hb
  have nn : ∀ {m : Int}, 0 ≤ m → m ≤ 1099511627776 → Shx ⟨0, m, [], []⟩ := fun {m} h1 h2 => Shx.mk (by decide) (by decide) rfl (by unfold nodeok; rw [if_pos rfl]; exact ⟨⟨h1, h2⟩, rfl⟩) (by intro y hy; cases hy)
  induction h with
  | num h1 h2 => exact nn h1 h2
  | lifts h1 _ => exact Shx.mk (by decide) (by decide) rfl (by unfold nodeok; rw [if_neg (by decide), if_pos (by decide)]; exact ⟨rfl, h1⟩) (by intro y hy; cases hy)
  | pers => exact Shx.mk (by decide) (by decide) rfl (by unfold nodeok; rw [if_neg (by decide), if_neg (by decide)]; exact ⟨rfl, rfl⟩) (by intro y hy; cases hy)
  | flats => exact Shx.mk (by decide) (by decide) rfl (by unfold nodeok; rw [if_neg (by decide), if_neg (by decide)]; exact ⟨rfl, rfl⟩) (by intro y hy; cases hy)
  | wgt h1 _ => exact Shx.mk (by decide) (by decide) rfl (by unfold nodeok; rw [if_neg (by decide), if_pos (by decide)]; exact ⟨rfl, h1⟩) (by intro y hy; cases hy)
  | ari ho _ _ _ _ ha hb => exact two (by omega) ha hb
  | mul _ _ _ _ _ ha hb => exact two (by decide) ha hb
  | div _ _ h1 h2 ha => exact two (by decide) ha (nn (by omega) h2)
  | ite _ _ _ _ _ hc ha hb =>
    refine Shx.mk (by decide) (by decide) rfl (nk (by decide)) ?_
    intro y hy; simp only [List.mem_cons, List.not_mem_nil, or_false] at hy; rcases hy with rfl | rfl | rfl <;> first | exact hc | exact ha | exact hb
  | rel ho _ _ ha hb => exact two (by omega) ha hb
  | not _ ha =>
    refine Shx.mk (by decide) (by decide) rfl (nk (by decide)) ?_
    intro y hy; simp only [List.mem_cons, List.not_mem_nil, or_false] at hy; rcases hy with rfl; exact ha
  | bin ho _ _ ha hb => exact two (by omega) ha hb
theorem join_x (n : Nat) (a b : Int) : tariff_join n a b = some (bif a == 0 || b == 0 then (0, 13) else (wd a b, 0)) := by
  unfold tariff_join wd
  have orT : ∀ c d : Bool, (bif c then some true else some d) = some (c || d) := fun c d => by cases c <;> rfl
  rw [orT, Option.bind_some, orT, Option.bind_some]
  cases a == 0 || b == 0 <;> cases a == 2 || b == 2 <;> rfl
theorem all_x2 (k p q w : Int) : Ev (fun n => tariff_all n k [p, q] w) (bif p == w && q == w then (k, 0) else (0, 13)) := by
  refine ⟨3, fun n hn => ?_⟩
  obtain ⟨n, rfl⟩ : ∃ j, n = j + 3 := ⟨n - 3, by omega⟩
  show ((bif p != w then some (0 : Int) else bif q != w then some 1 else some (-1)).bind fun v1 => some (decide (0 ≤ v1))).bind (fun v1 => bif v1 then some ((0 : Int), (13 : Int)) else some (k, 0)) = _
  cases hp : p == w <;> cases hq : q == w <;> simp [bne, hp, hq]
theorem all_x1 (k p w : Int) : Ev (fun n => tariff_all n k [p] w) (bif p == w then (k, 0) else (0, 13)) := by
  refine ⟨3, fun n hn => ?_⟩
  obtain ⟨n, rfl⟩ : ∃ j, n = j + 3 := ⟨n - 3, by omega⟩
  show ((bif p != w then some (0 : Int) else some (-1)).bind fun v1 => some (decide (0 ≤ v1))).bind (fun v1 => bif v1 then some ((0 : Int), (13 : Int)) else some (k, 0)) = _
  cases hp : p == w <;> simp [bne, hp]
def Fnd (names : List Rt.Bs) (x : M.Expr) (r : Int × Int) : Prop := (r.2 = 0 → Typ names x r.1) ∧ (∀ k, Typ names x k → r = (k, 0))
theorem Fnd.uniq {names : List Rt.Bs} {x : M.Expr} {p k : Int} (h : Fnd names x (p, 0)) (hk : Typ names x k) : k = p := by
  have := h.2 k hk
  exact (Prod.mk.inj this).1.symm
inductive F2 (names : List Rt.Bs) : List M.Expr → List Int → Prop
  | nil : F2 names [] []
  | cons {x : M.Expr} {p : Int} {l : List M.Expr} {ps : List Int} : Fnd names x (p, 0) → F2 names l ps → F2 names (x :: l) (p :: ps)
theorem types_LX (x : M.Expr) (names : List Rt.Bs) (hx : x.Args.length ≤ 1000000) : ∀ (us : List M.Expr) (i : Nat) (acc : List Int), x.Args.drop i = us → acc.length = i → i ≤ x.Args.length →
    (∀ y, y ∈ us → Tt (Fnd names y) (fun n => tariff_typed n y names)) →
    (∃ (N : Nat) (e : Int), e ≠ 0 ∧ (∃ y, y ∈ us ∧ ∀ k, ¬Typ names y k) ∧ ∀ n m kont, N ≤ n → us.length < m → tariff_typed_L1 n (tariff_typed n) x names kont m (i : Int) acc = some (0, e)) ∨
    ∃ (N : Nat) (ps : List Int), F2 names us ps ∧ ∀ n m kont, N ≤ n → us.length < m → tariff_typed_L1 n (tariff_typed n) x names kont m (i : Int) acc = kont (acc ++ ps)
  | [], i, acc, hd, ha, hi, _ => by
    refine .inr ⟨0, [], F2.nil, fun n m kont _ hm => ?_⟩
    obtain ⟨m, rfl⟩ := left hm
    rw [tariff_typed_L1_s, more_no hd, List.append_nil]; rfl
  | y :: us, i, acc, hd, ha, hi, H => by
    obtain ⟨h1, h2, h3⟩ := drop_cons hd
    obtain ⟨⟨k, e⟩, ⟨N1, e1⟩, hq⟩ := H y (by simp)
    by_cases he : e = 0
    · subst he
      have step : ∀ n m kont, N1 ≤ n → tariff_typed_L1 n (tariff_typed n) x names kont (m + 1) (i : Int) acc = tariff_typed_L1 n (tariff_typed n) x names kont m ((i + 1 : Nat) : Int) (acc ++ [k]) := by
        intro n m kont hn
        have e1 : tariff_typed n y names = some (k, 0) := e1 n (by omega)
        rw [tariff_typed_L1_s, more_yes hd, cond_true, h1, Option.bind_some, e1, Option.bind_some]
        show ((app 8 acc [k]).bind fun l3 => _) = _
        rw [app_ok (by simp only [List.length_cons, List.length_nil]; omega), Option.bind_some, inc64 (by omega)]
      rcases types_LX x names hx us (i + 1) (acc ++ [k]) h2 (by simp [ha]) (by omega) (fun z hz => H z (by simp [hz])) with ⟨N, e, he, ⟨z, hz, hzk⟩, ih⟩ | ⟨N, ps, hp, ih⟩
      · refine .inl ⟨max N N1, e, he, ⟨z, by simp [hz], hzk⟩, fun n m kont hn hm => ?_⟩
        obtain ⟨m, rfl, hm2⟩ := pred (by simpa using hm)
        rw [step n m kont (by omega)]
        exact ih n m kont (by omega) hm2
      · refine .inr ⟨max N N1, k :: ps, F2.cons hq hp, fun n m kont hn hm => ?_⟩
        obtain ⟨m, rfl, hm2⟩ := pred (by simpa using hm)
        rw [step n m kont (by omega), ih n m kont (by omega) hm2, List.append_assoc]; rfl
    · refine .inl ⟨N1, e, he, ⟨y, by simp, fun k' hk => he (Prod.mk.inj (hq.2 k' hk)).2⟩, fun n m kont hn hm => ?_⟩
      obtain ⟨m, rfl⟩ := left hm
      have e1 : tariff_typed n y names = some (k, e) := e1 n (by omega)
      have hb : (e != 0) = true := by simpa using he
      rw [tariff_typed_L1_s, more_yes hd, cond_true, h1, Option.bind_some, e1, Option.bind_some]
      dsimp only
      rw [hb]; rfl
def codeK (names : List Rt.Bs) (x : M.Expr) (n : Nat) (l2 : List Int) : Option (Int × Int) :=
   (bif x.Op == 1 then
    some true
   else
    some (x.Op == 4)).bind fun v1 =>
   bif v1 then
    (slices_Contains_string_string n names x.Name).bind fun v2 =>
    bif !v2 then
     some (0, 11)
    else
     bif x.Op == 4 then
      some (2, 0)
     else
      some (1, 0)
   else
    (bif x.Op == 0 then
     some true
    else
     bif x.Op == 2 then
      some true
     else
      some (x.Op == 3)).bind fun v3 =>
    bif v3 then
     some (1, 0)
    else
     (bif x.Op == 12 then
      some true
     else
      some (x.Op == 13)).bind fun v4 =>
     bif v4 then
      (tariff_all n 0 l2 1).bind fun v5 =>
      some (v5.1, v5.2)
     else
      (bif x.Op == 14 then
       some true
      else
       bif x.Op == 15 then
        some true
       else
        some (x.Op == 16)).bind fun v6 =>
      bif v6 then
       (tariff_all n 0 l2 0).bind fun v7 =>
       some (v7.1, v7.2)
      else
       bif x.Op == 11 then
        (ix l2 0).bind fun ex =>
        bif ex != 0 then
         some (0, 13)
        else
         (ix l2 1).bind fun w2 =>
         (ix l2 2).bind fun w3 =>
         (tariff_join n w2 w3).bind fun v8 =>
         some (v8.1, v8.2)
       else
        bif x.Op == 7 then
         (ix l2 0).bind fun w4 =>
         (bif w4 == 2 then
          (ix l2 1).bind fun w7 =>
          some (w7 == 2)
         else
          some false).bind fun v9 =>
         bif v9 then
          some (0, 13)
         else
          (ix l2 0).bind fun w5 =>
          (ix l2 1).bind fun w6 =>
          (tariff_join n w5 w6).bind fun v10 =>
          some (v10.1, v10.2)
        else
         bif x.Op == 8 then
          (ix x.Args 1).bind fun w8 =>
          bif w8.Op != 0 then
           some (0, 13)
          else
           bif w8.N == 0 then
            some (0, 14)
           else
            (ix l2 0).bind fun w9 =>
            (ix l2 1).bind fun w0 =>
            (tariff_join n w9 w0).bind fun v11 =>
            some (v11.1, v11.2)
         else
          (ix l2 0).bind fun w1 =>
          (ix l2 1).bind fun w2 =>
          (tariff_join n w1 w2).bind fun v12 =>
          some (v12.1, v12.2)
theorem typed_K (n : Nat) (x : M.Expr) (names : List Rt.Bs) : tariff_typed (n + 1) x names = tariff_typed_L1 n (tariff_typed n) x names (codeK names x n) n 0 [] := rfl
def joinX (p q : Int) : Int × Int := bif p == 0 || q == 0 then (0, 13) else (wd p q, 0)
theorem join_evX (p q : Int) : Ev (fun n => (tariff_join n p q).bind fun v => some (v.1, v.2)) (joinX p q) := Ev.all fun n => by rw [join_x]; rfl
theorem all2X (p q w : Int) : Ev (fun n => (tariff_all n 0 [p, q] w).bind fun v5 => some (v5.1, v5.2)) (bif p == w && q == w then (0, 0) else (0, 13)) := Ev.bind (all_x2 0 p q w) (Ev.pure _)
theorem all1X (p w : Int) : Ev (fun n => (tariff_all n 0 [p] w).bind fun v5 => some (v5.1, v5.2)) (bif p == w then (0, 0) else (0, 13)) := Ev.bind (all_x1 0 p w) (Ev.pure _)
theorem joinX_cases (p q : Int) : ((p ≠ 0 ∧ q ≠ 0) ∧ joinX p q = (wd p q, 0)) ∨ ((p = 0 ∨ q = 0) ∧ joinX p q = (0, 13)) := by
  unfold joinX
  by_cases hp : p = 0
  · subst hp; exact .inr ⟨.inl rfl, rfl⟩
  · by_cases hq : q = 0
    · subst hq; exact .inr ⟨.inr rfl, by rw [show ((0 : Int) == 0) = true from rfl, Bool.or_true]; rfl⟩
    · exact .inl ⟨⟨hp, hq⟩, by rw [show (p == 0) = false by simpa using hp, show (q == 0) = false by simpa using hq]; rfl⟩
theorem Fnd.no {names : List Rt.Bs} {x : M.Expr} {p e : Int} (he : e ≠ 0) (h : ∀ k, ¬Typ names x k) : Fnd names x (p, e) := ⟨fun h2 => absurd h2 he, fun k hk => absurd hk (h k)⟩
theorem Fnd.yes {names : List Rt.Bs} {x : M.Expr} {p : Int} (h : Typ names x p) (hu : ∀ k, Typ names x k → k = p) : Fnd names x (p, 0) := ⟨fun _ => h, fun k hk => by rw [hu k hk]⟩
theorem F2.len0 {names : List Rt.Bs} {l : List M.Expr} {ps : List Int} (h : F2 names l ps) (h0 : (l.length : Int) = 0) : l = [] ∧ ps = [] := by
  cases h with
  | nil => exact ⟨rfl, rfl⟩
  | cons => simp at h0; omega
theorem F2.len1 {names : List Rt.Bs} {l : List M.Expr} {ps : List Int} (h : F2 names l ps) (h0 : (l.length : Int) = 1) : ∃ a p, l = [a] ∧ ps = [p] ∧ Fnd names a (p, 0) := by
  cases h with
  | nil => simp at h0
  | cons ha h =>
    obtain ⟨rfl, rfl⟩ := h.len0 (by simp only [List.length_cons] at h0; omega)
    exact ⟨_, _, rfl, rfl, ha⟩
theorem F2.len2 {names : List Rt.Bs} {l : List M.Expr} {ps : List Int} (h : F2 names l ps) (h0 : (l.length : Int) = 2) : ∃ a b p q, l = [a, b] ∧ ps = [p, q] ∧ Fnd names a (p, 0) ∧ Fnd names b (q, 0) := by
  cases h with
  | nil => simp at h0
  | cons ha h =>
    obtain ⟨b, q, rfl, rfl, hb⟩ := h.len1 (by simp only [List.length_cons] at h0; omega)
    exact ⟨_, b, _, q, rfl, rfl, ha, hb⟩
theorem F2.len3 {names : List Rt.Bs} {l : List M.Expr} {ps : List Int} (h : F2 names l ps) (h0 : (l.length : Int) = 3) : ∃ a b c p q r, l = [a, b, c] ∧ ps = [p, q, r] ∧ Fnd names a (p, 0) ∧ Fnd names b (q, 0) ∧ Fnd names c (r, 0) := by
  cases h with
  | nil => simp at h0
  | cons ha h =>
    obtain ⟨b, c, q, r, rfl, rfl, hb, hc⟩ := h.len2 (by simp only [List.length_cons] at h0; omega)
    exact ⟨_, b, c, _, q, r, rfl, rfl, ha, hb, hc⟩
theorem Shx.leaf {m : Int} {s : Rt.Bs} {l : List M.Expr} (h : Shx ⟨0, m, s, l⟩) : (0 ≤ m ∧ m ≤ 1099511627776) ∧ s = [] ∧ l = [] := by
  obtain ⟨_, _, h3, h4, _⟩ := h.inv
  unfold nodeok at h4
  rw [if_pos rfl] at h4
  refine ⟨h4.1, h4.2, List.length_eq_zero_iff.1 ?_⟩
  have : (l.length : Int) = 0 := h3
  omega
theorem ari_fnd {names : List Rt.Bs} {o : Int} {a b : M.Expr} {p q : Int} (ho : o = 5 ∨ o = 6 ∨ o = 9 ∨ o = 10) (ha : Fnd names a (p, 0)) (hb : Fnd names b (q, 0)) : Fnd names ⟨o, 0, [], [a, b]⟩ (joinX p q) := by
  have inv : ∀ k, Typ names ⟨o, 0, [], [a, b]⟩ k → (p ≠ 0 ∧ q ≠ 0) ∧ k = wd p q := by
    intro k hk
    cases hk with
    | ari _ h1 h2 h3 h4 => obtain rfl := ha.uniq h1; obtain rfl := hb.uniq h2; exact ⟨⟨h3, h4⟩, rfl⟩
    | mul => omega
    | div => omega
    | rel h => omega
    | bin h => omega
  rcases joinX_cases p q with ⟨h, e⟩ | ⟨h, e⟩
  · rw [e]; exact Fnd.yes (Typ.ari ho (ha.1 rfl) (hb.1 rfl) h.1 h.2) fun k hk => (inv k hk).2
  · rw [e]; exact Fnd.no (by decide) fun k hk => by have := (inv k hk).1; omega
theorem mul_fnd {names : List Rt.Bs} {a b : M.Expr} {p q : Int} (ha : Fnd names a (p, 0)) (hb : Fnd names b (q, 0)) : Fnd names ⟨7, 0, [], [a, b]⟩ (bif p == 2 && q == 2 then (0, 13) else joinX p q) := by
  have inv : ∀ k, Typ names ⟨7, 0, [], [a, b]⟩ k → ((p ≠ 0 ∧ q ≠ 0) ∧ ¬(p = 2 ∧ q = 2)) ∧ k = wd p q := by
    intro k hk
    cases hk with
    | ari h => omega
    | mul h1 h2 h3 h4 h5 => obtain rfl := ha.uniq h1; obtain rfl := hb.uniq h2; exact ⟨⟨⟨h3, h4⟩, h5⟩, rfl⟩
    | rel h => omega
    | bin h => omega
  by_cases h2 : p = 2 ∧ q = 2
  · rw [h2.1, h2.2]; exact Fnd.no (by decide) fun k hk => (inv k hk).1.2 h2
  · have e2 : (p == 2 && q == 2) = false := by
      cases h : p == 2 && q == 2
      · rfl
      · rw [Bool.and_eq_true] at h; exact absurd ⟨by simpa using h.1, by simpa using h.2⟩ h2
    rw [e2]
    show Fnd names _ (joinX p q)
    rcases joinX_cases p q with ⟨h, e⟩ | ⟨h, e⟩
    · rw [e]; exact Fnd.yes (Typ.mul (ha.1 rfl) (hb.1 rfl) h.1 h.2 h2) fun k hk => (inv k hk).2
    · rw [e]; exact Fnd.no (by decide) fun k hk => by have := (inv k hk).1.1; omega
theorem wd_one {names : List Rt.Bs} {a : M.Expr} {p : Int} (h : Typ names a p) (h0 : p ≠ 0) : wd p 1 = p := by
  rcases h.range with rfl | rfl | rfl
  · exact absurd rfl h0
  · rfl
  · rfl
theorem div_fnd {names : List Rt.Bs} {a b : M.Expr} {p q : Int} (ha : Fnd names a (p, 0)) (hb : Fnd names b (q, 0)) (hs : Shx b) : Fnd names ⟨8, 0, [], [a, b]⟩ (bif b.Op != 0 then (0, 13) else bif b.N == 0 then (0, 14) else joinX p q) := by
  have inv : ∀ k, Typ names ⟨8, 0, [], [a, b]⟩ k → ∃ m, b = ⟨0, m, [], []⟩ ∧ m ≠ 0 ∧ p ≠ 0 ∧ k = p := by
    intro k hk
    cases hk with
    | ari h => omega
    | div h1 h2 h3 h4 => obtain rfl := ha.uniq h1; exact ⟨_, rfl, by omega, h2, rfl⟩
    | rel h => omega
    | bin h => omega
  obtain ⟨o, m, s, l⟩ := b
  dsimp only
  by_cases h0 : o = 0
  · subst h0
    obtain ⟨h1, rfl, rfl⟩ := hs.leaf
    have hq : q = 1 := (hb.uniq (Typ.num h1.1 h1.2)).symm
    subst hq
    show Fnd names _ (bif m == 0 then (0, 14) else joinX p 1)
    by_cases hm : m = 0
    · subst hm
      exact Fnd.no (by decide) fun k hk => by
        obtain ⟨m2, h5, h6, _⟩ := inv k hk
        injection h5 with _ h7
        exact h6 h7.symm
    · rw [show (m == 0) = false by simpa using hm]
      show Fnd names _ (joinX p 1)
      rcases joinX_cases p 1 with ⟨h, e⟩ | ⟨h, e⟩
      · rw [e, wd_one (ha.1 rfl) h.1]; exact Fnd.yes (Typ.div (ha.1 rfl) h.1 (by omega) h1.2) fun k hk => by obtain ⟨_, _, _, _, h⟩ := inv k hk; exact h
      · rw [e]; exact Fnd.no (by decide) fun k hk => by obtain ⟨_, _, _, h5, _⟩ := inv k hk; omega
  · rw [show (o != 0) = true by simpa using h0]
    exact Fnd.no (by decide) fun k hk => by
      obtain ⟨m2, h5, _⟩ := inv k hk
      injection h5 with h7
      exact h0 h7
theorem ite_fnd {names : List Rt.Bs} {c a b : M.Expr} {r p q : Int} (hc : Fnd names c (r, 0)) (ha : Fnd names a (p, 0)) (hb : Fnd names b (q, 0)) : Fnd names ⟨11, 0, [], [c, a, b]⟩ (bif r != 0 then (0, 13) else joinX p q) := by
  have inv : ∀ k, Typ names ⟨11, 0, [], [c, a, b]⟩ k → (r = 0 ∧ p ≠ 0 ∧ q ≠ 0) ∧ k = wd p q := by
    intro k hk
    cases hk with
    | ite h0 h1 h2 h3 h4 => obtain rfl := hc.uniq h0; obtain rfl := ha.uniq h1; obtain rfl := hb.uniq h2; exact ⟨⟨rfl, h3, h4⟩, rfl⟩
  by_cases hr : r = 0
  · subst hr
    show Fnd names _ (joinX p q)
    rcases joinX_cases p q with ⟨h, e⟩ | ⟨h, e⟩
    · rw [e]; exact Fnd.yes (Typ.ite (hc.1 rfl) (ha.1 rfl) (hb.1 rfl) h.1 h.2) fun k hk => (inv k hk).2
    · rw [e]; exact Fnd.no (by decide) fun k hk => by have := (inv k hk).1; omega
  · rw [show (r != 0) = true by simpa using hr]
    exact Fnd.no (by decide) fun k hk => hr (inv k hk).1.1
theorem rel_fnd {names : List Rt.Bs} {o : Int} {a b : M.Expr} {p q : Int} (ho : o = 12 ∨ o = 13) (ha : Fnd names a (p, 0)) (hb : Fnd names b (q, 0)) : Fnd names ⟨o, 0, [], [a, b]⟩ (bif p == 1 && q == 1 then (0, 0) else (0, 13)) := by
  have inv : ∀ k, Typ names ⟨o, 0, [], [a, b]⟩ k → (p = 1 ∧ q = 1) ∧ k = 0 := by
    intro k hk
    cases hk with
    | ari h => omega
    | mul => omega
    | div => omega
    | rel _ h1 h2 => exact ⟨⟨(ha.uniq h1).symm, (hb.uniq h2).symm⟩, rfl⟩
    | bin h => omega
  by_cases h2 : p = 1 ∧ q = 1
  · obtain ⟨rfl, rfl⟩ := h2; exact Fnd.yes (Typ.rel ho (ha.1 rfl) (hb.1 rfl)) fun k hk => (inv k hk).2
  · have e2 : (p == 1 && q == 1) = false := by
      cases h : p == 1 && q == 1
      · rfl
      · rw [Bool.and_eq_true] at h; exact absurd ⟨by simpa using h.1, by simpa using h.2⟩ h2
    rw [e2]; exact Fnd.no (by decide) fun k hk => h2 (inv k hk).1
theorem bin_fnd {names : List Rt.Bs} {o : Int} {a b : M.Expr} {p q : Int} (ho : o = 15 ∨ o = 16) (ha : Fnd names a (p, 0)) (hb : Fnd names b (q, 0)) : Fnd names ⟨o, 0, [], [a, b]⟩ (bif p == 0 && q == 0 then (0, 0) else (0, 13)) := by
  have inv : ∀ k, Typ names ⟨o, 0, [], [a, b]⟩ k → (p = 0 ∧ q = 0) ∧ k = 0 := by
    intro k hk
    cases hk with
    | ari h => omega
    | mul => omega
    | div => omega
    | rel h => omega
    | bin _ h1 h2 => exact ⟨⟨(ha.uniq h1).symm, (hb.uniq h2).symm⟩, rfl⟩
  by_cases h2 : p = 0 ∧ q = 0
  · obtain ⟨rfl, rfl⟩ := h2; exact Fnd.yes (Typ.bin ho (ha.1 rfl) (hb.1 rfl)) fun k hk => (inv k hk).2
  · have e2 : (p == 0 && q == 0) = false := by
      cases h : p == 0 && q == 0
      · rfl
      · rw [Bool.and_eq_true] at h; exact absurd ⟨by simpa using h.1, by simpa using h.2⟩ h2
    rw [e2]; exact Fnd.no (by decide) fun k hk => h2 (inv k hk).1
theorem not_fnd {names : List Rt.Bs} {a : M.Expr} {p : Int} (ha : Fnd names a (p, 0)) : Fnd names ⟨14, 0, [], [a]⟩ (bif p == 0 then (0, 0) else (0, 13)) := by
  have inv : ∀ k, Typ names ⟨14, 0, [], [a]⟩ k → p = 0 ∧ k = 0 := by
    intro k hk
    cases hk with
    | not h1 => exact ⟨(ha.uniq h1).symm, rfl⟩
  by_cases h2 : p = 0
  · subst h2; exact Fnd.yes (Typ.not (ha.1 rfl)) fun k hk => (inv k hk).2
  · rw [show (p == 0) = false by simpa using h2]; exact Fnd.no (by decide) fun k hk => h2 (inv k hk).1
theorem nodeok_op {o n : Int} {s : Rt.Bs} (h : nodeok o n s) (h5 : o ≠ 0 ∧ o ≠ 1 ∧ o ≠ 4) : n = 0 ∧ s = [] := by
  unfold nodeok at h
  rw [if_neg h5.1, if_neg (by omega)] at h
  exact h
theorem typed_x {x : M.Expr} (hx : Fit x) (names : List Rt.Bs) (hn : names.length < 4611686018427387904) : Shx x → Tt (Fnd names x) (fun n => tariff_typed n x names) := by
  induction hx with
  | @mk o k s l hl _ ih =>
    intro hs
    obtain ⟨h1, h2, h3, hno, h4⟩ := hs.inv
    rcases types_LX ⟨o, k, s, l⟩ names hl l 0 [] rfl rfl (by simp) (fun y hy => ih y hy (h4 y hy)) with ⟨N, e, he, ⟨y, hy, hyk⟩, hL⟩ | ⟨N, ps, hp, hL⟩
    · refine ⟨(0, e), Ev.suc (fun n => typed_K n _ _) ⟨N + l.length + 1, fun n hn => hL n n _ (by omega) (by omega)⟩, Fnd.no he fun k' hk => ?_⟩
      obtain ⟨p, hp⟩ := hk.args y hy
      exact hyk p hp
    have out : ∀ r : Int × Int, Fnd names ⟨o, k, s, l⟩ r → Ev (fun n => codeK names ⟨o, k, s, l⟩ n ps) r → Tt (Fnd names ⟨o, k, s, l⟩) (fun n => tariff_typed n ⟨o, k, s, l⟩ names) := by
      intro r hty hf
      exact ⟨r, Ev.suc (fun n => typed_K n _ _) (Ev.from (N + l.length + 1) (fun n hn => hL n n _ (by omega) (by omega)) hf), hty⟩
    clear hL ih
    have hc : o = 0 ∨ o = 1 ∨ o = 2 ∨ o = 3 ∨ o = 4 ∨ o = 5 ∨ o = 6 ∨ o = 7 ∨ o = 8 ∨ o = 9 ∨ o = 10 ∨ o = 11 ∨ o = 12 ∨ o = 13 ∨ o = 14 ∨ o = 15 ∨ o = 16 := by omega
    rcases hc with rfl | rfl | rfl | rfl | rfl | rfl | rfl | rfl | rfl | rfl | rfl | rfl | rfl | rfl | rfl | rfl | rfl
    · obtain ⟨h5, rfl, rfl⟩ := hs.leaf
      obtain ⟨_, rfl⟩ := hp.len0 rfl
      exact out (1, 0) (Fnd.yes (Typ.num h5.1 h5.2) fun k hk => by cases hk; rfl) (Ev.all fun n => rfl)
    · obtain ⟨rfl, rfl⟩ := hp.len0 h3
      unfold nodeok at hno
      rw [if_neg (by decide), if_pos (by decide)] at hno
      obtain ⟨rfl, hname⟩ := hno
      refine out (bif !decide (s ∈ names) then (0, 11) else (1, 0)) ?_ ?_
      · by_cases hm : s ∈ names
        · rw [decide_eq_true hm]; exact Fnd.yes (Typ.lifts hname hm) fun k hk => by cases hk; rfl
        · rw [decide_eq_false hm]; exact Fnd.no (by decide) fun k hk => by cases hk; contradiction
      · exact Ev.bind (f := fun n v2 => bif !v2 then some (0, 11) else some (1, 0)) (Contains_ev s hn) (by cases decide (s ∈ names) <;> exact Ev.pure _)
    · obtain ⟨rfl, rfl⟩ := hp.len0 h3
      obtain ⟨rfl, rfl⟩ := nodeok_op hno (by decide)
      exact out (1, 0) (Fnd.yes Typ.pers fun k hk => by cases hk; rfl) (Ev.all fun n => rfl)
    · obtain ⟨rfl, rfl⟩ := hp.len0 h3
      obtain ⟨rfl, rfl⟩ := nodeok_op hno (by decide)
      exact out (1, 0) (Fnd.yes Typ.flats fun k hk => by cases hk; rfl) (Ev.all fun n => rfl)
    · obtain ⟨rfl, rfl⟩ := hp.len0 h3
      unfold nodeok at hno
      rw [if_neg (by decide), if_pos (by decide)] at hno
      obtain ⟨rfl, hname⟩ := hno
      refine out (bif !decide (s ∈ names) then (0, 11) else (2, 0)) ?_ ?_
      · by_cases hm : s ∈ names
        · rw [decide_eq_true hm]; exact Fnd.yes (Typ.wgt hname hm) fun k hk => by cases hk; rfl
        · rw [decide_eq_false hm]; exact Fnd.no (by decide) fun k hk => by cases hk; contradiction
      · exact Ev.bind (f := fun n v2 => bif !v2 then some (0, 11) else some (2, 0)) (Contains_ev s hn) (by cases decide (s ∈ names) <;> exact Ev.pure _)
    · obtain ⟨a, b, p, q, rfl, rfl, ha, hb⟩ := hp.len2 h3
      obtain ⟨rfl, rfl⟩ := nodeok_op hno (by decide)
      exact out _ (ari_fnd (by decide) ha hb) (join_evX p q)
    · obtain ⟨a, b, p, q, rfl, rfl, ha, hb⟩ := hp.len2 h3
      obtain ⟨rfl, rfl⟩ := nodeok_op hno (by decide)
      exact out _ (ari_fnd (by decide) ha hb) (join_evX p q)
    · obtain ⟨a, b, p, q, rfl, rfl, ha, hb⟩ := hp.len2 h3
      obtain ⟨rfl, rfl⟩ := nodeok_op hno (by decide)
      refine out _ (mul_fnd ha hb) ?_
      show Ev (fun n => (bif p == 2 then some (q == 2) else some false).bind fun v9 => bif v9 then some (0, 13) else (tariff_join n p q).bind fun v => some (v.1, v.2)) _
      refine Ev.bind (a := p == 2 && q == 2) (Ev.all fun n => by cases p == 2 <;> rfl) ?_
      cases p == 2 && q == 2
      · exact Ev.else rfl (join_evX p q)
      · exact Ev.then rfl (Ev.pure _)
    · obtain ⟨a, b, p, q, rfl, rfl, ha, hb⟩ := hp.len2 h3
      obtain ⟨rfl, rfl⟩ := nodeok_op hno (by decide)
      refine out _ (div_fnd ha hb (h4 b (by simp))) ?_
      show Ev (fun n => bif b.Op != 0 then some (0, 13) else bif b.N == 0 then some (0, 14) else (tariff_join n p q).bind fun v => some (v.1, v.2)) _
      cases b.Op != 0
      · cases b.N == 0
        · exact Ev.else rfl (Ev.else rfl (join_evX p q))
        · exact Ev.else rfl (Ev.then rfl (Ev.pure _))
      · exact Ev.then rfl (Ev.pure _)
    · obtain ⟨a, b, p, q, rfl, rfl, ha, hb⟩ := hp.len2 h3
      obtain ⟨rfl, rfl⟩ := nodeok_op hno (by decide)
      exact out _ (ari_fnd (by decide) ha hb) (join_evX p q)
    · obtain ⟨a, b, p, q, rfl, rfl, ha, hb⟩ := hp.len2 h3
      obtain ⟨rfl, rfl⟩ := nodeok_op hno (by decide)
      exact out _ (ari_fnd (by decide) ha hb) (join_evX p q)
    · obtain ⟨c, a, b, r, p, q, rfl, rfl, hcc, ha, hb⟩ := hp.len3 h3
      obtain ⟨rfl, rfl⟩ := nodeok_op hno (by decide)
      refine out _ (ite_fnd hcc ha hb) ?_
      show Ev (fun n => bif r != 0 then some (0, 13) else (tariff_join n p q).bind fun v => some (v.1, v.2)) _
      cases r != 0
      · exact Ev.else rfl (join_evX p q)
      · exact Ev.then rfl (Ev.pure _)
    · obtain ⟨a, b, p, q, rfl, rfl, ha, hb⟩ := hp.len2 h3
      obtain ⟨rfl, rfl⟩ := nodeok_op hno (by decide)
      exact out _ (rel_fnd (by decide) ha hb) (all2X p q 1)
    · obtain ⟨a, b, p, q, rfl, rfl, ha, hb⟩ := hp.len2 h3
      obtain ⟨rfl, rfl⟩ := nodeok_op hno (by decide)
      exact out _ (rel_fnd (by decide) ha hb) (all2X p q 1)
    · obtain ⟨a, p, rfl, rfl, ha⟩ := hp.len1 h3
      obtain ⟨rfl, rfl⟩ := nodeok_op hno (by decide)
      exact out _ (not_fnd ha) (all1X p 0)
    · obtain ⟨a, b, p, q, rfl, rfl, ha, hb⟩ := hp.len2 h3
      obtain ⟨rfl, rfl⟩ := nodeok_op hno (by decide)
      exact out _ (bin_fnd (by decide) ha hb) (all2X p q 0)
    · obtain ⟨a, b, p, q, rfl, rfl, ha, hb⟩ := hp.len2 h3
      obtain ⟨rfl, rfl⟩ := nodeok_op hno (by decide)
      exact out _ (bin_fnd (by decide) ha hb) (all2X p q 0)
theorem Typ.uniq {names : List Rt.Bs} (hn : names.length < 4611686018427387904) {x : M.Expr} (hx : Fit x) {j k : Int} (h : Typ names x j) (h2 : Typ names x k) : j = k := by
  obtain ⟨r, _, hr⟩ := typed_x hx names hn h.shx
  have e := (hr.2 j h).symm.trans (hr.2 k h2)
  exact (Prod.mk.inj e).1
end Go.Proofs.YtpihabofmnnbbaaGreatDoor.Tp

namespace Go.Proofs.YtpihabofmnnbbaaGreatDoor.Lx
open Rt M Go
theorem rblank_eq (n : Nat) (c : UInt8) : ref06_Blank n (c.toNat : Int) = some (isBlank c) :=
  of_decide_eq_true (byte_all (p := fun c => decide (ref06_Blank 0 (c.toNat : Int) = some (isBlank c))) (by decide +kernel) c)
theorem rletter_eq (n : Nat) (c : UInt8) : ref06_letter n (c.toNat : Int) = some (isLetter c) :=
  of_decide_eq_true (byte_all (p := fun c => decide (ref06_letter 0 (c.toNat : Int) = some (isLetter c))) (by decide +kernel) c)
theorem rdigit_eq (n : Nat) (c : UInt8) : ref06_digit n (c.toNat : Int) = some (isDigit c) :=
  of_decide_eq_true (byte_all (p := fun c => decide (ref06_digit 0 (c.toNat : Int) = some (isDigit c))) (by decide +kernel) c)
theorem spanN_cons {p : UInt8 → Bool} {c : UInt8} {v : Rt.Bs} (h : spanN p (c :: v) = (c :: v).length) : p c = true ∧ spanN p v = v.length := by
  simp only [spanN, List.length_cons] at h
  cases hp : p c
  · simp [hp] at h
  · simp only [hp, cond_true] at h; exact ⟨rfl, by omega⟩
theorem ssl_one {s r : Rt.Bs} {i : Nat} {c : UInt8} (h : s.drop i = c :: r) : ssl s (i : Int) ((i + 1 : Nat) : Int) = some [c] := by
  have h1 := len_drop h
  rw [ssl_nat _ _ (by omega) (by omega), List.drop_take, h]
  simp
theorem scat_le {a b : Rt.Bs} (h : a.length + b.length ≤ 9223372036854775807) : scat a b = some (a ++ b) := by rw [scat, if_pos h]
theorem value_loop {s : Rt.Bs} (hs : s.length ≤ 1000000) {n : Nat} {b : Bool} :
    ∀ {r : Rt.Bs} {i m : Nat}, s.drop i = r → i ≤ s.length → r.length < m → ref06_Value_L1 n s (some b) m (i : Int) = some (b && decide (spanN isPlain r = r.length))
  | [], i, m + 1, h, hi, _ => by
    have := drop_nil h hi
    rw [ref06_Value_L1_s]
    simp [this, spanN]
  | c :: r, i, m + 1, h, hi, hm => by
    have h1 := len_drop h
    simp only [List.length_cons] at hm
    rw [ref06_Value_L1_s, sidx_drop h, decide_eq_true (by omega)]
    simp only [cond_true, Option.bind_some]
    have e : (bif decide ((c.toNat : Int) < 32) then some true else some (decide (126 < (c.toNat : Int)))) = some (!isPlain c) := by
      by_cases h2 : c.toNat < 32
      · rw [decide_eq_true (by omega)]
        have : isPlain c = false := by simp only [isPlain, decide_eq_false_iff_not]; omega
        rw [this]; rfl
      · rw [decide_eq_false (by omega), cond_false]
        by_cases h3 : 126 < c.toNat
        · rw [decide_eq_true (by omega)]
          have : isPlain c = false := by simp only [isPlain, decide_eq_false_iff_not]; omega
          rw [this]; rfl
        · rw [decide_eq_false (by omega)]
          have : isPlain c = true := by simp only [isPlain, decide_eq_true_eq]; omega
          rw [this]; rfl
    rw [e, Option.bind_some]
    cases hp : isPlain c
    · simp [spanN, hp]
    · rw [Bool.not_true, cond_false, iadd_nat1 _ (by omega), value_loop hs (drop_succ h) (by omega) (by omega)]
      simp [spanN, hp]
theorem value_eq {s : Rt.Bs} (hs : s.length ≤ 1000000) {n : Nat} (hn : s.length < n) : ref06_Value n s = some (decide (s.length ≤ 400) && decide (spanN isPlain s = s.length)) := by
  have h := value_loop hs (n := n) (b := decide ((s.length : Int) ≤ 400)) (r := s) (i := 0) (m := n) rfl (by omega) hn
  rw [ref06_Value]
  refine h.trans ?_
  by_cases h2 : s.length ≤ 400
  · rw [decide_eq_true (show (s.length : Int) ≤ 400 by omega), decide_eq_true h2]
  · rw [decide_eq_false (show ¬ (s.length : Int) ≤ 400 by omega), decide_eq_false h2]
theorem rname_loop {s : Rt.Bs} (hs : s.length ≤ 1000000) {n : Nat} :
    ∀ {r : Rt.Bs} {i m : Nat}, s.drop i = r → i ≤ s.length → r.length < m → ref06_Name_L1 n s (some true) m (i : Int) = some (decide (spanN isInner r = r.length))
  | [], i, m + 1, h, hi, _ => by
    have := drop_nil h hi
    rw [ref06_Name_L1_s]
    simp [this, spanN]
  | c :: r, i, m + 1, h, hi, hm => by
    have h1 := len_drop h
    simp only [List.length_cons] at hm
    have e : (bif (bif !isLetter c then !isDigit c else false) then (c.toNat : Int) != 95 else false) = !isInner c :=
      of_decide_eq_true (byte_all (p := fun c => decide ((bif (bif !isLetter c then !isDigit c else false) then (c.toNat : Int) != 95 else false) = !isInner c)) (by decide +kernel) c)
    have e2 : ((bif !isLetter c then some (!isDigit c) else some false).bind fun v4 => (bif v4 then some ((c.toNat : Int) != 95) else some false)) = some (!isInner c) := by
      rw [← e]
      cases isLetter c <;> cases isDigit c <;> rfl
    rw [ref06_Name_L1_s, sidx_drop h, decide_eq_true (by omega)]
    simp only [cond_true, Option.bind_some, rletter_eq, rdigit_eq]
    rw [← Option.bind_assoc, e2, Option.bind_some]
    cases hp : isInner c
    · simp [spanN, hp]
    · rw [Bool.not_true, cond_false, iadd_nat1 _ (by omega), rname_loop hs (drop_succ h) (by omega) (by omega)]
      simp [spanN, hp]
theorem rname_eq {s : Rt.Bs} (hs : s.length ≤ 1000000) {n : Nat} (hn : s.length < n) : ref06_Name n s = some (name s) := by
  cases hs0 : s with
  | nil => rfl
  | cons c r =>
    have h2 : 1 ≤ s.length := by rw [hs0]; simp
    have h3 : s.drop 0 = c :: r := hs0
    have h4 : s.drop 1 = r := drop_succ h3
    have h5 : s.length = r.length + 1 := by rw [hs0]; simp
    have h6 := sidx_drop h3
    simp only [Int.natCast_zero] at h6
    have h7 := rname_loop hs (n := n) (r := r) (i := 1) (m := n) h4 h2 (by omega)
    rw [← hs0, ref06_Name, decide_eq_false (show ¬ (s.length : Int) < 1 by omega), h6]
    simp only [cond_false, Option.bind_some, rletter_eq]
    have h8 : name s = (isLetter c && (decide (s.length ≤ 20) && decide (spanN isInner r = r.length))) := by
      rw [name, hs0]
      cases hl : isLetter c
      · simp [hl]
      · simp only [List.isEmpty_cons, Bool.not_false, List.headD_cons, hl, Bool.true_and, spanN, letter_inner hl, cond_true, List.length_cons]
        congr 1
        rw [Bool.eq_iff_iff]; simp
    rw [h8]
    by_cases h9 : s.length ≤ 20
    · rw [decide_eq_false (show ¬ (20 : Int) < s.length by omega), decide_eq_true h9]
      simp only [cond_false, Option.bind_some]
      cases isLetter c
      · rfl
      · simp only [Bool.not_true, cond_false, Bool.true_and]; exact h7
    · rw [decide_eq_true (show (20 : Int) < s.length by omega), decide_eq_false h9]
      simp
theorem rnumber_loop {s : Rt.Bs} (hs : s.length ≤ 1000000) {n : Nat} {kont : Int → Option (Int × Bool)} (hk : ∀ a : Nat, maxNumber < a → kont (a : Int) = some (0, false)) :
    ∀ {r : Rt.Bs} {i m a : Nat}, s.drop i = r → i ≤ s.length → r.length < m → ref06_Number_L1 n s kont m (a : Int) (i : Int) = if spanN isDigit r = r.length then kont ((decF a r : Nat) : Int) else some (0, false)
  | [], i, m + 1, a, h, hi, _ => by
    have := drop_nil h hi
    rw [ref06_Number_L1_s]
    simp [this, decF, spanN]
  | c :: r, i, m + 1, a, h, hi, hm => by
    have h1 := len_drop h
    simp only [List.length_cons] at hm
    rw [ref06_Number_L1_s, sidx_drop h, decide_eq_true (by omega)]
    simp only [cond_true, Option.bind_some, rdigit_eq]
    cases hp : isDigit c
    · simp [spanN, hp]
    · simp only [Bool.not_true, cond_false, Option.bind_some]
      by_cases h2 : maxNumber < a
      · have h3 := decF_ge (c :: r) a
        have h4 : a ≤ a * 10 ^ (c :: r).length := Nat.le_mul_of_pos_right _ (Nat.pow_pos (by omega))
        have e8 : decide (1099511627776 < (a : Int)) = true := decide_eq_true (by simp only [maxNumber] at h2; omega)
        rw [e8, cond_true, hk _ (Nat.lt_of_lt_of_le h2 (Nat.le_trans h4 h3))]
        split <;> rfl
      · have h5 := digit_le hp
        have h6 : 48 ≤ c.toNat := by simp only [isDigit, decide_eq_true_eq] at hp; omega
        have h7 : isub .i64 (iadd .i64 (imul .i64 10 (a : Int)) (IntKind.i64.wrap (c.toNat : Int))) 48 = ((10 * a + (c.toNat - 48) : Nat) : Int) := by
          simp only [maxNumber] at h2
          rw [imul, wrap_i64 _ (by omega) (by omega), wrap_i64 (c.toNat : Int) (by omega) (by omega), iadd, wrap_i64 _ (by omega) (by omega), isub, wrap_i64 _ (by omega) (by omega)]
          omega
        rw [decide_eq_false (by simp only [maxNumber] at h2; omega), cond_false, h7, iadd_nat1 _ (by omega), rnumber_loop hs hk (drop_succ h) (by omega) (by omega)]
        simp only [spanN, hp, cond_true, List.length_cons, Nat.add_right_cancel_iff]
        rfl
theorem rnumber_eq {s : Rt.Bs} (hs : s.length ≤ 1000000) {n : Nat} (hn : s.length < n) : ref06_Number n s = some (((number s).1 : Int), (number s).2) := by
  cases hs0 : s with
  | nil =>
    have : 0 < n := by omega
    obtain ⟨k, rfl⟩ : ∃ k, n = k + 1 := ⟨n - 1, by omega⟩
    rfl
  | cons c r =>
    have h2 : 1 ≤ s.length := by rw [hs0]; simp
    have h3 : s.drop 0 = c :: r := hs0
    have h6 := sidx_drop h3
    simp only [Int.natCast_zero] at h6
    have h5 : s.length = r.length + 1 := by rw [hs0]; simp
    rw [← hs0, ref06_Number]
    have e1 : (((c.toNat : Nat) : Int) == 48) = (c == 48) := toNat_inj (d := 48)
    have hk : ∀ a : Nat, (bif decide ((s.length : Int) < 1) then some true else (bif decide (1 < (s.length : Int)) then (sidx s 0).bind fun c1 => some (c1 == 48) else some false).bind fun v3 => some v3).bind (fun v1 =>
        (bif v1 then some true else some (decide (1099511627776 < (a : Int)))).bind fun v2 => bif v2 then some ((0 : Int), false) else some ((a : Int), true)) =
        some (if ((decide (1 < s.length) && c == 48) || decide (maxNumber < a)) = true then ((0 : Int), false) else ((a : Int), true)) := by
      intro a
      have e2 : decide (1099511627776 < (a : Int)) = decide (maxNumber < a) := by
        have e9 : maxNumber = 1099511627776 := rfl
        by_cases h : maxNumber < a
        · rw [decide_eq_true h, decide_eq_true (by omega)]
        · rw [decide_eq_false h, decide_eq_false (by omega)]
      have e3 : decide (1 < (s.length : Int)) = decide (1 < s.length) := by
        rw [Bool.eq_iff_iff]; simp only [decide_eq_true_eq]; omega
      rw [decide_eq_false (show ¬ (s.length : Int) < 1 by omega), h6, e2, e3]
      simp only [cond_false, Option.bind_some, e1]
      cases decide (1 < s.length) <;> cases c == 48 <;> cases decide (maxNumber < a) <;> rfl
    have h7 := rnumber_loop hs (n := n) (kont := fun (nx2 : Int) => (bif decide ((s.length : Int) < 1) then some true else (bif decide (1 < (s.length : Int)) then (sidx s 0).bind fun c1 => some (c1 == 48) else some false).bind fun v3 => some v3).bind (fun v1 =>
        (bif v1 then some true else some (decide (1099511627776 < nx2))).bind fun v2 => bif v2 then some ((0 : Int), false) else some (nx2, true)))
      (fun a ha => by rw [hk, decide_eq_true ha]; simp) (r := s) (i := 0) (m := n) (a := 0) rfl (by omega) hn
    refine h7.trans ?_
    simp only [hk]
    have h8 : s.isEmpty = false := by rw [hs0]; rfl
    have h9 : s.headD 0 = c := by rw [hs0]; rfl
    have h10 : (decide (1 < s.length) && c == 48) = (c == 48 && !(s == [48])) := by
      rw [Bool.eq_iff_iff]
      simp only [Bool.and_eq_true, decide_eq_true_eq, beq_iff_eq, Bool.not_eq_true', beq_eq_false_iff_ne]
      constructor
      · rintro ⟨h, h'⟩; exact ⟨h', fun e => by rw [e] at h; simp at h⟩
      · rintro ⟨h, h'⟩
        refine ⟨?_, h⟩
        rcases Nat.lt_or_ge 1 s.length with h11 | h11
        · exact h11
        · exfalso; apply h'
          have : r = [] := List.length_eq_zero_iff.mp (by omega)
          rw [hs0, h, this]
    rw [number, numberOk, h8, h9, h10]
    by_cases hd : spanN isDigit s = s.length
    · rw [if_pos hd, hd]
      have h11 : decF 0 s = dec s := rfl
      rw [h11]
      cases hz : (c == 48 && !(s == [48]))
      · by_cases h12 : dec s ≤ maxNumber
        · have h13 : s.length ≤ 13 := by
            rcases Nat.lt_or_ge 13 s.length with h14 | h14
            · exfalso
              obtain ⟨hp, _⟩ := spanN_cons (hs0 ▸ hd)
              have h15 : dec s = decF (c.toNat - 48) r := by
                rw [hs0]; show decF (10 * 0 + (c.toNat - 48)) r = _; simp
              have h16 := decF_ge r (c.toNat - 48)
              have h17 : 1 ≤ c.toNat - 48 := by
                have h18 : c ≠ 48 := by
                  intro e
                  rw [e] at hz
                  have : (s == [48]) = true := by simpa using hz
                  have := eq_of_beq this
                  rw [this] at h14; simp at h14
                have h19 : c.toNat ≠ 48 := fun e => h18 (UInt8.toNat_inj.mp e)
                simp only [isDigit, decide_eq_true_eq] at hp; omega
              have h20 : 10 ^ 13 ≤ 10 ^ r.length := Nat.pow_le_pow_right (by omega) (by omega)
              have h21 : 10 ^ r.length ≤ (c.toNat - 48) * 10 ^ r.length := Nat.le_mul_of_pos_left _ (by omega)
              simp only [maxNumber] at h12
              omega
            · omega
          have e5 : decide (maxNumber < dec s) = false := by simp; omega
          simp [h12, h13, e5]
        · have e5 : decide (maxNumber < dec s) = true := by simp; omega
          simp [h12, e5]
      · simp
    · rw [if_neg hd]
      have : (spanN isDigit s == s.length) = false := by simp [hd]
      simp [this]
def rq : Rt.Bs → Rt.Bs → Nat → Option (Rt.Bs × Nat)
  | [], _, _ => none
  | c :: r, acc, n =>
    if c.toNat = 34 then some (acc, n)
    else if c.toNat = 92 then
      match r with
      | [] => none
      | d :: r' => if d.toNat = 34 ∨ d.toNat = 92 then rq r' (acc ++ [d]) (n + 2) else none
    else rq r (acc ++ [c]) (n + 1)
theorem rq_cons (c : UInt8) (r acc : Rt.Bs) (n : Nat) : rq (c :: r) acc n = if c.toNat = 34 then some (acc, n)
    else if c.toNat = 92 then
      match r with
      | [] => none
      | d :: r' => if d.toNat = 34 ∨ d.toNat = 92 then rq r' (acc ++ [d]) (n + 2) else none
    else rq r (acc ++ [c]) (n + 1) := by
  cases r <;> simp only [rq]
theorem all_plain {l : Rt.Bs} : (spanN isPlain l = l.length) ↔ l.all isPlain = true := by
  induction l with
  | nil => simp [spanN]
  | cons c l ih =>
    simp only [spanN, List.length_cons, List.all_cons, Bool.and_eq_true]
    cases hp : isPlain c
    · simp
    · simp [ih]
theorem rq_bad : ∀ {r acc v : Rt.Bs} {n k : Nat}, rq r acc n = some (v, k) → acc.all isPlain = false → v.all isPlain = false
  | [], _, _, _, _, h, _ => by simp [rq] at h
  | c :: r, acc, v, n, k, h, ha => by
    rw [rq_cons] at h
    split at h
    · cases h; exact ha
    split at h
    · cases r with
      | nil => cases h
      | cons d r' =>
        simp only at h
        split at h
        · exact rq_bad h (by simp only [List.all_append, ha, Bool.false_and])
        · cases h
    · exact rq_bad h (by simp only [List.all_append, ha, Bool.false_and])
theorem qloop_rq : ∀ (r acc : Rt.Bs) (n : Nat), acc.all isPlain = true → qloop r acc n = match rq r acc n with
    | none => none
    | some (v, k) => if v.all isPlain = true then some (v, k) else none
  | [], _, _, _ => by simp [qloop, rq]
  | c :: r, acc, n, ha => by
    rw [qloop_cons, rq_cons]
    cases hp : isPlain c
    · have h34 : ¬ c.toNat = 34 := fun e => by simp [isPlain, e] at hp
      have h92 : ¬ c.toNat = 92 := fun e => by simp [isPlain, e] at hp
      rw [if_pos rfl, if_neg h34, if_neg h92]
      cases hr : rq r (acc ++ [c]) (n + 1) with
      | none => rfl
      | some x =>
        obtain ⟨v, k⟩ := x
        have := rq_bad hr (by simp only [List.all_append, List.all_cons, hp, Bool.false_and, Bool.and_false])
        simp [this]
    · rw [if_neg (by simp)]
      by_cases h34 : c.toNat = 34
      · rw [if_pos h34, if_pos h34]; simp [ha]
      rw [if_neg h34, if_neg h34]
      by_cases h92 : c.toNat = 92
      · rw [if_pos h92, if_pos h92]
        cases r with
        | nil => rfl
        | cons d r' =>
          simp only
          by_cases hd : d.toNat = 34 ∨ d.toNat = 92
          · have hpd : isPlain d = true := by simp only [isPlain, decide_eq_true_eq]; omega
            rw [if_pos hd, if_pos hd]
            exact qloop_rq r' _ _ (by simp only [List.all_append, ha, List.all_cons, hpd, List.all_nil, Bool.and_true])
          · rw [if_neg hd, if_neg hd]
      · rw [if_neg h92, if_neg h92]
        exact qloop_rq r _ _ (by simp only [List.all_append, ha, List.all_cons, hp, List.all_nil, Bool.and_true])
theorem rquoted_loop {s : Rt.Bs} (hs : s.length ≤ 1000000) {n : Nat} {kont : Rt.Bs → Int → Option (Rt.Bs × Int × Bool)} (hk : ∀ v, v.length ≤ 1000000 → kont v (s.length : Int) = some ([], 0, false)) (b : Nat) :
    ∀ {m : Nat} {r acc : Rt.Bs} {i : Nat}, s.drop i = r → i ≤ s.length → acc.length ≤ i → b ≤ i → r.length < m →
      ref06_quoted_L1 n s kont m acc (i : Int) = match rq r acc (i - b) with
        | none => some ([], 0, false)
        | some (v, k) => kont v ((k + b : Nat) : Int)
  | m + 1, [], acc, i, h, hi, ha, _, _ => by
    have := drop_nil h hi
    rw [ref06_quoted_L1_s, decide_eq_false (by omega)]
    simp only [cond_false, Option.bind_some, rq]
    rw [this, hk _ (by omega)]
  | m + 1, c :: r, acc, i, h, hi, ha, hb, hm => by
    have h1 := len_drop h
    simp only [List.length_cons] at hm
    rw [ref06_quoted_L1_s, sidx_drop h, decide_eq_true (by omega), rq_cons]
    simp only [cond_true, Option.bind_some]
    by_cases h34 : c.toNat = 34
    · have e34' : ((c.toNat : Int) != 34) = false := by rw [h34]; rfl
      rw [e34', if_pos h34, cond_false]
      simp only
      rw [show i - b + b = i by omega]
    have e34 : ((c.toNat : Int) != 34) = true := by simp; omega
    rw [e34, if_neg h34, cond_true]
    by_cases h92 : c.toNat = 92
    · have e : ((c.toNat : Int) == 92) = true := by rw [h92]; rfl
      rw [e, if_pos h92, iadd_nat1 _ (by omega), cond_true]
      cases r with
      | nil =>
        rw [decide_eq_true (by simp at h1; omega)]
        rfl
      | cons d r' =>
        have h' := drop_succ h
        have h1' := len_drop h'
        simp only [List.length_cons] at hm
        rw [decide_eq_false (by omega), sidx_drop h']
        simp only [cond_false, Option.bind_some]
        by_cases hd : d.toNat = 34 ∨ d.toNat = 92
        · have e2 : (bif (d.toNat : Int) != 34 then some ((d.toNat : Int) != 92) else some false) = some false := by
            rcases hd with hd | hd <;> rw [hd] <;> rfl
          rw [e2, if_pos hd]
          simp only [Option.bind_some, cond_false]
          rw [iadd_nat1 _ (by omega), ssl_one h', Option.bind_some, scat_le (by simp; omega), Option.bind_some, rquoted_loop hs hk b (drop_succ h') (by omega) (by simp; omega) (by omega) (by omega),
            show i + 1 + 1 - b = i - b + 2 by omega]
        · have e2 : (bif (d.toNat : Int) != 34 then some ((d.toNat : Int) != 92) else some false) = some true := by
            have : ((d.toNat : Int) != 34) = true := by simp; omega
            rw [this, cond_true]
            have : ((d.toNat : Int) != 92) = true := by simp; omega
            rw [this]
          rw [e2, if_neg hd]; rfl
    · have e : ((c.toNat : Int) == 92) = false := by rw [beq_eq_false_iff_ne]; omega
      rw [e, cond_false, if_neg h92, iadd_nat1 _ (by omega), ssl_one h, Option.bind_some, scat_le (by simp; omega), Option.bind_some, rquoted_loop hs hk b (drop_succ h) (by omega) (by simp; omega) (by omega) (by omega),
        show i + 1 - b = i - b + 1 by omega]
theorem rq_lt : ∀ {r acc v : Rt.Bs} {i k : Nat}, rq r acc i = some (v, k) → k < i + r.length ∧ v.length + i ≤ acc.length + k
  | [], _, _, _, _, h => by simp [rq] at h
  | c :: r, acc, v, i, k, h => by
    rw [rq_cons] at h
    split at h
    · cases h; simp
    split at h
    · cases r with
      | nil => cases h
      | cons d r' =>
        simp only at h
        split at h
        · have := rq_lt h; simp only [List.length_append, List.length_cons, List.length_nil] at *; omega
        · cases h
    · have := rq_lt h; simp only [List.length_append, List.length_cons, List.length_nil] at *; omega
theorem rquoted_eq {s x : Rt.Bs} {at_ : Nat} (hx : s.drop at_ = x) (h0 : x ≠ []) (hs : s.length ≤ 1000000) {n : Nat} (hn : s.length < n) :
    ref06_quoted n s (at_ : Int) = some (if (quoted x).2 = 0 then ([], 0, false) else ((quoted x).1, ((at_ + (quoted x).2 : Nat) : Int), true)) := by
  have hlen : at_ + x.length = s.length := by
    have := congrArg List.length hx
    have h1 : 1 ≤ x.length := by cases x; exact absurd rfl h0; simp
    simp only [List.length_drop] at this; omega
  have h1 : 1 ≤ x.length := by cases x; exact absurd rfl h0; simp
  have hk : ∀ (v : Rt.Bs) (i : Nat), v.length ≤ 1000000 → i ≤ s.length → (bif decide ((s.length : Int) ≤ (i : Int)) then some true else (ref06_Value n v).bind fun v2 => some (!v2)).bind (fun v1 => bif v1 then some (([] : Rt.Bs), (0 : Int), false) else some (v, iadd .i64 (i : Int) 1, true)) =
      some (if i < s.length ∧ v.length < n ∧ v.length ≤ 400 ∧ v.all isPlain = true then (v, ((i + 1 : Nat) : Int), true) else ([], 0, false)) ∨ n ≤ v.length := by
    intro v i hv hi
    by_cases hvn : v.length < n
    · left
      by_cases h : i < s.length
      · rw [decide_eq_false (by omega), cond_false, value_eq hv hvn, Option.bind_some, Option.bind_some, iadd_nat1 _ (by omega)]
        by_cases h2 : v.length ≤ 400 <;> by_cases h3 : v.all isPlain = true
        · simp [h, h2, hvn, all_plain.mpr h3, h3]
        · have : ¬ spanN isPlain v = v.length := fun e => h3 (all_plain.mp e)
          rw [if_neg (fun e => h3 e.2.2.2)]; simp [this]
        · rw [if_neg (fun e => h2 e.2.2.1)]; simp [h2]
        · rw [if_neg (fun e => h2 e.2.2.1)]; simp [h2]
      · rw [decide_eq_true (by omega), if_neg (fun e => h e.1)]; rfl
    · right; omega
  have hl := rquoted_loop hs (n := n) (kont := fun (value2 : Rt.Bs) (i2 : Int) => (bif decide ((s.length : Int) ≤ i2) then some true else (ref06_Value n value2).bind fun v2 => some (!v2)).bind (fun v1 => bif v1 then some (([] : Rt.Bs), (0 : Int), false) else some (value2, iadd .i64 i2 1, true)))
    (fun v hv => by rw [decide_eq_true (by omega)]; rfl) at_ (m := n) (r := x.drop 1) (acc := []) (i := at_ + 1) (by rw [← List.drop_drop, hx]) (by omega) (by simp) (by omega) (by simp; omega)
  rw [ref06_quoted, iadd_nat1 _ (by omega)]
  refine hl.trans ?_
  rw [quoted, show at_ + 1 - at_ = 1 by omega, qloop_rq _ _ _ rfl]
  cases hr : rq (x.drop 1) [] 1 with
  | none => rfl
  | some y =>
    obtain ⟨v, k⟩ := y
    have h2 := rq_lt hr
    simp only [List.length_drop, List.length_nil] at h2
    rcases hk v (k + at_) (by omega) (by omega) with h3 | h3
    · simp only
      rw [h3]
      by_cases h4 : v.all isPlain = true
      · simp only [h4, if_true]
        by_cases h5 : v.length > 400
        · rw [if_pos h5, if_neg (by omega)]; simp
        · rw [if_neg h5, if_pos ⟨by omega, by omega, by omega, trivial⟩]
          simp; omega
      · rw [if_neg h4, if_neg (fun e => h4 e.2.2.2)]; simp
    · omega
theorem gap_ne {r : Rt.Bs} (h : gapN false r ≠ r.length) : r.drop (gapN false r) ≠ [] := by
  intro e
  have := congrArg List.length e
  have h2 := gapN_le false r
  simp only [List.length_drop, List.length_nil] at this; omega
theorem rspan1 {s : Rt.Bs} (hs : s.length ≤ 1000000) {n : Nat} {kont : Int → Option (Token × Int × Int)} :
    ∀ {r : Rt.Bs} {i m : Nat}, s.drop i = r → i ≤ s.length → r.length < m → ref06_token_L1 n s kont m (i : Int) = kont ((i + spanN isInner r : Nat) : Int)
  | [], i, m + 1, h, hi, _ => by
    have := drop_nil h hi
    rw [ref06_token_L1_s]
    simp [this, spanN]
  | c :: r, i, m + 1, h, hi, hm => by
    have h1 := len_drop h
    simp only [List.length_cons] at hm
    have e : (bif (bif isLetter c then true else isDigit c) then true else (c.toNat : Int) == 95) = isInner c :=
      of_decide_eq_true (byte_all (p := fun c => decide ((bif (bif isLetter c then true else isDigit c) then true else (c.toNat : Int) == 95) = isInner c)) (by decide +kernel) c)
    have e2 : ((bif isLetter c then some true else some (isDigit c)).bind fun v5 => (bif v5 then some true else some ((c.toNat : Int) == 95))) = some (isInner c) := by
      rw [← e]
      cases isLetter c <;> cases isDigit c <;> rfl
    rw [ref06_token_L1_s, sidx_drop h, decide_eq_true (by omega)]
    simp only [cond_true, Option.bind_some, rletter_eq, rdigit_eq]
    have e3 : ((bif isLetter c then some true else some (isDigit c)).bind fun v5 => (bif v5 then some true else some ((c.toNat : Int) == 95)).bind fun v6 => some v6) = some (isInner c) := by
      rw [← e2]
      cases isLetter c <;> cases isDigit c <;> rfl
    rw [e3, Option.bind_some]
    cases hp : isInner c
    · simp [spanN, hp]
    · rw [cond_true, iadd_nat1 _ (by omega), rspan1 hs (drop_succ h) (by omega) (by omega)]
      simp only [spanN, hp, cond_true]
      congr 2; omega
theorem rspan2 {s : Rt.Bs} (hs : s.length ≤ 1000000) {n : Nat} {kont : Int → Option (Token × Int × Int)} :
    ∀ {r : Rt.Bs} {i m : Nat}, s.drop i = r → i ≤ s.length → r.length < m → ref06_token_L2 n s kont m (i : Int) = kont ((i + spanN isDigit r : Nat) : Int)
  | [], i, m + 1, h, hi, _ => by
    have := drop_nil h hi
    rw [ref06_token_L2_s]
    simp [this, spanN]
  | c :: r, i, m + 1, h, hi, hm => by
    have h1 := len_drop h
    simp only [List.length_cons] at hm
    rw [ref06_token_L2_s, sidx_drop h, decide_eq_true (by omega)]
    simp only [cond_true, Option.bind_some, rdigit_eq]
    cases hp : isDigit c
    · simp [spanN, hp]
    · rw [cond_true, iadd_nat1 _ (by omega), rspan2 hs (drop_succ h) (by omega) (by omega)]
      simp only [spanN, hp, cond_true]
      congr 2; omega
theorem rsign_loop (n : Nat) (c : UInt8) :
    ∀ {r : Rt.Bs} {i m : Nat}, signs.drop i = r → i ≤ 13 → r.length < m → ref06_sign_L1 n (c.toNat : Int) (some false) m (i : Int) = some (r.contains c)
  | [], i, m + 1, h, hi, _ => by
    have := congrArg List.length h
    simp only [signs, List.length_drop, List.length_cons, List.length_nil] at this
    have : i = 13 := by omega
    subst this
    rw [ref06_sign_L1_s]; rfl
  | d :: r, i, m + 1, h, hi, hm => by
    have h1 := congrArg List.length h
    simp only [signs, List.length_drop, List.length_cons, List.length_nil] at h1 hm
    have h2 : sidx [40, 41, 44, 59, 58, 61, 60, 43, 45, 42, 47, 123, 125] (i : Int) = some (d.toNat : Int) := sidx_drop (s := signs) h
    rw [ref06_sign_L1_s, decide_eq_true (by simp only [List.length_cons, List.length_nil]; omega), cond_true, h2, Option.bind_some, toNat_inj, List.contains_cons, Bool.beq_comm (a := d) (b := c)]
    cases e : (c == d)
    · rw [cond_false, iadd_nat1 _ (by omega), rsign_loop n c (r := r) (by rw [← List.drop_drop, h]; rfl) (by omega) (by omega), Bool.false_or]
    · rfl
theorem rsign_eq {n : Nat} (hn : 13 < n) (c : UInt8) : ref06_sign n (c.toNat : Int) = some (isSign c) :=
  rsign_loop n c (r := signs) (i := 0) rfl (by omega) (by simpa [signs] using hn)
def rtok (x : Rt.Bs) (at_ : Nat) : Token × Int × Int :=
  if (next x).2.2 = 0 then ({ (next x).1 with Pos := (at_ : Int) }, ((at_ + (next x).2.1 : Nat) : Int), 0) else (errT, 0, (next x).2.2)
theorem token_eq {s x : Rt.Bs} {at_ : Nat} (hx : s.drop at_ = x) (h0 : x ≠ []) (hs : s.length ≤ 1000000) {n : Nat} (hn : s.length + 13 < n) : ref06_token n s (at_ : Int) = some (rtok x at_) := by
  obtain ⟨c, r, rfl⟩ : ∃ c r, x = c :: r := by
    cases x with
    | nil => exact absurd rfl h0
    | cons c r => exact ⟨c, r, rfl⟩
  have h1 := len_drop hx
  have hr := drop_succ hx
  have hi := spanN_le isInner r
  have hd := spanN_le isDigit r
  simp only [ref06_token, sidx_drop hx, Option.bind_some, rletter_eq, rdigit_eq]
  have hsub : ∀ k, k ≤ r.length → ssl s (at_ : Int) ((at_ + 1 + k : Nat) : Int) = some ((c :: r).take (k + 1)) := by
    intro k hk
    rw [ssl_nat _ _ (by omega) (by omega), List.drop_take, hx, show at_ + 1 + k - at_ = k + 1 by omega]
  rw [rtok]
  by_cases hl : isLetter c = true
  · have h2 : spanN isInner (c :: r) = spanN isInner r + 1 := by simp only [spanN, letter_inner hl, cond_true]
    have hN : next (c :: r) = if name ((c :: r).take (spanN isInner (c :: r))) then (⟨0, (c :: r).take (spanN isInner (c :: r)), 0, 0⟩, spanN isInner (c :: r), 0) else (errT, 0, 3) := by rw [next, if_pos (by simpa using hl)]
    rw [hN, hl, cond_true, iadd_nat1 _ (by omega), rspan1 hs hr (by omega) (by omega), hsub _ hi, Option.bind_some, rname_eq (by simp only [List.length_take, List.length_cons]; omega) (by simp only [List.length_take, List.length_cons]; omega), Option.bind_some, h2]
    cases hn : name ((c :: r).take (spanN isInner r + 1))
    · rfl
    · simp only [Bool.not_true, cond_false, Option.bind_some, if_true]
      rw [show at_ + 1 + spanN isInner r = at_ + (spanN isInner r + 1) by omega]
  have hl' : isLetter c = false := by simpa using hl
  rw [hl', cond_false]
  by_cases hdd : isDigit c = true
  · have h2 : spanN isDigit (c :: r) = spanN isDigit r + 1 := by simp only [spanN, hdd, cond_true]
    have hN : next (c :: r) = if (number ((c :: r).take (spanN isDigit (c :: r)))).2 then (⟨1, (c :: r).take (spanN isDigit (c :: r)), (number ((c :: r).take (spanN isDigit (c :: r)))).1, 0⟩, spanN isDigit (c :: r), 0) else (errT, 0, 3) := by
      rw [next, if_neg (by simpa using hl), if_pos (by simpa using hdd)]
    rw [hN, hdd, cond_true, iadd_nat1 _ (by omega), rspan2 hs hr (by omega) (by omega), hsub _ hd, Option.bind_some, rnumber_eq (by simp only [List.length_take, List.length_cons]; omega) (by simp only [List.length_take, List.length_cons]; omega), Option.bind_some, h2]
    cases hn : (number ((c :: r).take (spanN isDigit r + 1))).2
    · rfl
    · simp only [Bool.not_true, cond_false, Option.bind_some, if_true]
      rw [show at_ + 1 + spanN isDigit r = at_ + (spanN isDigit r + 1) by omega]
  have hdd' : isDigit c = false := by simpa using hdd
  rw [hdd', cond_false]
  by_cases hq : c.toNat = 34
  · have e : ((c.toNat : Int) == 34) = true := by rw [hq]; rfl
    have hN : next (c :: r) = if (quoted (c :: r)).2 = 0 then (errT, 0, 2) else (⟨2, (quoted (c :: r)).1, 0, 0⟩, (quoted (c :: r)).2, 0) := by
      rw [next, if_neg (by simpa using hl), if_neg (by simpa using hdd), if_pos (by simpa using hq)]
    rw [hN, e, cond_true, rquoted_eq hx h0 hs (by omega), Option.bind_some]
    by_cases hz : (quoted (c :: r)).2 = 0
    · rw [if_pos hz, if_pos hz]; rfl
    · rw [if_neg hz, if_neg hz]; rfl
  have e : ((c.toNat : Int) == 34) = false := by rw [beq_eq_false_iff_ne]; omega
  have hN : next (c :: r) = if isSign c then (⟨3, (c :: r).take 1, 0, 0⟩, 1, 0) else (errT, 0, 10) := by
    rw [next, if_neg (by simpa using hl), if_neg (by simpa using hdd), if_neg (by simpa using hq)]; rfl
  rw [hN, e, cond_false, rsign_eq (by omega), Option.bind_some]
  cases hsg : isSign c
  · rfl
  · have := hsub 0 (by omega)
    simp only [Nat.add_zero, Nat.zero_add] at this
    rw [Bool.not_true, cond_false, iadd_nat1 _ (by omega), this]; rfl
theorem gap_idem : ∀ (b : Bool) (r : Rt.Bs), gapN false (r.drop (gapN b r)) = 0
  | _, [] => by simp [gapN]
  | true, c :: r => by
    simp only [gapN]
    split
    · exact gap_idem false r
    · exact gap_idem true r
  | false, c :: r => by
    simp only [gapN]
    split
    · exact gap_idem false r
    · rename_i h1
      split
      · exact gap_idem true r
      · rename_i h2
        simp only [List.drop_zero, gapN, h1, h2, if_false]
        simp
theorem scanF_fuel : ∀ {f f' : Nat} {r : Rt.Bs} {a : Nat}, r.length < f → r.length < f' → scanF f r a = scanF f' r a
  | f + 1, f' + 1, r, a, h, h' => by
    by_cases h1 : gapN false r = r.length
    · rw [scanF_end h1, scanF_end h1]
    have h4 := gapN_le false r
    by_cases h2 : (next (r.drop (gapN false r))).2.2 = 0
    · have h3 := next_len (gap_ne h1) h2
      rw [scanF_more h1 h2, scanF_more h1 h2, scanF_fuel (f := f) (f' := f') (by simp only [List.length_drop]; omega) (by simp only [List.length_drop]; omega)]
    · rw [scanF_bad h1 h2, scanF_bad h1 h2]
theorem scanF_skip {f : Nat} {r : Rt.Bs} {a : Nat} (h : r.length < f) : scanF f r a = scanF f (r.drop (gapN false r)) (a + gapN false r) := by
  obtain ⟨f, rfl⟩ : ∃ k, f = k + 1 := ⟨f - 1, by omega⟩
  have h4 := gapN_le false r
  have hz := gap_idem false r
  by_cases h1 : gapN false r = r.length
  · rw [scanF_end h1, scanF_end (by rw [hz, List.length_drop]; omega)]
  have h1' : gapN false (r.drop (gapN false r)) ≠ (r.drop (gapN false r)).length := by rw [hz, List.length_drop]; omega
  by_cases h2 : (next (r.drop (gapN false r))).2.2 = 0
  · rw [scanF_more h1 h2, scanF_more h1' (by rw [hz, List.drop_zero]; exact h2), hz, List.drop_zero, Nat.zero_add, List.drop_drop, Nat.add_zero]
  · rw [scanF_bad h1 h2, scanF_bad h1' (by rw [hz, List.drop_zero]; exact h2), hz, List.drop_zero, Nat.add_zero]
def rest (b : Bool) (r : Rt.Bs) (a : Nat) : List Token × Nat × Int := scanF (r.length + 1) (r.drop (gapN b r)) (a + gapN b r)
theorem rest_false (r : Rt.Bs) (a : Nat) : rest false r a = scanF (r.length + 1) r a := (scanF_skip (by omega)).symm
def outc (acc : List Token) (x : List Token × Nat × Int) : List Token × Int × Int := if x.2.2 = 0 then (acc ++ x.1, 0, 0) else ([], (x.2.1 : Int), x.2.2)
theorem rest_step {b b' : Bool} {c : UInt8} {r : Rt.Bs} {a : Nat} (h : gapN b (c :: r) = gapN b' r + 1) : rest b (c :: r) a = rest b' r (a + 1) := by
  have h4 := gapN_le b' r
  rw [rest, rest, h, List.drop_succ_cons, List.length_cons, show a + (gapN b' r + 1) = a + 1 + gapN b' r by omega]
  exact scanF_fuel (by simp only [List.length_drop]; omega) (by simp only [List.length_drop]; omega)
theorem rscan_loop {s : Rt.Bs} (hs : s.length ≤ 1000000) {n : Nat} (hn : s.length + 13 < n) :
    ∀ {m at_ : Nat} {b : Bool} {r : Rt.Bs} {acc : List Token}, s.drop at_ = r → at_ ≤ s.length → acc.length ≤ at_ → 2 * r.length + (if b then 0 else 1) < m →
      ref06_Scan_L1 n s (fun l2 => some (l2, 0, 0)) m (at_ : Int) b acc = some (outc acc (rest b r at_))
  | m + 1, at_, b, [], acc, h, hi, ha, hm => by
    have := drop_nil h hi
    rw [ref06_Scan_L1_s, decide_eq_false (by omega), cond_false, rest]
    cases b <;> simp [gapN, scanF, outc]
  | m + 1, at_, b, c :: r, acc, h, hi, ha, hm => by
    have h1 := len_drop h
    simp only [List.length_cons] at hm
    rw [ref06_Scan_L1_s, decide_eq_true (by omega), cond_true, sidx_drop h]
    simp only [Option.bind_some, rblank_eq]
    by_cases h10 : c.toNat = 10
    · have hc : c = 10 := UInt8.toNat_inj.mp h10
      have e : ((c.toNat : Int) == 10) = true := by rw [h10]; rfl
      have eb : isBlank c = true := by rw [hc]; decide
      have hg : gapN b (c :: r) = gapN false r + 1 := by cases b <;> simp [gapN, h10, eb]
      rw [e, eb, cond_true, Option.bind_some, cond_false, Option.bind_some, cond_true, iadd_nat1 _ (by omega), rscan_loop hs hn (drop_succ h) (by omega) (by omega) (by simp; split at hm <;> omega), rest_step hg]
    have e : ((c.toNat : Int) == 10) = false := by rw [beq_eq_false_iff_ne]; omega
    rw [e, cond_false, Option.bind_some]
    cases b
    · simp only [cond_false, Option.bind_some]
      cases eb : isBlank c
      · rw [cond_false]
        by_cases h35 : c.toNat = 35
        · have e5 : ((c.toNat : Int) == 35) = true := by rw [h35]; rfl
          have hg : gapN false (c :: r) = gapN true (c :: r) := by simp [gapN, eb, h35]
          rw [e5, cond_true, rscan_loop hs hn h hi ha (by simp at hm ⊢; omega), rest, rest, hg]
        · have e5 : ((c.toNat : Int) == 35) = false := by rw [beq_eq_false_iff_ne]; omega
          have hg : gapN false (c :: r) = 0 := by simp [gapN, eb, h35]
          have hne : gapN false (c :: r) ≠ (c :: r).length := by rw [hg]; simp
          rw [e5, cond_false, token_eq h (by simp) hs hn, Option.bind_some, rest_false, List.length_cons]
          by_cases hx : (next (c :: r)).2.2 = 0
          · have h3 := next_len (l := c :: r) (by simp) hx
            simp only [List.length_cons] at h3
            rw [rtok, if_pos hx]
            simp only [bne_self_eq_false, cond_false]
            have h5 : ((acc.length + [(⟨(next (c :: r)).1.Kind, (next (c :: r)).1.Text, (next (c :: r)).1.N, (at_ : Int)⟩ : Token)].length) * 40) ≤ 140737488355328 := by
              simp only [List.length_cons, List.length_nil]; omega
            rw [app, if_pos h5, Option.bind_some, rscan_loop hs hn (r := (c :: r).drop (next (c :: r)).2.1) (by rw [← List.drop_drop, h]) (by omega) (by simp only [List.length_append, List.length_cons, List.length_nil]; omega)
              (by simp only [List.length_drop, List.length_cons]; simp at hm ⊢; omega), rest_false]
            rw [scanF_more hne (by rw [hg]; exact hx), hg, List.drop_zero, Nat.zero_add, Nat.add_zero,
              scanF_fuel (f := ((c :: r).drop (next (c :: r)).2.1).length + 1) (f' := r.length + 1) (by omega) (by simp only [List.length_drop, List.length_cons]; omega)]
            by_cases hy : (scanF (r.length + 1) ((c :: r).drop (next (c :: r)).2.1) (at_ + (next (c :: r)).2.1)).2.2 = 0
            · simp [outc, hy]
            · simp [outc, hy]
          · rw [rtok, if_neg hx, scanF_bad hne (by rw [hg]; exact hx), hg, List.drop_zero, Nat.add_zero]
            have e2 : ((next (c :: r)).2.2 != 0) = true := bne_iff_ne.mpr hx
            simp only [e2, cond_true, outc]
            rw [if_neg hx]
      · have hg : gapN false (c :: r) = gapN false r + 1 := by simp [gapN, eb]
        rw [cond_true, iadd_nat1 _ (by omega), rscan_loop hs hn (drop_succ h) (by omega) (by omega) (by simp at hm ⊢; omega), rest_step hg]
    · have hg : gapN true (c :: r) = gapN true r + 1 := by simp [gapN, h10]
      simp only [cond_true, Option.bind_some]
      rw [iadd_nat1 _ (by omega), rscan_loop hs hn (drop_succ h) (by omega) (by omega) (by simp at hm ⊢; omega), rest_step hg]
theorem rscan_eq {s : Rt.Bs} (hs : s.length ≤ 1000000) {n : Nat} (hn : 2 * s.length + 13 < n) : ref06_Scan n s = some ((scan s).1, ((scan s).2.1 : Int), (scan s).2.2) := by
  have he := scan_eq hs (n := n) (by omega)
  rw [← he, ref06_Scan, lexer_Scan]
  by_cases h : s.length > 4000
  · rw [decide_eq_true (by omega)]; rfl
  · have h1 := rscan_loop hs (n := n) (by omega) (m := n) (at_ := 0) (b := false) (r := s) (acc := []) rfl (by omega) (by simp) (by simp; omega)
    have h2 := scan_loop hs (n := n) (by omega) (m := n) (f := s.length + 1) (at_ := 0) (r := s) (acc := []) rfl (by omega) (by simp) (by omega) (by omega)
    rw [decide_eq_false (by omega), cond_false, cond_false]
    refine h1.trans (Eq.trans ?_ h2.symm)
    rw [rest_false]; rfl
end Go.Proofs.YtpihabofmnnbbaaGreatDoor.Lx

namespace Go.Proofs.YtpihabofmnnbbaaGreatDoor.Ta
open Go Rt M
def T2 {α β : Type} (Q : α → β → Prop) (f : Nat → Option α) (g : Nat → Option β) : Prop := ∃ a b, Ev f a ∧ Ev g b ∧ Q a b
section
variable {α β γ δ : Type} {P : α → β → Prop} {Q : γ → δ → Prop}
theorem T2.pure {a : γ} {b : δ} (h : Q a b) : T2 Q (fun _ => some a) (fun _ => some b) := ⟨a, b, Ev.pure a, Ev.pure b, h⟩
theorem T2.bind {x : Nat → Option α} {y : Nat → Option β} {f : Nat → α → Option γ} {g : Nat → β → Option δ} (h : T2 P x y) (k : ∀ a b, P a b → T2 Q (fun n => f n a) (fun n => g n b)) : T2 Q (fun n => (x n).bind (f n)) (fun n => (y n).bind (g n)) := by
  obtain ⟨a, b, h1, h2, h3⟩ := h
  obtain ⟨c, d, h4, h5, h6⟩ := k a b h3
  exact ⟨c, d, Ev.bind h1 h4, Ev.bind h2 h5, h6⟩
theorem T2.l {x : Nat → Option α} {a : α} {f : Nat → α → Option γ} {g : Nat → Option δ} (h : Ev x a) (k : T2 Q (fun n => f n a) g) : T2 Q (fun n => (x n).bind (f n)) g := by
  obtain ⟨c, d, h4, h5, h6⟩ := k
  exact ⟨c, d, Ev.bind h h4, h5, h6⟩
theorem T2.r {y : Nat → Option β} {b : β} {f : Nat → Option γ} {g : Nat → β → Option δ} (h : Ev y b) (k : T2 Q f (fun n => g n b)) : T2 Q f (fun n => (y n).bind (g n)) := by
  obtain ⟨c, d, h4, h5, h6⟩ := k
  exact ⟨c, d, h4, Ev.bind h h5, h6⟩
theorem T2.bif {c : Bool} {x x' : Nat → Option γ} {y y' : Nat → Option δ} (h1 : c = true → T2 Q x y) (h2 : c = false → T2 Q x' y') : T2 Q (fun n => bif c then x n else x' n) (fun n => bif c then y n else y' n) := by
  cases c
  · exact h2 rfl
  · exact h1 rfl
theorem T2.lt {c : Bool} {x x' : Nat → Option γ} {g : Nat → Option δ} (hc : c = true) (h : T2 Q x g) : T2 Q (fun n => bif c then x n else x' n) g := by subst hc; exact h
theorem T2.lf {c : Bool} {x x' : Nat → Option γ} {g : Nat → Option δ} (hc : c = false) (h : T2 Q x' g) : T2 Q (fun n => bif c then x n else x' n) g := by subst hc; exact h
theorem T2.rt {c : Bool} {f : Nat → Option γ} {y y' : Nat → Option δ} (hc : c = true) (h : T2 Q f y) : T2 Q f (fun n => bif c then y n else y' n) := by subst hc; exact h
theorem T2.rf {c : Bool} {f : Nat → Option γ} {y y' : Nat → Option δ} (hc : c = false) (h : T2 Q f y') : T2 Q f (fun n => bif c then y n else y' n) := by subst hc; exact h
theorem T2.suc {f f' : Nat → Option γ} {g g' : Nat → Option δ} (e : ∀ n, f (n + 1) = f' n) (e' : ∀ n, g (n + 1) = g' n) (h : T2 Q f' g') : T2 Q f g := by
  obtain ⟨c, d, h4, h5, h6⟩ := h
  exact ⟨c, d, Ev.suc e h4, Ev.suc e' h5, h6⟩
theorem T2.sucr {f : Nat → Option γ} {g g' : Nat → Option δ} (e' : ∀ n, g (n + 1) = g' n) (h : T2 Q f g') : T2 Q f g := by
  obtain ⟨c, d, h4, h5, h6⟩ := h
  exact ⟨c, d, h4, Ev.suc e' h5, h6⟩
end
abbrev RR (l : List Token) (a : Nat) (e : Int) : Reader := ⟨l, (a : Int), e⟩
theorem nextT_at {l : List Token} {a : Nat} (h : a < l.length) : nextT l a 0 = l[a] := by
  unfold nextT; rw [if_pos rfl, List.getElem?_eq_getElem h]; rfl
theorem nextT_end {l : List Token} {a : Nat} {e : Int} (h : e ≠ 0 ∨ l.length ≤ a) : nextT l a e = endT := by
  unfold nextT
  split
  · rcases h with h | h
    · contradiction
    · rw [List.getElem?_eq_none h]; rfl
  · rfl
theorem isT_end {l : List Token} {a : Nat} {e : Int} {s : Rt.Bs} (h : e ≠ 0 ∨ l.length ≤ a) : isT l a e s = false := by
  unfold isT; rw [nextT_end h]; simp [endT]
theorem guard_n (l : List Token) (a : Nat) (e : Int) : (bif (RR l a e).Bad != 0 then some true else some (decide (((RR l a e).L.length : Int) ≤ (RR l a e).At))) = some (decide (e ≠ 0 ∨ l.length ≤ a)) := by
  show (bif e != 0 then some true else some (decide ((l.length : Int) ≤ (a : Int)))) = _
  by_cases he : e = 0
  · subst he
    show some (decide ((l.length : Int) ≤ (a : Int))) = _
    by_cases h : l.length ≤ a
    · rw [decide_eq_true (by omega), decide_eq_true (.inr h)]
    · rw [decide_eq_false (by omega), decide_eq_false (by rintro (h1 | h1) <;> contradiction)]
  · rw [show (e != 0) = true by simpa using he, decide_eq_true (show e ≠ 0 ∨ l.length ≤ a from .inl he)]; rfl
theorem ris_n (n : Nat) (l : List Token) (a : Nat) (e : Int) (s : Rt.Bs) : ref35_Reader_is n (RR l a e) s = some (RR l a e, isT l a e s) := by
  unfold ref35_Reader_is
  rw [guard_n, Option.bind_some]
  by_cases h : e ≠ 0 ∨ l.length ≤ a
  · rw [decide_eq_true h, cond_true, isT_end h]
  · rw [decide_eq_false h, cond_false]
    have h1 : e = 0 := by
      by_cases he : e = 0
      · exact he
      · exact absurd (.inl he) h
    have h2 : a < l.length := by
      rcases Nat.lt_or_ge a l.length with h2 | h2
      · exact h2
      · exact absurd (.inr h2) h
    subst h1
    show (ix l (a : Int)).bind _ = _
    rw [ix_some h2, Option.bind_some]
    unfold isT
    rw [nextT_at h2]
    cases l[a].Text == s <;> cases l[a].Kind == 0 <;> rfl
theorem rtake_n (n : Nat) {l : List Token} {a : Nat} {e : Int} (s : Rt.Bs) (hl : l.length ≤ 1000000) : ref35_Reader_take n (RR l a e) s = some (RR l (bif isT l a e s then a + 1 else a) e, isT l a e s) := by
  unfold ref35_Reader_take
  rw [ris_n, Option.bind_some]
  dsimp only
  cases h : isT l a e s with
  | false => rfl
  | true =>
    have h2 := (isT_lt h).1
    rw [cond_true, Option.bind_some, inc64 (by omega)]; rfl
theorem rtake_no {l : List Token} {a : Nat} {e : Int} {s : Rt.Bs} (hl : l.length ≤ 1000000) (h : isT l a e s = false) : Ev (fun n => ref35_Reader_take n (RR l a e) s) (RR l a e, false) := Ev.all fun n => by rw [rtake_n n s hl, h]; rfl
theorem rtake_yes {l : List Token} {a : Nat} {e : Int} {s : Rt.Bs} (hl : l.length ≤ 1000000) (h : isT l a e s = true) : Ev (fun n => ref35_Reader_take n (RR l a e) s) (RR l (a + 1) e, true) := Ev.all fun n => by rw [rtake_n n s hl, h]; rfl
theorem rfail_n (n : Nat) (l : List Token) (a : Nat) (e x : Int) : ref35_Reader_fail n (RR l a e) x = some (RR l a (failE e x)) := by
  unfold ref35_Reader_fail failE
  by_cases he : e = 0
  · subst he; rfl
  · have e1 : (e == 0) = false := by simpa using he
    rw [if_neg he]
    show (bif e == 0 then _ else _) = _
    rw [e1]; rfl
def In2 (l : List Token) (a : Nat) (r : reader) (R : Reader) : Prop := ∃ (b : Nat) (e : Int), r = Rd l b e ∧ R = RR l b e ∧ a ≤ b ∧ b ≤ l.length
def InX2 (l : List Token) (a : Nat) (p : reader × M.Expr) (q : Reader × M.Expr) : Prop := In2 l a p.1 q.1 ∧ p.2 = q.2 ∧ Fit p.2
theorem In2.here {l : List Token} {a : Nat} {e : Int} (h : a ≤ l.length) : In2 l a (Rd l a e) (RR l a e) := ⟨a, e, rfl, rfl, Nat.le_refl _, h⟩
theorem take_2 {l : List Token} {a : Nat} {e : Int} (s : Rt.Bs) (hl : l.length ≤ 1000000) (ha : a ≤ l.length) : T2 (fun p q => In2 l a p.1 q.1 ∧ p.2 = q.2) (fun n => tariff_reader_take n (Rd l a e) s) (fun n => ref35_Reader_take n (RR l a e) s) := by
  refine ⟨_, _, Ev.all fun n => take_n n s hl ha, Ev.all fun n => rtake_n n s hl, ?_, rfl⟩
  cases h : isT l a e s with
  | false => exact In2.here ha
  | true => exact ⟨a + 1, e, rfl, rfl, by omega, (isT_lt h).1⟩
theorem need1_2 {l : List Token} (hl : l.length ≤ 1000000) {a : Nat} {e : Int} (ha : a ≤ l.length) (w : Rt.Bs) : ∃ (b : Nat) (e' : Int), a ≤ b ∧ b ≤ l.length ∧ (∀ n, ref35_Reader_need n (RR l a e) w = some (RR l b e')) ∧
    ∀ (n : Nat) (ws : List Rt.Bs) (i m : Nat) (kont : List Token → Int → Int → Option reader), ws[i]? = some w → ws.length ≤ 1000 → tariff_reader_need_L1 n ws kont (m + 1) (i : Int) l (a : Int) e = tariff_reader_need_L1 n ws kont m ((i + 1 : Nat) : Int) l (b : Int) e' := by
  have hi : ∀ {ws : List Rt.Bs} {i : Nat}, ws[i]? = some w → i < ws.length ∧ ix ws (i : Int) = some w := by
    intro ws i h
    refine ⟨?_, by rw [ix_nat]; exact h⟩
    rcases Nat.lt_or_ge i ws.length with h1 | h1
    · exact h1
    · rw [List.getElem?_eq_none h1] at h; cases h
  cases h : isT l a e w with
  | false =>
    refine ⟨a, failE e 12, Nat.le_refl _, ha, fun n => ?_, fun n ws i m kont hw hws => ?_⟩
    · unfold ref35_Reader_need
      rw [rtake_n n w hl, Option.bind_some, h]
      dsimp only
      rw [Bool.not_false, cond_true, cond_false, rfail_n]; rfl
    · obtain ⟨h1, h2⟩ := hi hw
      rw [tariff_reader_need_L1_s, decide_eq_true (by omega), cond_true, h2, Option.bind_some, take_n n w hl ha, Option.bind_some, h]
      dsimp only
      rw [Bool.not_false, cond_true, cond_false, fail_n, Option.bind_some, inc64 (by omega)]
  | true =>
    have h4 := isT_lt h
    refine ⟨a + 1, e, by omega, h4.1, fun n => ?_, fun n ws i m kont hw hws => ?_⟩
    · unfold ref35_Reader_need
      rw [rtake_n n w hl, Option.bind_some, h]; rfl
    · obtain ⟨h1, h2⟩ := hi hw
      rw [tariff_reader_need_L1_s, decide_eq_true (by omega), cond_true, h2, Option.bind_some, take_n n w hl ha, Option.bind_some, h]
      dsimp only
      rw [Bool.not_true, cond_false, cond_true, inc64 (by omega)]
theorem need_2 {l : List Token} (hl : l.length ≤ 1000000) {a : Nat} {e : Int} (ha : a ≤ l.length) (w : Rt.Bs) : T2 (In2 l a) (fun n => tariff_reader_need n (Rd l a e) [w]) (fun n => ref35_Reader_need n (RR l a e) w) := by
  obtain ⟨b, e', h1, h2, h3, h4⟩ := need1_2 hl ha (e := e) w
  refine ⟨Rd l b e', RR l b e', ⟨2, fun n hn => ?_⟩, Ev.all h3, b, e', rfl, rfl, h1, h2⟩
  obtain ⟨n, rfl⟩ : ∃ k, n = k + 2 := ⟨n - 2, by omega⟩
  exact (h4 (n + 2) [w] 0 (n + 1) _ rfl (by simp)).trans rfl
theorem need3_2 {l : List Token} (hl : l.length ≤ 1000000) {a : Nat} {e : Int} (ha : a ≤ l.length) (u v w : Rt.Bs) : T2 (In2 l a) (fun n => tariff_reader_need n (Rd l a e) [u, v, w]) (fun n => (ref35_Reader_need n (RR l a e) u).bind fun v4 => (ref35_Reader_need n v4 v).bind fun v5 => ref35_Reader_need n v5 w) := by
  obtain ⟨b, e', h1, h2, h3, h4⟩ := need1_2 hl ha (e := e) u
  obtain ⟨b2, e2, g1, g2, g3, g4⟩ := need1_2 hl h2 (e := e') v
  obtain ⟨b3, e3, k1, k2, k3, k4⟩ := need1_2 hl g2 (e := e2) w
  refine ⟨Rd l b3 e3, RR l b3 e3, ⟨4, fun n hn => ?_⟩, Ev.all fun n => ?_, b3, e3, rfl, rfl, by omega, k2⟩
  · obtain ⟨n, rfl⟩ : ∃ k, n = k + 4 := ⟨n - 4, by omega⟩
    refine (h4 (n + 4) [u, v, w] 0 (n + 3) _ rfl (by simp)).trans ?_
    refine (g4 (n + 4) [u, v, w] 1 (n + 2) _ rfl (by simp)).trans ?_
    exact (k4 (n + 4) [u, v, w] 2 (n + 1) _ rfl (by simp)).trans rfl
  · rw [h3, Option.bind_some, g3, Option.bind_some, k3]
theorem one_2 {l : List Token} (hl : l.length ≤ 1000000) {a : Nat} {e : Int} (ha : a ≤ l.length) {k : Int} (hk : k ≠ 4) : T2 (fun p q => In2 l a p.1 q.1 ∧ p.2 = q.2) (fun n => tariff_reader_one n (Rd l a e) k) (fun n => ref35_Reader_one n (RR l a e) k) := by
  unfold tariff_reader_one ref35_Reader_one
  refine T2.l (Ev.all fun n => next_n n ha) (T2.r (Ev.all fun n => guard_n l a e) ?_)
  by_cases h : e ≠ 0 ∨ l.length ≤ a
  · refine T2.rt (decide_eq_true h) (T2.lt ?_ ?_)
    · rw [nextT_end h]; simpa [endT] using fun h => hk h.symm
    · exact T2.l (Ev.all fun n => fail_n n l a e 12) (T2.r (Ev.all fun n => rfail_n n l a e 12) (T2.pure ⟨In2.here ha, rfl⟩))
  · have h1 : e = 0 := by
      by_cases he : e = 0
      · exact he
      · exact absurd (.inl he) h
    have h2 : a < l.length := by
      rcases Nat.lt_or_ge a l.length with h2 | h2
      · exact h2
      · exact absurd (.inr h2) h
    subst h1
    refine T2.rf (decide_eq_false h) (T2.r (Ev.all fun n => ix_some h2) ?_)
    dsimp only
    rw [nextT_at h2]
    refine T2.bif (fun _ => ?_) (fun _ => ?_)
    · exact T2.l (Ev.all fun n => fail_n n l a 0 12) (T2.r (Ev.all fun n => rfail_n n l a 0 12) (T2.pure ⟨In2.here ha, rfl⟩))
    · rw [inc64 (by omega)]
      exact T2.pure ⟨⟨a + 1, 0, rfl, rfl, by omega, h2⟩, rfl⟩
end Go.Proofs.YtpihabofmnnbbaaGreatDoor.Ta

