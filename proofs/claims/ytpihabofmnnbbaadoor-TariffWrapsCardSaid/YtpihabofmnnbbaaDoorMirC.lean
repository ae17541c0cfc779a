/-
  THE MIRRORS of the tariff's and the lexer's functions, of the references and the laws, and that each call returns what its mirror says. Printed by gen.py.
-/
import Derived.Test.YtpihabofmnnbbaaDoorRows
import Derived.Test.YtpihabofmnnbbaaDoorRtZ
import Derived.Test.YtpihabofmnnbbaaDoorExpr
import Derived.Test.YtpihabofmnnbbaaDoorExtT
import Derived.Test.YtpihabofmnnbbaaDoorMirB
namespace Go.Proofs.YtpihabofmnnbbaaDoor.M
open Go Go.RowKit Rt

theorem fa24_0 : FieldIs Tryd.prog 24 0 0 := fun _ _ _ => by kernel_rfl

theorem fa24_3 : FieldIs Tryd.prog 24 3 3 := fun _ _ _ => by kernel_rfl

theorem ag22 : IsAgg Tryd.prog 22 false := fun _ => by kernel_rfl

theorem u22 : Tryd.prog.underlying 22 = some (.slice 24) := by kernel_rfl

theorem sz24 : SizeIs Tryd.prog 24 4 := fun _ => by kernel_rfl

theorem ag24 : IsAgg Tryd.prog 24 true := fun _ => by kernel_rfl

theorem ent33 : Ent Tryd.prog 33 := fun _ _ => by kernel_rfl

theorem fa24_2 : FieldIs Tryd.prog 24 2 2 := fun _ _ _ => by kernel_rfl

theorem fa24_1 : FieldIs Tryd.prog 24 1 1 := fun _ _ _ => by kernel_rfl

def ref35_Same_L1 (n : Nat) (rec_ref35_Same : Expr → Expr → Option Bool) (ax1 : Expr) (b1 : Expr) (kont1 : Option Bool) : Nat → Int → Option Bool
 | 0, _ => none
 | mx1 + 1, i1 =>
  bif decide (i1 < (ax1.Args.length : Int)) then
   (ix ax1.Args i1).bind fun ex1 =>
   (ix b1.Args i1).bind fun ex2 =>
   (rec_ref35_Same ex1 ex2).bind fun v4 =>
   bif !v4 then
    some false
   else
    ref35_Same_L1 n rec_ref35_Same ax1 b1 kont1 mx1 (iadd .i64 i1 1)
  else
   kont1

theorem ref35_Same_L1_s (n : Nat) (rec_ref35_Same : Expr → Expr → Option Bool) (ax1 : Expr) (b1 : Expr) (kont1 : Option Bool) (mx1 : Nat) (i1 : Int) : ref35_Same_L1 n rec_ref35_Same ax1 b1 kont1 (mx1 + 1) i1 =
  bif decide (i1 < (ax1.Args.length : Int)) then
   (ix ax1.Args i1).bind fun ex1 =>
   (ix b1.Args i1).bind fun ex2 =>
   (rec_ref35_Same ex1 ex2).bind fun v4 =>
   bif !v4 then
    some false
   else
    ref35_Same_L1 n rec_ref35_Same ax1 b1 kont1 mx1 (iadd .i64 i1 1)
  else
   kont1 := rfl

def ref35_Same : Nat → Expr → Expr → Option Bool
 | 0, _, _ => none
 | n + 1, ax1, b1 =>
  (bif ax1.Op != b1.Op then
   some true
  else
   some (ax1.N != b1.N)).bind fun v1 =>
  (bif v1 then
   some true
  else
   some (!(ax1.Name == b1.Name))).bind fun v2 =>
  (bif v2 then
   some true
  else
   some ((ax1.Args.length : Int) != (b1.Args.length : Int))).bind fun v3 =>
  bif v3 then
   some false
  else
   ref35_Same_L1 n (ref35_Same n) ax1 b1 (
    some true) n 0

theorem ref35_Same_s (n : Nat) (ax1 : Expr) (b1 : Expr) : ref35_Same (n + 1) ax1 b1 =
  (bif ax1.Op != b1.Op then
   some true
  else
   some (ax1.N != b1.N)).bind fun v1 =>
  (bif v1 then
   some true
  else
   some (!(ax1.Name == b1.Name))).bind fun v2 =>
  (bif v2 then
   some true
  else
   some ((ax1.Args.length : Int) != (b1.Args.length : Int))).bind fun v3 =>
  bif v3 then
   some false
  else
   ref35_Same_L1 n (ref35_Same n) ax1 b1 (
    some true) n 0 := rfl

set_option maxHeartbeats 1000000 in
set_option maxRecDepth 1000000 in
theorem ref35_Same_all (n : Nat) : (∀ (ax1 : Expr) (b1 : Expr) (r : Bool) (_ : ref35_Same n ax1 b1 = some r) {w : World} {F : Frz} (_ : Sat F w) {as1 : Option Addr} {ns1 : Nat} {cs1 : Nat} {as2 : Option Addr} {ns2 : Nat} {cs2 : Nat} (_ : SlR rp_Expr F as1 ns1 cs1 ax1.Args) (_ : SlR rp_Expr F as2 ns2 cs2 b1.Args), Calls Tryd.prog 33 #[.agg #[.int .i64 ax1.Op, .int .i64 ax1.N, vs ax1.Name, .slice as1 ns1 cs1], .agg #[.int .i64 b1.Op, .int .i64 b1.N, vs b1.Name, .slice as2 ns2 cs2]] w fun e w' => ∃ v F' O', e = .returned v ∧ HS F w [] F' O' w' ∧ (v = .bool r ∧ O' = [])) := by
 induction n with
 | zero =>
  ·intro ax1 b1 r hm
   exact absurd (show (none : Option Bool) = some r from hm) (by simp)
 | succ n ih =>
  ·intro ax1 b1 r hm w F hs as1 ns1 cs1 as2 ns2 cs2 hs1 hs2
   rw [ref35_Same_s] at hm
   have h := HS.init hs
   refine calls_of 53 Tryd.func33 rfl rfl rfl ?_
   refine c_seq (c_region ?_)
   refine r_box rfl rfl rfl rfl h ?_
   intro b2 wx1 hx1
   refine r_box rfl rfl rfl rfl hx1 ?_
   intro b3 wx2 hx2
   refine r_assign rfl rfl rfl (r_nil (q_then (c_seq (c_seq (c_region ?_)))))
   refine r_fieldAddr fa24_0 rfl rfl rfl ?_
   refine r_loadB1 ag3 rfl rfl hx2 rfl (i := 1) rfl rfl ?_
   refine r_fieldAddr fa24_0 rfl rfl rfl ?_
   refine r_loadB1 ag3 rfl rfl hx2 rfl (i := 0) rfl rfl ?_
   refine r_bin rfl rfl rfl rfl rfl ?_
   refine r_move rfl rfl rfl ?_
   obtain ⟨v1, hb1, hm⟩ := bind_some hm
   refine r_mid 6 (fun a w' => wx2 = w' ∧ Has 53 a [(2, .pointer (some ⟨b2, 0, none⟩)), (3, .pointer (some ⟨b3, 0, none⟩)), (17, .bool v1)]) ?_ ?_
   ·rintro a wx3 ⟨rfl, hax1⟩
    refine rw_apply hax1 ?_
    refine r_move rfl rfl rfl ?_
    obtain ⟨v2, hb2, hm⟩ := bind_some hm
    refine r_mid 6 (fun a w' => wx2 = w' ∧ Has 53 a [(2, .pointer (some ⟨b2, 0, none⟩)), (3, .pointer (some ⟨b3, 0, none⟩)), (24, .bool v2)]) ?_ ?_
    ·rintro a wx4 ⟨rfl, hax2⟩
     refine rw_apply hax2 ?_
     refine r_move rfl rfl rfl ?_
     obtain ⟨v3, hb3, hm⟩ := bind_some hm
     refine r_mid 8 (fun a w' => wx2 = w' ∧ Has 53 a [(2, .pointer (some ⟨b2, 0, none⟩)), (3, .pointer (some ⟨b3, 0, none⟩)), (33, .bool v3)]) ?_ ?_
     ·rintro a wx5 ⟨rfl, hax3⟩
      refine rw_apply hax3 ?_
      refine r_nil (q_then ?_)
      rcases cond_some hm with ⟨hb4, hm⟩ | ⟨hb4, hm⟩
      ·refine c_lit 33 rfl hb4 ?_
       refine c_true rfl (c_seq (c_region (r_assign rfl rfl rfl (r_nil (q_then (c_ret (q_then_ret ?_)))))))
       refine b_ret1 rfl rfl ?_
       obtain rfl := Option.some.inj hm
       exact ⟨_, _, _, rfl, hx2.pick [] (by decide) rfl, rfl, rfl⟩
      ·refine c_lit 33 rfl hb4 ?_
       refine c_false rfl (c_skip (q_then (c_seq (c_seq (c_region (r_assign rfl rfl rfl (r_nil (q_then (c_block ?_)))))))))
       intro a hax6
       obtain ⟨kont1, hkont1⟩ : ∃ kont1 : Option Bool, kont1 = (
       some true) := ⟨_, rfl⟩
       replace hm : (fun m (s : Int) => ref35_Same_L1 n (ref35_Same n) ax1 b1 kont1 m s) n 0 = some r := by rw [hkont1]; exact hm
       refine loopX (id := 0) (fun m (s : Int) => ref35_Same_L1 n (ref35_Same n) ax1 b1 kont1 m s) (fun (y : Unit) => kont1) r (fun (s : Int) a w' => ∃ (Fx1 : Frz), Frz.le F Fx1 ∧ HS F w [] Fx1 [.box b3 24 [.int .i64 b1.Op, .int .i64 b1.N, vs b1.Name, .slice as2 ns2 cs2], .box b2 24 [.int .i64 ax1.Op, .int .i64 ax1.N, vs ax1.Name, .slice as1 ns1 cs1]] w' ∧ Has 53 a [(2, .pointer (some ⟨b2, 0, none⟩)), (3, .pointer (some ⟨b3, 0, none⟩)), (5, .int .i64 s)]) (fun (y : Unit) a w' => ∃ (Fx2 : Frz), Frz.le F Fx2 ∧ HS F w [] Fx2 [] w' ∧ Has 53 a []) (fun _ => rfl) ?_ ?_ hm ⟨_, Frz.refl _, hx2.pick [0, 1] (by decide) rfl, hax6.cut (l := [2, 3, 5]) rfl⟩
       ·clear hm; rintro _u a wx6 hm ⟨Fx2, hF2, hx4, hax4⟩
        rw [hkont1] at hm
        refine qw_apply (e := .exit 0) hax4 ?_
        refine q_block_hit (q_then (c_seq (c_region (r_assign rfl rfl rfl (r_nil (q_then (c_ret ?_)))))))
        refine b_ret1 rfl rfl ?_
        obtain rfl := Option.some.inj hm
        exact ⟨_, _, _, rfl, hx4.pick [] (by decide) rfl, rfl, rfl⟩
       ·clear hm hkont1; intro hk1 mx1 K ihx1
        rintro i1 a wx7 hm ⟨Fx1, hF1, hx3, hax5⟩
        simp only [ref35_Same_L1_s] at hm
        refine cw_apply hax5 ?_
        refine c_seq (c_seq (c_region (r_move rfl rfl rfl ?_)))
        refine r_fieldAddr fa24_3 rfl rfl rfl ?_
        refine r_loadB1 ag22 rfl rfl hx3 rfl (i := 1) rfl rfl ?_
        refine r_lenS hs1.len u22 rfl rfl rfl ?_
        refine r_bin rfl rfl rfl rfl rfl ?_
        refine r_nil (q_then ?_)
        rcases cond_some hm with ⟨hb5, hm⟩ | ⟨hb5, hm⟩
        ·refine c_lit 38 rfl hb5 ?_
         refine c_true rfl (c_skip (q_then (c_seq (c_block (c_seq ?_)))))
         refine c_regionD (by kernel_rfl) (by kernel_rfl) hx3 ?_
         refine q_stp rfl rfl rfl rfl (fun _ _ _ _ => r_fieldAddr fa24_3 rfl rfl rfl (r_nil (qq rfl))) ?_
         refine q_stp rfl rfl rfl rfl (fun _ _ _ hq => r_loadB1 ag22 rfl rfl hq rfl (i := 1) rfl rfl (r_nil (qq rfl))) ?_
         refine q_stp rfl rfl rfl rfl (fun _ _ _ _ => r_move rfl rfl rfl (r_nil (qq rfl))) ?_
         obtain ⟨ex1, he1, hm⟩ := bind_some hm
         obtain ⟨b4, o1, cs1, hf1, hr1, hrun1⟩ := findex_ex (P := Tryd.prog) (r := rp_Expr) u22 sz24 (hs1.mono hF1) he1
         obtain ⟨as3, ns3, cs3, hc1, hs3⟩ := expr_iff.1 hr1
         subst hc1
         refine q_findex rfl rfl rfl rfl hrun1 ?_
         refine q_stp rfl rfl rfl rfl (fun _ _ hleq hq => r_loadFW ag24 sz24 rfl rfl hq (hf1.mono hleq) rfl rfl (r_nil (qq rfl))) ?_
         refine q_stp rfl rfl rfl rfl (fun _ _ _ _ => r_fieldAddr fa24_3 rfl rfl rfl (r_nil (qq rfl))) ?_
         refine q_stp rfl rfl rfl rfl (fun _ _ _ hq => r_loadB1 ag22 rfl rfl hq rfl (i := 0) rfl rfl (r_nil (qq rfl))) ?_
         refine q_stp rfl rfl rfl rfl (fun _ _ _ _ => r_move rfl rfl rfl (r_nil (qq rfl))) ?_
         obtain ⟨ex2, he2, hm⟩ := bind_some hm
         obtain ⟨b5, o2, cs2, hf2, hr2, hrun2⟩ := findex_ex (P := Tryd.prog) (r := rp_Expr) u22 sz24 (hs2.mono hF1) he2
         obtain ⟨as4, ns4, cs4, hc2, hs4⟩ := expr_iff.1 hr2
         subst hc2
         refine q_findex rfl rfl rfl rfl hrun2 ?_
         refine q_stp rfl rfl rfl rfl (fun _ _ hleq hq => r_loadFW ag24 sz24 rfl rfl hq (hf2.mono hleq) rfl rfl (r_nil (qq rfl))) ?_
         obtain ⟨v4, hv1, hm⟩ := bind_some hm
         refine q_callG0 ent33 rfl rfl rfl rfl (fun _ _ hleq hq => ih _ _ _ hv1 hq.sat (hs3.mono hleq) (hs4.mono hleq)) ?_
         refine q_stp rfl rfl rfl rfl (fun _ _ _ _ => r_not rfl rfl rfl (r_nil (qq rfl))) ?_
         refine q_end ?_
         rintro wx8 ⟨Fx3, hF3, hx5⟩
         refine q_then ?_
         rcases cond_some hm with ⟨hb6, hm⟩ | ⟨hb6, hm⟩
         ·refine c_lit 52 rfl hb6 ?_
          refine c_true rfl (c_seq (c_region (r_assign rfl rfl rfl (r_nil (q_then (c_ret (q_block_ret (q_then_ret (q_then_ret (q_block_ret (q_then_ret ?_)))))))))))
          refine b_ret1 rfl rfl ?_
          obtain rfl := Option.some.inj hm
          exact ⟨_, _, _, rfl, hx5.pick [] (by decide) rfl, rfl, rfl⟩
         ·refine c_lit 52 rfl hb6 ?_
          refine c_false rfl (c_skip (q_block (q_then (c_region (r_move rfl rfl rfl ?_)))))
          refine r_bin rfl rfl rfl rfl rfl ?_
          refine r_assign rfl rfl rfl (r_nil ?_)
          refine q_next (fun a ha => ihx1 (iadd .i64 i1 1) a _ hm ?_)
          exact ⟨_, (hF1.trans hF3), hx5.pick [0, 1] (by decide) rfl, ha.cut (l := [2, 3, 5]) rfl⟩
        ·refine c_lit 38 rfl hb5 ?_
         refine c_false rfl (c_exit (q_then_exit (q_then_exit ?_)))
         refine fun a ha => hk1 () a _ hm ?_
         exact ⟨_, hF1, hx3.pick [] (by decide) rfl, ha.cut (l := []) rfl⟩
     ·clear hm
      rcases cond_some hb3 with ⟨hb7, hb3⟩ | ⟨hb7, hb3⟩
      ·refine r_lit 25 rfl hb7 ?_
       refine r_off rfl (by decide) rfl (r_off rfl (by decide) rfl (r_off rfl (by decide) rfl (r_off rfl (by decide) rfl (r_off rfl (by decide) rfl (r_off rfl (by decide) rfl (r_off rfl (by decide) rfl (r_pick_true rfl rfl rfl rfl (r_nil ?_))))))))
       refine q_next (fun a ha => ?_)
       cases hb3
       exact ⟨rfl, ha.cut (l := [2, 3, 33]) rfl⟩
      ·refine r_lit 25 rfl hb7 ?_
       refine r_fieldAddr fa24_3 rfl rfl rfl ?_
       refine r_loadB1 ag22 rfl rfl hx2 rfl (i := 1) rfl rfl ?_
       refine r_lenS hs1.len u22 rfl rfl rfl ?_
       refine r_fieldAddr fa24_3 rfl rfl rfl ?_
       refine r_loadB1 ag22 rfl rfl hx2 rfl (i := 0) rfl rfl ?_
       refine r_lenS hs2.len u22 rfl rfl rfl ?_
       refine r_bin rfl rfl rfl rfl rfl ?_
       refine r_pick_false rfl rfl rfl rfl (r_nil ?_)
       refine q_next (fun a ha => ?_)
       cases hb3
       exact ⟨rfl, ha.cut (l := [2, 3, 33]) rfl⟩
    ·clear hm
     rcases cond_some hb2 with ⟨hb8, hb2⟩ | ⟨hb8, hb2⟩
     ·refine r_lit 18 rfl hb8 ?_
      refine r_off rfl (by decide) rfl (r_off rfl (by decide) rfl (r_off rfl (by decide) rfl (r_off rfl (by decide) rfl (r_off rfl (by decide) rfl (r_pick_true rfl rfl rfl rfl (r_nil ?_))))))
      refine q_next (fun a ha => ?_)
      cases hb2
      exact ⟨rfl, ha.cut (l := [2, 3, 24]) rfl⟩
     ·refine r_lit 18 rfl hb8 ?_
      refine r_fieldAddr fa24_2 rfl rfl rfl ?_
      refine r_loadB1 ag9 rfl rfl hx2 rfl (i := 1) rfl rfl ?_
      refine r_fieldAddr fa24_2 rfl rfl rfl ?_
      refine r_loadB1 ag9 rfl rfl hx2 rfl (i := 0) rfl rfl ?_
      refine r_str rfl rfl rfl rfl rfl ?_
      refine r_pick_false rfl rfl rfl rfl (r_nil ?_)
      refine q_next (fun a ha => ?_)
      cases hb2
      exact ⟨rfl, ha.cut (l := [2, 3, 24]) rfl⟩
   ·clear hm
    rcases cond_some hb1 with ⟨hb9, hb1⟩ | ⟨hb9, hb1⟩
    ·refine r_lit 11 rfl hb9 ?_
     refine r_off rfl (by decide) rfl (r_off rfl (by decide) rfl (r_off rfl (by decide) rfl (r_off rfl (by decide) rfl (r_off rfl (by decide) rfl (r_pick_true rfl rfl rfl rfl (r_nil ?_))))))
     refine q_next (fun a ha => ?_)
     cases hb1
     exact ⟨rfl, ha.cut (l := [2, 3, 17]) rfl⟩
    ·refine r_lit 11 rfl hb9 ?_
     refine r_fieldAddr fa24_1 rfl rfl rfl ?_
     refine r_loadB1 ag3 rfl rfl hx2 rfl (i := 1) rfl rfl ?_
     refine r_fieldAddr fa24_1 rfl rfl rfl ?_
     refine r_loadB1 ag3 rfl rfl hx2 rfl (i := 0) rfl rfl ?_
     refine r_bin rfl rfl rfl rfl rfl ?_
     refine r_pick_false rfl rfl rfl rfl (r_nil ?_)
     refine q_next (fun a ha => ?_)
     cases hb1
     exact ⟨rfl, ha.cut (l := [2, 3, 17]) rfl⟩

theorem ref35_Same_ok (n : Nat) (ax1 : Expr) (b1 : Expr) (r : Bool) (hm : ref35_Same n ax1 b1 = some r) {w : World} {F : Frz} (hs : Sat F w) {as1 : Option Addr} {ns1 : Nat} {cs1 : Nat} {as2 : Option Addr} {ns2 : Nat} {cs2 : Nat} (hs1 : SlR rp_Expr F as1 ns1 cs1 ax1.Args) (hs2 : SlR rp_Expr F as2 ns2 cs2 b1.Args) :
  Calls Tryd.prog 33 #[.agg #[.int .i64 ax1.Op, .int .i64 ax1.N, vs ax1.Name, .slice as1 ns1 cs1], .agg #[.int .i64 b1.Op, .int .i64 b1.N, vs b1.Name, .slice as2 ns2 cs2]] w fun e w' => ∃ v F' O', e = .returned v ∧ HS F w [] F' O' w' ∧ (v = .bool r ∧ O' = []) :=
 (ref35_Same_all n) ax1 b1 r hm hs hs1 hs2


structure Tariff where
 Name : Bs
 Fee : Expr
 Cap : Int
 deriving Inhabited

def rp_Tariff : Rp Tariff where
 k := 6
 R := fun F cs x => ∃ (a4 : Option Addr) (n4 : Nat) (c4 : Nat), cs = [vs x.Name, .int .i64 x.Fee.Op, .int .i64 x.Fee.N, vs x.Fee.Name, .slice a4 n4 c4, .int .i64 x.Cap] ∧ SlR rp_Expr F a4 n4 c4 x.Fee.Args
 len := by rintro F cs x ⟨a4, n4, c4, h, _⟩; simp [h]
 mono := by rintro F F' cs x hF ⟨a4, n4, c4, h, h0⟩; exact ⟨a4, n4, c4, h, h0.mono hF⟩
 one := by rintro F cs x ⟨a4, n4, c4, h, _⟩ u hu; subst h; simp at hu; rcases hu with rfl | rfl | rfl | rfl | rfl | rfl <;> rfl

theorem fa26_0 : FieldIs Tryd.prog 26 0 0 := fun _ _ _ => by kernel_rfl

theorem fa26_1 : FieldIs Tryd.prog 26 1 1 := fun _ _ _ => by kernel_rfl

theorem fa26_2 : FieldIs Tryd.prog 26 2 5 := fun _ _ _ => by kernel_rfl

def ref35_SameTariff (n : Nat) (ax1 : Tariff) (b1 : Tariff) : Option Bool :=
 (bif ax1.Name == b1.Name then
  some (ax1.Cap == b1.Cap)
 else
  some false).bind fun v1 =>
 (bif v1 then
  (ref35_Same n ax1.Fee b1.Fee).bind fun v3 =>
  some v3
 else
  some false).bind fun v2 =>
 some v2

set_option maxHeartbeats 1000000 in
set_option maxRecDepth 1000000 in
theorem ref35_SameTariff_ok (n : Nat) (ax1 : Tariff) (b1 : Tariff) (r : Bool) (hm : ref35_SameTariff n ax1 b1 = some r) {w : World} {F : Frz} (hs : Sat F w) {as1 : Option Addr} {ns1 : Nat} {cs1 : Nat} {as2 : Option Addr} {ns2 : Nat} {cs2 : Nat} (hs1 : SlR rp_Expr F as1 ns1 cs1 ax1.Fee.Args) (hs2 : SlR rp_Expr F as2 ns2 cs2 b1.Fee.Args) :
  Calls Tryd.prog 11 #[.agg #[vs ax1.Name, .int .i64 ax1.Fee.Op, .int .i64 ax1.Fee.N, vs ax1.Fee.Name, .slice as1 ns1 cs1, .int .i64 ax1.Cap], .agg #[vs b1.Name, .int .i64 b1.Fee.Op, .int .i64 b1.Fee.N, vs b1.Fee.Name, .slice as2 ns2 cs2, .int .i64 b1.Cap]] w fun e w' => ∃ v F' O', e = .returned v ∧ HS F w [] F' O' w' ∧ (v = .bool r ∧ O' = []) := by
 unfold ref35_SameTariff at hm
 have h := HS.init hs
 refine calls_of 24 Tryd.func11 rfl rfl rfl ?_
 refine c_seq (c_region ?_)
 refine r_box rfl rfl rfl rfl h ?_
 intro b2 wx1 hx1
 refine r_box rfl rfl rfl rfl hx1 ?_
 intro b3 wx2 hx2
 refine r_assign rfl rfl rfl (r_nil (q_then (c_seq (c_region ?_))))
 refine r_fieldAddr fa26_0 rfl rfl rfl ?_
 refine r_loadB1 ag9 rfl rfl hx2 rfl (i := 1) rfl rfl ?_
 refine r_fieldAddr fa26_0 rfl rfl rfl ?_
 refine r_loadB1 ag9 rfl rfl hx2 rfl (i := 0) rfl rfl ?_
 refine r_str rfl rfl rfl rfl rfl ?_
 refine r_move rfl rfl rfl ?_
 obtain ⟨v1, hb1, hm⟩ := bind_some hm
 refine r_mid 6 (fun a w' => wx2 = w' ∧ Has 24 a [(2, .pointer (some ⟨b2, 0, none⟩)), (3, .pointer (some ⟨b3, 0, none⟩)), (16, .bool v1)]) ?_ ?_
 ·rintro a wx3 ⟨rfl, hax1⟩
  refine rw_apply hax1 ?_
  refine r_move rfl rfl rfl ?_
  obtain ⟨v2, hb2, hm⟩ := bind_some hm
  refine r_mid 6 (fun a w' => ∃ (Fx1 : Frz), Frz.le F Fx1 ∧ HS F w [] Fx1 [.box b3 26 [vs b1.Name, .int .i64 b1.Fee.Op, .int .i64 b1.Fee.N, vs b1.Fee.Name, .slice as2 ns2 cs2, .int .i64 b1.Cap], .box b2 26 [vs ax1.Name, .int .i64 ax1.Fee.Op, .int .i64 ax1.Fee.N, vs ax1.Fee.Name, .slice as1 ns1 cs1, .int .i64 ax1.Cap]] w' ∧ Has 24 a [(23, .bool v2)]) ?_ ?_
  ·rintro a wx4 ⟨Fx1, hF1, hx3, hax2⟩
   refine rw_apply hax2 ?_
   refine r_assign rfl rfl rfl (r_nil (q_then (c_ret ?_)))
   refine b_ret1 rfl rfl ?_
   obtain rfl := Option.some.inj hm
   exact ⟨_, _, _, rfl, hx3.pick [] (by decide) rfl, rfl, rfl⟩
  ·clear hm
   rcases cond_some hb2 with ⟨hb3, hb2⟩ | ⟨hb3, hb2⟩
   ·refine r_lit 17 rfl hb3 ?_
    refine r_fieldAddr fa26_1 rfl rfl rfl ?_
    refine r_loadBA (cs' := [.int .i64 ax1.Fee.Op, .int .i64 ax1.Fee.N, vs ax1.Fee.Name, .slice as1 ns1 cs1]) ag24 sz24 rfl rfl hx2 rfl (i := 1) rfl rfl rfl ?_
    refine r_fieldAddr fa26_1 rfl rfl rfl ?_
    refine r_loadBA (cs' := [.int .i64 b1.Fee.Op, .int .i64 b1.Fee.N, vs b1.Fee.Name, .slice as2 ns2 cs2]) ag24 sz24 rfl rfl hx2 rfl (i := 0) rfl rfl rfl ?_
    obtain ⟨v3, hv1, hb2⟩ := bind_some hb2
    refine r_callG0 ent33 rfl rfl rfl rfl hx2 (ref35_Same_ok _ _ _ _ hv1 hx2.sat hs1 hs2) ?_
    rintro _ Fx2 _ wx5 hF2 hx4 ⟨rfl, rfl⟩
    refine r_pick_true rfl rfl rfl rfl (r_nil ?_)
    refine q_next (fun a ha => ?_)
    cases hb2
    exact ⟨_, hF2, hx4.pick [0, 1] (by decide) rfl, ha.cut (l := [23]) rfl⟩
   ·refine r_lit 17 rfl hb3 ?_
    refine r_off rfl (by decide) rfl (r_off rfl (by decide) rfl (r_off rfl (by decide) rfl (r_off rfl (by decide) rfl (r_off rfl (by decide) rfl (r_pick_false rfl rfl rfl rfl (r_nil ?_))))))
    refine q_next (fun a ha => ?_)
    cases hb2
    exact ⟨_, Frz.refl _, hx2.pick [0, 1] (by decide) rfl, ha.cut (l := [23]) rfl⟩
 ·clear hm
  rcases cond_some hb1 with ⟨hb4, hb1⟩ | ⟨hb4, hb1⟩
  ·refine r_lit 10 rfl hb4 ?_
   refine r_fieldAddr fa26_2 rfl rfl rfl ?_
   refine r_loadB1 ag3 rfl rfl hx2 rfl (i := 1) rfl rfl ?_
   refine r_fieldAddr fa26_2 rfl rfl rfl ?_
   refine r_loadB1 ag3 rfl rfl hx2 rfl (i := 0) rfl rfl ?_
   refine r_bin rfl rfl rfl rfl rfl ?_
   refine r_pick_true rfl rfl rfl rfl (r_nil ?_)
   refine q_next (fun a ha => ?_)
   cases hb1
   exact ⟨rfl, ha.cut (l := [2, 3, 16]) rfl⟩
  ·refine r_lit 10 rfl hb4 ?_
   refine r_off rfl (by decide) rfl (r_off rfl (by decide) rfl (r_off rfl (by decide) rfl (r_off rfl (by decide) rfl (r_off rfl (by decide) rfl (r_pick_false rfl rfl rfl rfl (r_nil ?_))))))
   refine q_next (fun a ha => ?_)
   cases hb1
   exact ⟨rfl, ha.cut (l := [2, 3, 16]) rfl⟩


theorem ent37 : Ent Tryd.prog 37 := fun _ _ => by kernel_rfl

def ref35_size_L1 (n : Nat) (rec_ref35_size : Expr → Int → Int → Option Int) (x1 : Expr) (levels1 : Int) (kont1 : Int → Option Int) : Nat → Int → Int → Option Int
 | 0, _, _ => none
 | mx1 + 1, nx2, i1 =>
  (bif decide (i1 < (x1.Args.length : Int)) then
   some (decide (0 ≤ nx2))
  else
   some false).bind fun v1 =>
  bif v1 then
   (ix x1.Args i1).bind fun ex1 =>
   (rec_ref35_size ex1 nx2 (isub .i64 levels1 1)).bind fun v2 =>
   ref35_size_L1 n rec_ref35_size x1 levels1 kont1 mx1 v2 (iadd .i64 i1 1)
  else
   kont1 nx2

theorem ref35_size_L1_s (n : Nat) (rec_ref35_size : Expr → Int → Int → Option Int) (x1 : Expr) (levels1 : Int) (kont1 : Int → Option Int) (mx1 : Nat) (nx2 : Int) (i1 : Int) : ref35_size_L1 n rec_ref35_size x1 levels1 kont1 (mx1 + 1) nx2 i1 =
  (bif decide (i1 < (x1.Args.length : Int)) then
   some (decide (0 ≤ nx2))
  else
   some false).bind fun v1 =>
  bif v1 then
   (ix x1.Args i1).bind fun ex1 =>
   (rec_ref35_size ex1 nx2 (isub .i64 levels1 1)).bind fun v2 =>
   ref35_size_L1 n rec_ref35_size x1 levels1 kont1 mx1 v2 (iadd .i64 i1 1)
  else
   kont1 nx2 := rfl

def ref35_size : Nat → Expr → Int → Int → Option Int
 | 0, _, _, _ => none
 | n + 1, x1, nx1, levels1 =>
  bif decide (levels1 < 1) then
   some (-1)
  else
   ref35_size_L1 n (ref35_size n) x1 levels1 (fun (nx3 : Int) =>
    some nx3) n (isub .i64 nx1 1) 0

theorem ref35_size_s (n : Nat) (x1 : Expr) (nx1 : Int) (levels1 : Int) : ref35_size (n + 1) x1 nx1 levels1 =
  bif decide (levels1 < 1) then
   some (-1)
  else
   ref35_size_L1 n (ref35_size n) x1 levels1 (fun (nx3 : Int) =>
    some nx3) n (isub .i64 nx1 1) 0 := rfl

set_option maxHeartbeats 1000000 in
set_option maxRecDepth 1000000 in
theorem ref35_size_all (n : Nat) : (∀ (x1 : Expr) (nx1 : Int) (levels1 : Int) (r : Int) (_ : ref35_size n x1 nx1 levels1 = some r) {w : World} {F : Frz} (_ : Sat F w) {as1 : Option Addr} {ns1 : Nat} {cs1 : Nat} (_ : SlR rp_Expr F as1 ns1 cs1 x1.Args), Calls Tryd.prog 37 #[.agg #[.int .i64 x1.Op, .int .i64 x1.N, vs x1.Name, .slice as1 ns1 cs1], .int .i64 nx1, .int .i64 levels1] w fun e w' => ∃ v F' O', e = .returned v ∧ HS F w [] F' O' w' ∧ (v = .int .i64 r ∧ O' = [])) := by
 induction n with
 | zero =>
  ·intro x1 nx1 levels1 r hm
   exact absurd (show (none : Option Int) = some r from hm) (by simp)
 | succ n ih =>
  ·intro x1 nx1 levels1 r hm w F hs as1 ns1 cs1 hs1
   rw [ref35_size_s] at hm
   have h := HS.init hs
   refine calls_of 33 Tryd.func37 rfl rfl rfl ?_
   refine c_seq (c_region ?_)
   refine r_box rfl rfl rfl rfl h ?_
   intro b1 wx1 hx1
   refine r_assign rfl rfl rfl (r_nil (q_then (c_seq (c_region (r_move rfl rfl rfl ?_)))))
   refine r_bin rfl rfl rfl rfl rfl ?_
   refine r_assign rfl rfl rfl (r_nil (q_then (c_seq (c_seq (c_region (r_move rfl rfl rfl ?_))))))
   refine r_bin rfl rfl rfl rfl rfl ?_
   refine r_nil (q_then ?_)
   rcases cond_some hm with ⟨hb1, hm⟩ | ⟨hb1, hm⟩
   ·refine c_lit 11 rfl hb1 ?_
    refine c_true rfl (c_seq (c_region (r_assign rfl rfl rfl (r_nil (q_then (c_ret (q_then_ret ?_)))))))
    refine b_ret1 rfl rfl ?_
    obtain rfl := Option.some.inj hm
    exact ⟨_, _, _, rfl, hx1.pick [] (by decide) rfl, rfl, rfl⟩
   ·refine c_lit 11 rfl hb1 ?_
    refine c_false rfl (c_skip (q_then (c_seq (c_seq (c_region (r_assign rfl rfl rfl (r_nil (q_then (c_block ?_)))))))))
    intro a hax4
    obtain ⟨kont1, hkont1⟩ : ∃ kont1 : Int → Option Int, kont1 = (fun (nx3 : Int) =>
       some nx3) := ⟨_, rfl⟩
    replace hm : (fun m (s : Int × Int) => ref35_size_L1 n (ref35_size n) x1 levels1 kont1 m s.1 s.2) n ((isub .i64 nx1 1), 0) = some r := by rw [hkont1]; exact hm
    refine loopX (id := 0) (fun m (s : Int × Int) => ref35_size_L1 n (ref35_size n) x1 levels1 kont1 m s.1 s.2) (fun (y : Int) => kont1 y) r (fun (s : Int × Int) a w' => ∃ (Fx1 : Frz), Frz.le F Fx1 ∧ HS F w [] Fx1 [.box b1 24 [.int .i64 x1.Op, .int .i64 x1.N, vs x1.Name, .slice as1 ns1 cs1]] w' ∧ Has 33 a [(1, .int .i64 s.1), (2, .int .i64 levels1), (3, .pointer (some ⟨b1, 0, none⟩)), (7, .int .i64 s.2)]) (fun (y : Int) a w' => ∃ (Fx2 : Frz), Frz.le F Fx2 ∧ HS F w [] Fx2 [] w' ∧ Has 33 a [(1, .int .i64 y)]) (fun _ => rfl) ?_ ?_ hm ⟨_, Frz.refl _, hx1.pick [0] (by decide) rfl, hax4.cut (l := [1, 2, 3, 7]) rfl⟩
    ·clear hm; rintro nx3 a wx2 hm ⟨Fx2, hF2, hx3, hax1⟩
     rw [hkont1] at hm
     replace hm := hm
     refine qw_apply (e := .exit 0) hax1 ?_
     refine q_block_hit (q_then (c_seq (c_region (r_move rfl rfl rfl (r_assign rfl rfl rfl (r_nil (q_then (c_ret ?_))))))))
     refine b_ret1 rfl rfl ?_
     obtain rfl := Option.some.inj hm
     exact ⟨_, _, _, rfl, hx3.pick [] (by decide) rfl, rfl, rfl⟩
    ·clear hm hkont1; intro hk1 mx1 K ihx1
     rintro ⟨nx2, i1⟩ a wx3 hm ⟨Fx1, hF1, hx2, hax2⟩
     simp only [ref35_size_L1_s] at hm
     refine cw_apply hax2 ?_
     refine c_seq (c_seq (c_region (r_move rfl rfl rfl ?_)))
     refine r_fieldAddr fa24_3 rfl rfl rfl ?_
     refine r_loadB1 ag22 rfl rfl hx2 rfl (i := 0) rfl rfl ?_
     refine r_lenS hs1.len u22 rfl rfl rfl ?_
     refine r_bin rfl rfl rfl rfl rfl ?_
     refine r_move rfl rfl rfl ?_
     obtain ⟨v1, hb2, hm⟩ := bind_some hm
     refine r_mid 3 (fun a w' => wx3 = w' ∧ Has 33 a [(1, .int .i64 nx2), (2, .int .i64 levels1), (3, .pointer (some ⟨b1, 0, none⟩)), (7, .int .i64 i1), (20, .bool v1)]) ?_ ?_
     ·rintro a wx4 ⟨rfl, hax3⟩
      refine rw_apply hax3 ?_
      refine r_nil (q_then ?_)
      rcases cond_some hm with ⟨hb3, hm⟩ | ⟨hb3, hm⟩
      ·refine c_lit 20 rfl hb3 ?_
       refine c_true rfl (c_skip (q_then (c_seq (c_block (c_region ?_)))))
       refine r_fieldAddr fa24_3 rfl rfl rfl ?_
       refine r_loadB1 ag22 rfl rfl hx2 rfl (i := 0) rfl rfl ?_
       refine r_move rfl rfl rfl ?_
       obtain ⟨ex1, he1, hm⟩ := bind_some hm
       refine r_findex (r := rp_Expr) u22 sz24 rfl rfl rfl rfl (hs1.mono hF1) he1 ?_
       intro b2 o1 cs1 hf1 hr1
       obtain ⟨as2, ns2, cs2, hc1, hs2⟩ := expr_iff.1 hr1
       subst hc1
       refine r_loadFW ag24 sz24 rfl rfl hx2 hf1 rfl rfl ?_
       refine r_move rfl rfl rfl (r_move rfl rfl rfl ?_)
       refine r_bin rfl rfl rfl rfl rfl ?_
       obtain ⟨v2, hv1, hm⟩ := bind_some hm
       refine r_callG0 ent37 rfl rfl rfl rfl hx2 (ih _ _ _ _ hv1 hx2.sat hs2) ?_
       rintro _ Fx3 _ wx5 hF3 hx4 ⟨rfl, rfl⟩
       refine r_assign rfl rfl rfl (r_nil (q_block (q_then (c_region (r_move rfl rfl rfl ?_)))))
       refine r_bin rfl rfl rfl rfl rfl ?_
       refine r_assign rfl rfl rfl (r_nil ?_)
       refine q_next (fun a ha => ihx1 (v2, (iadd .i64 i1 1)) a _ hm ?_)
       exact ⟨_, (hF1.trans hF3), hx4.pick [0] (by decide) rfl, ha.cut (l := [1, 2, 3, 7]) rfl⟩
      ·refine c_lit 20 rfl hb3 ?_
       refine c_false rfl (c_exit (q_then_exit (q_then_exit ?_)))
       refine fun a ha => hk1 nx2 a _ hm ?_
       exact ⟨_, hF1, hx2.pick [] (by decide) rfl, ha.cut (l := [1]) rfl⟩
     ·clear hm
      rcases cond_some hb2 with ⟨hb4, hb2⟩ | ⟨hb4, hb2⟩
      ·refine r_lit 17 rfl hb4 ?_
       refine r_move rfl rfl rfl ?_
       refine r_bin rfl rfl rfl rfl rfl ?_
       refine r_pick_true rfl rfl rfl rfl (r_nil ?_)
       refine q_next (fun a ha => ?_)
       cases hb2
       exact ⟨rfl, ha.cut (l := [1, 2, 3, 7, 20]) rfl⟩
      ·refine r_lit 17 rfl hb4 ?_
       refine r_off rfl (by decide) rfl (r_off rfl (by decide) rfl (r_pick_false rfl rfl rfl rfl (r_nil ?_)))
       refine q_next (fun a ha => ?_)
       cases hb2
       exact ⟨rfl, ha.cut (l := [1, 2, 3, 7, 20]) rfl⟩

theorem ref35_size_ok (n : Nat) (x1 : Expr) (nx1 : Int) (levels1 : Int) (r : Int) (hm : ref35_size n x1 nx1 levels1 = some r) {w : World} {F : Frz} (hs : Sat F w) {as1 : Option Addr} {ns1 : Nat} {cs1 : Nat} (hs1 : SlR rp_Expr F as1 ns1 cs1 x1.Args) :
  Calls Tryd.prog 37 #[.agg #[.int .i64 x1.Op, .int .i64 x1.N, vs x1.Name, .slice as1 ns1 cs1], .int .i64 nx1, .int .i64 levels1] w fun e w' => ∃ v F' O', e = .returned v ∧ HS F w [] F' O' w' ∧ (v = .int .i64 r ∧ O' = []) :=
 (ref35_size_all n) x1 nx1 levels1 r hm hs hs1


def ref35_Few (n : Nat) (x1 : Expr) (nodes1 : Int) (levels1 : Int) : Option Bool :=
 (ref35_size n x1 nodes1 levels1).bind fun v1 =>
 some (decide (0 ≤ v1))

set_option maxHeartbeats 1000000 in
set_option maxRecDepth 1000000 in
theorem ref35_Few_ok (n : Nat) (x1 : Expr) (nodes1 : Int) (levels1 : Int) (r : Bool) (hm : ref35_Few n x1 nodes1 levels1 = some r) {w : World} {F : Frz} (hs : Sat F w) {as1 : Option Addr} {ns1 : Nat} {cs1 : Nat} (hs1 : SlR rp_Expr F as1 ns1 cs1 x1.Args) :
  Calls Tryd.prog 16 #[.agg #[.int .i64 x1.Op, .int .i64 x1.N, vs x1.Name, .slice as1 ns1 cs1], .int .i64 nodes1, .int .i64 levels1] w fun e w' => ∃ v F' O', e = .returned v ∧ HS F w [] F' O' w' ∧ (v = .bool r ∧ O' = []) := by
 unfold ref35_Few at hm
 have h := HS.init hs
 refine calls_of 12 Tryd.func16 rfl rfl rfl ?_
 refine c_seq (c_region ?_)
 refine r_box rfl rfl rfl rfl h ?_
 intro b1 wx1 hx1
 refine r_assign rfl rfl rfl (r_nil (q_then (c_seq (c_region ?_))))
 refine r_loadBW ag24 sz24 rfl rfl hx1 rfl (i := 0) rfl rfl ?_
 refine r_move rfl rfl rfl (r_move rfl rfl rfl ?_)
 obtain ⟨v1, hv1, hm⟩ := bind_some hm
 refine r_callG0 ent37 rfl rfl rfl rfl hx1 (ref35_size_ok _ _ _ _ _ hv1 hx1.sat hs1) ?_
 rintro _ Fx1 _ wx2 hF1 hx2 ⟨rfl, rfl⟩
 refine r_bin rfl rfl rfl rfl rfl ?_
 refine r_assign rfl rfl rfl (r_nil (q_then (c_ret ?_)))
 refine b_ret1 rfl rfl ?_
 obtain rfl := Option.some.inj hm
 exact ⟨_, _, _, rfl, hx2.pick [] (by decide) rfl, rfl, rfl⟩


theorem ze24 : ZeroIs Tryd.prog 24 (.agg #[.int .i64 0, .int .i64 0, vs [], .slice none 0 0]) := fun _ => by kernel_rfl

theorem ent30 : Ent Tryd.prog 30 := fun _ _ => by kernel_rfl

def tariff_sized_L1 (n : Nat) (rec_tariff_sized : Expr → Int → Int → Option (Int × Bool)) (x1 : Expr) (levels1 : Int) (kont1 : Int → Option (Int × Bool)) : Nat → Int → Int → Option (Int × Bool)
 | 0, _, _ => none
 | mx1 + 1, i1, f1 =>
  bif decide (i1 < (x1.Args.length : Int)) then
   (ix x1.Args i1).bind fun ex1 =>
   (rec_tariff_sized ex1 (isub .i64 levels1 1) f1).bind fun v2 =>
   bif !v2.2 then
    some (v2.1, false)
   else
    tariff_sized_L1 n rec_tariff_sized x1 levels1 kont1 mx1 (iadd .i64 i1 1) v2.1
  else
   kont1 f1

theorem tariff_sized_L1_s (n : Nat) (rec_tariff_sized : Expr → Int → Int → Option (Int × Bool)) (x1 : Expr) (levels1 : Int) (kont1 : Int → Option (Int × Bool)) (mx1 : Nat) (i1 : Int) (f1 : Int) : tariff_sized_L1 n rec_tariff_sized x1 levels1 kont1 (mx1 + 1) i1 f1 =
  bif decide (i1 < (x1.Args.length : Int)) then
   (ix x1.Args i1).bind fun ex1 =>
   (rec_tariff_sized ex1 (isub .i64 levels1 1) f1).bind fun v2 =>
   bif !v2.2 then
    some (v2.1, false)
   else
    tariff_sized_L1 n rec_tariff_sized x1 levels1 kont1 mx1 (iadd .i64 i1 1) v2.1
  else
   kont1 f1 := rfl

def tariff_sized : Nat → Expr → Int → Int → Option (Int × Bool)
 | 0, _, _, _ => none
 | n + 1, x1, levels1, left1 =>
  (bif decide (levels1 < 1) then
   some true
  else
   some (decide ((isub .i64 left1 1) < 0))).bind fun v1 =>
  bif v1 then
   some (isub .i64 left1 1, false)
  else
   tariff_sized_L1 n (tariff_sized n) x1 levels1 (fun (f2 : Int) =>
    some (f2, true)) n 0 (isub .i64 left1 1)

theorem tariff_sized_s (n : Nat) (x1 : Expr) (levels1 : Int) (left1 : Int) : tariff_sized (n + 1) x1 levels1 left1 =
  (bif decide (levels1 < 1) then
   some true
  else
   some (decide ((isub .i64 left1 1) < 0))).bind fun v1 =>
  bif v1 then
   some (isub .i64 left1 1, false)
  else
   tariff_sized_L1 n (tariff_sized n) x1 levels1 (fun (f2 : Int) =>
    some (f2, true)) n 0 (isub .i64 left1 1) := rfl

set_option maxHeartbeats 1000000 in
set_option maxRecDepth 1000000 in
theorem tariff_sized_all (n : Nat) : (∀ (x1 : Expr) (levels1 : Int) (left1 : Int) (r : (Int × Bool)) (_ : tariff_sized n x1 levels1 left1 = some r) {w : World} {F : Frz} (_ : Sat F w) {as1 : Option Addr} {ns1 : Nat} {cs1 : Nat} {bleft1 : Nat} (_ : SlR rp_Expr F as1 ns1 cs1 x1.Args) (_ : (OE.box bleft1 3 [.int .i64 left1]).ok w) (_ : F bleft1 = none), Calls Tryd.prog 30 #[.agg #[.int .i64 x1.Op, .int .i64 x1.N, vs x1.Name, .slice as1 ns1 cs1], .int .i64 levels1, .pointer (some ⟨bleft1, 0, none⟩)] w fun e w' => ∃ v F' cs' O', e = .returned v ∧ HS F w [bleft1] F' (.box bleft1 3 cs' :: O') w' ∧ (v = .bool r.2 ∧ cs' = [.int .i64 r.1] ∧ O' = [])) := by
 induction n with
 | zero =>
  ·intro x1 levels1 left1 r hm
   exact absurd (show (none : Option (Int × Bool)) = some r from hm) (by simp)
 | succ n ih =>
  ·intro x1 levels1 left1 r hm w F hs as1 ns1 cs1 bleft1 hs1 hbleft1 hfleft1
   rw [tariff_sized_s] at hm
   have h := HS.lend hs hbleft1 hfleft1
   refine calls_of 36 Tryd.func30 rfl rfl rfl ?_
   refine c_seq (c_region ?_)
   refine r_box rfl rfl rfl rfl h ?_
   intro b1 wx1 hx1
   refine r_assign rfl rfl rfl (r_nil (q_then (c_seq (c_region (r_move rfl rfl rfl ?_)))))
   refine r_nilC rfl rfl rfl ?_
   refine r_loadB1 ag3 rfl rfl hx1 rfl (i := 1) rfl rfl ?_
   refine r_bin rfl rfl rfl rfl rfl ?_
   refine r_nilC rfl rfl rfl ?_
   refine r_store sz3 rfl hx1 rfl rfl rfl rfl (i := 1) rfl rfl rfl rfl ?_
   intro wx2 hx2
   refine r_nil (q_then (c_seq (c_seq (c_region (r_move rfl rfl rfl ?_)))))
   refine r_bin rfl rfl rfl rfl rfl ?_
   refine r_move rfl rfl rfl ?_
   obtain ⟨v1, hb1, hm⟩ := bind_some hm
   refine r_mid 5 (fun a w' => wx2 = w' ∧ Has 36 a [(1, .int .i64 levels1), (2, .pointer (some ⟨bleft1, 0, none⟩)), (3, .pointer (some ⟨b1, 0, none⟩)), (21, .bool v1)]) ?_ ?_
   ·rintro a wx3 ⟨rfl, hax1⟩
    refine rw_apply hax1 ?_
    refine r_nil (q_then ?_)
    rcases cond_some hm with ⟨hb2, hm⟩ | ⟨hb2, hm⟩
    ·refine c_lit 21 rfl hb2 ?_
     refine c_true rfl (c_seq (c_region (r_assign rfl rfl rfl (r_nil (q_then (c_ret (q_then_ret ?_)))))))
     refine b_ret1 rfl rfl ?_
     obtain rfl := Option.some.inj hm
     exact ⟨_, _, _, _, rfl, hx2.pick [1] (by decide) rfl, rfl, rfl, rfl⟩
    ·refine c_lit 21 rfl hb2 ?_
     refine c_false rfl (c_skip (q_then (c_seq (c_seq (c_region ?_)))))
     refine r_fieldAddr fa24_3 rfl rfl rfl ?_
     refine r_loadB1 ag22 rfl rfl hx2 rfl (i := 0) rfl rfl ?_
     refine r_lenS hs1.len u22 rfl rfl rfl ?_
     refine r_move rfl rfl rfl (r_nil (q_then (c_block ?_)))
     intro a hax4
     obtain ⟨kont1, hkont1⟩ : ∃ kont1 : Int → Option (Int × Bool), kont1 = (fun (f2 : Int) =>
       some (f2, true)) := ⟨_, rfl⟩
     replace hm : (fun m (s : Int × Int) => tariff_sized_L1 n (tariff_sized n) x1 levels1 kont1 m s.1 s.2) n (0, (isub .i64 left1 1)) = some r := by rw [hkont1]; exact hm
     refine loopX (id := 0) (fun m (s : Int × Int) => tariff_sized_L1 n (tariff_sized n) x1 levels1 kont1 m s.1 s.2) (fun (y : Int) => kont1 y) r (fun (s : Int × Int) a w' => ∃ (Fx1 : Frz), Frz.le F Fx1 ∧ HS F w [bleft1] Fx1 [.box bleft1 3 [.int .i64 s.2]] w' ∧ Has 36 a [(1, .int .i64 levels1), (2, .pointer (some ⟨bleft1, 0, none⟩)), (23, .slice as1 ns1 cs1), (24, .int .i64 (x1.Args.length : Int)), (25, .int .i64 s.1)]) (fun (y : Int) a w' => ∃ (Fx2 : Frz), Frz.le F Fx2 ∧ HS F w [bleft1] Fx2 [.box bleft1 3 [.int .i64 y]] w' ∧ Has 36 a []) (fun _ => rfl) ?_ ?_ hm ⟨_, Frz.refl _, hx2.pick [1] (by decide) rfl, hax4.cut (l := [1, 2, 23, 24, 25]) rfl⟩
     ·clear hm; rintro f2 a wx4 hm ⟨Fx2, hF2, hx4, hax2⟩
      rw [hkont1] at hm
      replace hm := hm
      refine qw_apply (e := .exit 0) hax2 ?_
      refine q_block_hit (q_then (c_seq (c_region (r_assign rfl rfl rfl (r_nil (q_then (c_ret ?_)))))))
      refine b_ret1 rfl rfl ?_
      obtain rfl := Option.some.inj hm
      exact ⟨_, _, _, _, rfl, hx4.pick [0] (by decide) rfl, rfl, rfl, rfl⟩
     ·clear hm hkont1; intro hk1 mx1 K ihx1
      rintro ⟨i1, f1⟩ a wx5 hm ⟨Fx1, hF1, hx3, hax3⟩
      simp only [tariff_sized_L1_s] at hm
      refine cw_apply hax3 ?_
      refine c_seq (c_region ?_)
      refine r_bin rfl rfl rfl rfl rfl ?_
      refine r_nil (q_then (c_seq ?_))
      rcases cond_some hm with ⟨hb3, hm⟩ | ⟨hb3, hm⟩
      ·refine c_lit 26 rfl hb3 ?_
       refine c_true rfl (c_skip (q_then (c_seq (c_block (c_seq (c_region ?_))))))
       obtain ⟨ex1, he1, hm⟩ := bind_some hm
       refine r_findex (r := rp_Expr) u22 sz24 rfl rfl rfl rfl (hs1.mono hF1) he1 ?_
       intro b2 o1 cs1 hf1 hr1
       obtain ⟨as2, ns2, cs2, hc1, hs2⟩ := expr_iff.1 hr1
       subst hc1
       refine r_loadFW ag24 sz24 rfl rfl hx3 hf1 rfl rfl ?_
       refine r_alloc ze24 rfl rfl rfl hx3 ?_
       intro b3 wx6 hx5
       refine r_store sz24 rfl hx5 rfl rfl rfl rfl (i := 0) rfl rfl rfl rfl ?_
       intro wx7 hx6
       refine r_nil (q_then (c_seq (c_region ?_)))
       refine r_loadBW ag24 sz24 rfl rfl hx6 rfl (i := 0) rfl rfl ?_
       refine r_move rfl rfl rfl ?_
       refine r_bin rfl rfl rfl rfl rfl ?_
       refine r_move rfl rfl rfl ?_
       obtain ⟨v2, hv1, hm⟩ := bind_some hm
       refine r_callL ent30 rfl rfl rfl rfl hx6 (i := 1) rfl (ih _ _ _ _ hv1 hx6.sat hs2 (hx6.get (i := 1) rfl) (hx6.lendable (i := 1) rfl)) ?_
       rintro _ Fx3 _ _ wx8 hF3 hx7 ⟨rfl, rfl, rfl⟩
       refine r_not rfl rfl rfl (r_nil (q_then ?_))
       rcases cond_some hm with ⟨hb4, hm⟩ | ⟨hb4, hm⟩
       ·refine c_lit 34 rfl hb4 ?_
        refine c_true rfl (c_seq (c_region (r_assign rfl rfl rfl (r_nil (q_then (c_ret (q_block_ret (q_then_ret (q_then_ret (q_block_ret (q_then_ret ?_)))))))))))
        refine b_ret1 rfl rfl ?_
        obtain rfl := Option.some.inj hm
        exact ⟨_, _, _, _, rfl, hx7.pick [1] (by decide) rfl, rfl, rfl, rfl⟩
       ·refine c_lit 34 rfl hb4 ?_
        refine c_false rfl (c_skip (q_block (q_then (c_region ?_))))
        refine r_bin rfl rfl rfl rfl rfl ?_
        refine r_move rfl rfl rfl (r_nil ?_)
        refine q_next (fun a ha => ihx1 ((iadd .i64 i1 1), v2.1) a _ hm ?_)
        exact ⟨_, (hF1.trans hF3), hx7.pick [1] (by decide) rfl, ha.cut (l := [1, 2, 23, 24, 25]) rfl⟩
      ·refine c_lit 26 rfl hb3 ?_
       refine c_false rfl (c_exit (q_then_exit (q_then_exit ?_)))
       refine fun a ha => hk1 f1 a _ hm ?_
       exact ⟨_, hF1, hx3.pick [0] (by decide) rfl, ha.cut (l := []) rfl⟩
   ·clear hm
    rcases cond_some hb1 with ⟨hb5, hb1⟩ | ⟨hb5, hb1⟩
    ·refine r_lit 16 rfl hb5 ?_
     refine r_off rfl (by decide) rfl (r_off rfl (by decide) rfl (r_off rfl (by decide) rfl (r_off rfl (by decide) rfl (r_pick_true rfl rfl rfl rfl (r_nil ?_)))))
     refine q_next (fun a ha => ?_)
     cases hb1
     exact ⟨rfl, ha.cut (l := [1, 2, 3, 21]) rfl⟩
    ·refine r_lit 16 rfl hb5 ?_
     refine r_move rfl rfl rfl ?_
     refine r_nilC rfl rfl rfl ?_
     refine r_loadB1 ag3 rfl rfl hx2 rfl (i := 1) rfl rfl ?_
     refine r_bin rfl rfl rfl rfl rfl ?_
     refine r_pick_false rfl rfl rfl rfl (r_nil ?_)
     refine q_next (fun a ha => ?_)
     cases hb1
     exact ⟨rfl, ha.cut (l := [1, 2, 3, 21]) rfl⟩

theorem tariff_sized_ok (n : Nat) (x1 : Expr) (levels1 : Int) (left1 : Int) (r : (Int × Bool)) (hm : tariff_sized n x1 levels1 left1 = some r) {w : World} {F : Frz} (hs : Sat F w) {as1 : Option Addr} {ns1 : Nat} {cs1 : Nat} {bleft1 : Nat} (hs1 : SlR rp_Expr F as1 ns1 cs1 x1.Args) (hbleft1 : (OE.box bleft1 3 [.int .i64 left1]).ok w) (hfleft1 : F bleft1 = none) :
  Calls Tryd.prog 30 #[.agg #[.int .i64 x1.Op, .int .i64 x1.N, vs x1.Name, .slice as1 ns1 cs1], .int .i64 levels1, .pointer (some ⟨bleft1, 0, none⟩)] w fun e w' => ∃ v F' cs' O', e = .returned v ∧ HS F w [bleft1] F' (.box bleft1 3 cs' :: O') w' ∧ (v = .bool r.2 ∧ cs' = [.int .i64 r.1] ∧ O' = []) :=
 (tariff_sized_all n) x1 levels1 left1 r hm hs hs1 hbleft1 hfleft1


end Go.Proofs.YtpihabofmnnbbaaDoor.M
