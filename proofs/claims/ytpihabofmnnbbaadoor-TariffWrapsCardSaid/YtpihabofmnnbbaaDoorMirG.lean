/-
  THE MIRRORS of the tariff's and the lexer's functions, of the references and the laws, and that each call returns what its mirror says. Printed by gen.py.
-/
import Derived.Test.YtpihabofmnnbbaaDoorRows
import Derived.Test.YtpihabofmnnbbaaDoorRtZ
import Derived.Test.YtpihabofmnnbbaaDoorExpr
import Derived.Test.YtpihabofmnnbbaaDoorExtT
import Derived.Test.YtpihabofmnnbbaaDoorMirF
namespace Go.Proofs.YtpihabofmnnbbaaDoor.M
open Go Go.RowKit Rt

theorem ent25 : Ent Tryd.prog 25 := fun _ _ => by kernel_rfl

theorem ent24 : Ent Tryd.prog 24 := fun _ _ => by kernel_rfl

theorem ent43 : Ent Tryd.prog 43 := fun _ _ => by kernel_rfl

mutual
def tariff_text : Nat → Expr → Option Bs
 | 0, _ => none
 | n + 1, x1 =>
  bif x1.Op == 0 then
   (strconv_Itoa n x1.N).bind fun v1 =>
   some v1
  else
   bif x1.Op == 2 then
    some [112, 101, 114, 115, 111, 110, 115]
   else
    bif x1.Op == 3 then
     some [102, 108, 97, 116, 115]
    else
     bif x1.Op == 1 then
      (scat [108, 105, 102, 116, 115, 32, 40, 32] x1.Name).bind fun t1 =>
      (scat t1 [32, 41]).bind fun t2 =>
      some t2
     else
      bif x1.Op == 4 then
       (scat [119, 101, 105, 103, 104, 116, 32, 40, 32] x1.Name).bind fun t3 =>
       (scat t3 [32, 41]).bind fun t4 =>
       some t4
      else
       bif x1.Op == 9 then
        (ix x1.Args 0).bind fun ex1 =>
        (tariff_text n ex1).bind fun v2 =>
        (scat [109, 105, 110, 32, 40, 32] v2).bind fun t5 =>
        (scat t5 [32, 44, 32]).bind fun t6 =>
        (ix x1.Args 1).bind fun ex2 =>
        (tariff_text n ex2).bind fun v3 =>
        (scat t6 v3).bind fun t7 =>
        (scat t7 [32, 41]).bind fun t8 =>
        some t8
       else
        bif x1.Op == 10 then
         (ix x1.Args 0).bind fun ex3 =>
         (tariff_text n ex3).bind fun v4 =>
         (scat [109, 97, 120, 32, 40, 32] v4).bind fun t9 =>
         (scat t9 [32, 44, 32]).bind fun t10 =>
         (ix x1.Args 1).bind fun ex4 =>
         (tariff_text n ex4).bind fun v5 =>
         (scat t10 v5).bind fun t11 =>
         (scat t11 [32, 41]).bind fun t12 =>
         some t12
        else
         bif x1.Op == 14 then
          (ix x1.Args 0).bind fun ex5 =>
          (tariff_atomic n ex5).bind fun v6 =>
          (scat [110, 111, 116, 32] v6).bind fun t13 =>
          some t13
         else
          bif x1.Op == 11 then
           (ix x1.Args 0).bind fun ex6 =>
           (tariff_atomic n ex6).bind fun v7 =>
           (scat [105, 102, 32] v7).bind fun t14 =>
           (scat t14 [32, 116, 104, 101, 110, 32]).bind fun t15 =>
           (ix x1.Args 1).bind fun ex7 =>
           (tariff_atomic n ex7).bind fun v8 =>
           (scat t15 v8).bind fun t16 =>
           (scat t16 [32, 101, 108, 115, 101, 32]).bind fun t17 =>
           (ix x1.Args 2).bind fun ex8 =>
           (tariff_atomic n ex8).bind fun v9 =>
           (scat t17 v9).bind fun t18 =>
           some t18
          else
           (tariff_operators n).bind fun v10 =>
           mloop n v10.length
            (match List.find? (fun (q : Bs × Int) => q.2 == x1.Op) v10 with
            | none =>
             some []
            | some q =>
             (ix x1.Args 0).bind fun ex10 =>
             (tariff_atomic n ex10).bind fun v12 =>
             (scat v12 [32]).bind fun t19 =>
             (scat t19 q.1).bind fun t20 =>
             (scat t20 [32]).bind fun t21 =>
             (ix x1.Args 1).bind fun ex11 =>
             (tariff_atomic n ex11).bind fun v13 =>
             (scat t21 v13).bind fun t22 =>
             some t22)
def tariff_atomic : Nat → Expr → Option Bs
 | 0, _ => none
 | n + 1, x1 =>
  (bif decide (0 < (x1.Args.length : Int)) then
   some (x1.Op != 9)
  else
   some false).bind fun v1 =>
  (bif v1 then
   some (x1.Op != 10)
  else
   some false).bind fun v2 =>
  bif v2 then
   (tariff_text n x1).bind fun v3 =>
   (scat [40, 32] v3).bind fun t1 =>
   (scat t1 [32, 41]).bind fun t2 =>
   some t2
  else
   (tariff_text n x1).bind fun v4 =>
   some v4
 end

theorem tariff_text_s (n : Nat) (x1 : Expr) : tariff_text (n + 1) x1 =
  bif x1.Op == 0 then
   (strconv_Itoa n x1.N).bind fun v1 =>
   some v1
  else
   bif x1.Op == 2 then
    some [112, 101, 114, 115, 111, 110, 115]
   else
    bif x1.Op == 3 then
     some [102, 108, 97, 116, 115]
    else
     bif x1.Op == 1 then
      (scat [108, 105, 102, 116, 115, 32, 40, 32] x1.Name).bind fun t1 =>
      (scat t1 [32, 41]).bind fun t2 =>
      some t2
     else
      bif x1.Op == 4 then
       (scat [119, 101, 105, 103, 104, 116, 32, 40, 32] x1.Name).bind fun t3 =>
       (scat t3 [32, 41]).bind fun t4 =>
       some t4
      else
       bif x1.Op == 9 then
        (ix x1.Args 0).bind fun ex1 =>
        (tariff_text n ex1).bind fun v2 =>
        (scat [109, 105, 110, 32, 40, 32] v2).bind fun t5 =>
        (scat t5 [32, 44, 32]).bind fun t6 =>
        (ix x1.Args 1).bind fun ex2 =>
        (tariff_text n ex2).bind fun v3 =>
        (scat t6 v3).bind fun t7 =>
        (scat t7 [32, 41]).bind fun t8 =>
        some t8
       else
        bif x1.Op == 10 then
         (ix x1.Args 0).bind fun ex3 =>
         (tariff_text n ex3).bind fun v4 =>
         (scat [109, 97, 120, 32, 40, 32] v4).bind fun t9 =>
         (scat t9 [32, 44, 32]).bind fun t10 =>
         (ix x1.Args 1).bind fun ex4 =>
         (tariff_text n ex4).bind fun v5 =>
         (scat t10 v5).bind fun t11 =>
         (scat t11 [32, 41]).bind fun t12 =>
         some t12
        else
         bif x1.Op == 14 then
          (ix x1.Args 0).bind fun ex5 =>
          (tariff_atomic n ex5).bind fun v6 =>
          (scat [110, 111, 116, 32] v6).bind fun t13 =>
          some t13
         else
          bif x1.Op == 11 then
           (ix x1.Args 0).bind fun ex6 =>
           (tariff_atomic n ex6).bind fun v7 =>
           (scat [105, 102, 32] v7).bind fun t14 =>
           (scat t14 [32, 116, 104, 101, 110, 32]).bind fun t15 =>
           (ix x1.Args 1).bind fun ex7 =>
           (tariff_atomic n ex7).bind fun v8 =>
           (scat t15 v8).bind fun t16 =>
           (scat t16 [32, 101, 108, 115, 101, 32]).bind fun t17 =>
           (ix x1.Args 2).bind fun ex8 =>
           (tariff_atomic n ex8).bind fun v9 =>
           (scat t17 v9).bind fun t18 =>
           some t18
          else
           (tariff_operators n).bind fun v10 =>
           mloop n v10.length
            (match List.find? (fun (q : Bs × Int) => q.2 == x1.Op) v10 with
            | none =>
             some []
            | some q =>
             (ix x1.Args 0).bind fun ex10 =>
             (tariff_atomic n ex10).bind fun v12 =>
             (scat v12 [32]).bind fun t19 =>
             (scat t19 q.1).bind fun t20 =>
             (scat t20 [32]).bind fun t21 =>
             (ix x1.Args 1).bind fun ex11 =>
             (tariff_atomic n ex11).bind fun v13 =>
             (scat t21 v13).bind fun t22 =>
             some t22) := rfl

theorem tariff_atomic_s (n : Nat) (x1 : Expr) : tariff_atomic (n + 1) x1 =
  (bif decide (0 < (x1.Args.length : Int)) then
   some (x1.Op != 9)
  else
   some false).bind fun v1 =>
  (bif v1 then
   some (x1.Op != 10)
  else
   some false).bind fun v2 =>
  bif v2 then
   (tariff_text n x1).bind fun v3 =>
   (scat [40, 32] v3).bind fun t1 =>
   (scat t1 [32, 41]).bind fun t2 =>
   some t2
  else
   (tariff_text n x1).bind fun v4 =>
   some v4 := rfl

set_option maxHeartbeats 1000000 in
set_option maxRecDepth 1000000 in
theorem tariff_text_all (n : Nat) : (∀ (x1 : Expr) (r : Bs) (_ : tariff_text n x1 = some r) {w : World} {F : Frz} (_ : Sat F w) {as1 : Option Addr} {ns1 : Nat} {cs1 : Nat} (_ : SlR rp_Expr F as1 ns1 cs1 x1.Args) (_ : FX F 1 (Lib.pow10Tab.map (Value.int .u64))), Calls Tryd.prog 24 #[.agg #[.int .i64 x1.Op, .int .i64 x1.N, vs x1.Name, .slice as1 ns1 cs1]] w fun e w' => ∃ v F' O', e = .returned v ∧ HS F w [] F' O' w' ∧ (v = vs r ∧ O' = [])) ∧
  (∀ (x1 : Expr) (r : Bs) (_ : tariff_atomic n x1 = some r) {w : World} {F : Frz} (_ : Sat F w) {as1 : Option Addr} {ns1 : Nat} {cs1 : Nat} (_ : SlR rp_Expr F as1 ns1 cs1 x1.Args) (_ : FX F 1 (Lib.pow10Tab.map (Value.int .u64))), Calls Tryd.prog 43 #[.agg #[.int .i64 x1.Op, .int .i64 x1.N, vs x1.Name, .slice as1 ns1 cs1]] w fun e w' => ∃ v F' O', e = .returned v ∧ HS F w [] F' O' w' ∧ (v = vs r ∧ O' = [])) := by
 induction n with
 | zero =>
  refine ⟨?_, ?_⟩
  ·intro x1 r hm
   exact absurd (show (none : Option Bs) = some r from hm) (by simp)
  ·intro x1 r hm
   exact absurd (show (none : Option Bs) = some r from hm) (by simp)
 | succ n ih =>
  refine ⟨?_, ?_⟩
  ·intro x1 r hm w F hs as1 ns1 cs1 hs1 hg1
   rw [tariff_text_s] at hm
   have h := HS.init hs
   refine calls_of 116 Tryd.func24 rfl rfl rfl ?_
   refine c_seq (c_region ?_)
   refine r_box rfl rfl rfl rfl h ?_
   intro b1 wx1 hx1
   refine r_assign rfl rfl rfl (r_nil (q_then (c_seq (c_seq (c_region ?_)))))
   refine r_fieldAddr fa24_0 rfl rfl rfl ?_
   refine r_loadB1 ag3 rfl rfl hx1 rfl (i := 0) rfl rfl ?_
   refine r_nil (q_then (c_block (c_seq (c_region ?_))))
   refine r_bin rfl rfl rfl rfl rfl ?_
   refine r_assign rfl rfl rfl (r_nil (q_then ?_))
   rcases cond_some hm with ⟨hb1, hm⟩ | ⟨hb1, hm⟩
   ·refine c_lit 7 rfl hb1 ?_
    refine c_true rfl (c_seq (c_region ?_))
    refine r_fieldAddr fa24_1 rfl rfl rfl ?_
    refine r_loadB1 ag3 rfl rfl hx1 rfl (i := 0) rfl rfl ?_
    obtain ⟨v1, hv1, hm⟩ := bind_some hm
    refine r_callG0 ent25 rfl rfl rfl rfl hx1 (strconv_Itoa_ok _ _ _ hv1 hx1.sat hg1) ?_
    rintro _ Fx1 _ wx2 hF1 hx2 ⟨rfl, rfl⟩
    refine r_assign rfl rfl rfl (r_nil (q_then (c_ret (q_block_ret (q_then_ret ?_)))))
    refine b_ret1 rfl rfl ?_
    obtain rfl := Option.some.inj hm
    exact ⟨_, _, _, rfl, hx2.pick [] (by decide) rfl, rfl, rfl⟩
   ·refine c_lit 7 rfl hb1 ?_
    refine c_false rfl (c_seq (c_region ?_))
    refine r_bin rfl rfl rfl rfl rfl ?_
    refine r_assign rfl rfl rfl (r_nil (q_then ?_))
    rcases cond_some hm with ⟨hb2, hm⟩ | ⟨hb2, hm⟩
    ·refine c_lit 12 rfl hb2 ?_
     refine c_true rfl (c_seq (c_region (r_assign rfl rfl rfl (r_nil (q_then (c_ret (q_block_ret (q_then_ret ?_))))))))
     refine b_ret1 rfl rfl ?_
     obtain rfl := Option.some.inj hm
     exact ⟨_, _, _, rfl, hx1.pick [] (by decide) rfl, rfl, rfl⟩
    ·refine c_lit 12 rfl hb2 ?_
     refine c_false rfl (c_seq (c_region ?_))
     refine r_bin rfl rfl rfl rfl rfl ?_
     refine r_assign rfl rfl rfl (r_nil (q_then ?_))
     rcases cond_some hm with ⟨hb3, hm⟩ | ⟨hb3, hm⟩
     ·refine c_lit 14 rfl hb3 ?_
      refine c_true rfl (c_seq (c_region (r_assign rfl rfl rfl (r_nil (q_then (c_ret (q_block_ret (q_then_ret ?_))))))))
      refine b_ret1 rfl rfl ?_
      obtain rfl := Option.some.inj hm
      exact ⟨_, _, _, rfl, hx1.pick [] (by decide) rfl, rfl, rfl⟩
     ·refine c_lit 14 rfl hb3 ?_
      refine c_false rfl (c_seq (c_region ?_))
      refine r_bin rfl rfl rfl rfl rfl ?_
      refine r_assign rfl rfl rfl (r_nil (q_then ?_))
      rcases cond_some hm with ⟨hb4, hm⟩ | ⟨hb4, hm⟩
      ·refine c_lit 16 rfl hb4 ?_
       refine c_true rfl (c_seq (c_region ?_))
       refine r_fieldAddr fa24_2 rfl rfl rfl ?_
       refine r_loadB1 ag9 rfl rfl hx1 rfl (i := 0) rfl rfl ?_
       obtain ⟨t1, hq1, hm⟩ := bind_some hm
       refine r_cat rfl rfl rfl rfl hq1 ?_
       obtain ⟨t2, hq2, hm⟩ := bind_some hm
       refine r_cat rfl rfl rfl rfl hq2 ?_
       refine r_assign rfl rfl rfl (r_nil (q_then (c_ret (q_block_ret (q_then_ret ?_)))))
       refine b_ret1 rfl rfl ?_
       obtain rfl := Option.some.inj hm
       exact ⟨_, _, _, rfl, hx1.pick [] (by decide) rfl, rfl, rfl⟩
      ·refine c_lit 16 rfl hb4 ?_
       refine c_false rfl (c_seq (c_region ?_))
       refine r_bin rfl rfl rfl rfl rfl ?_
       refine r_assign rfl rfl rfl (r_nil (q_then ?_))
       rcases cond_some hm with ⟨hb5, hm⟩ | ⟨hb5, hm⟩
       ·refine c_lit 22 rfl hb5 ?_
        refine c_true rfl (c_seq (c_region ?_))
        refine r_fieldAddr fa24_2 rfl rfl rfl ?_
        refine r_loadB1 ag9 rfl rfl hx1 rfl (i := 0) rfl rfl ?_
        obtain ⟨t3, hq3, hm⟩ := bind_some hm
        refine r_cat rfl rfl rfl rfl hq3 ?_
        obtain ⟨t4, hq4, hm⟩ := bind_some hm
        refine r_cat rfl rfl rfl rfl hq4 ?_
        refine r_assign rfl rfl rfl (r_nil (q_then (c_ret (q_block_ret (q_then_ret ?_)))))
        refine b_ret1 rfl rfl ?_
        obtain rfl := Option.some.inj hm
        exact ⟨_, _, _, rfl, hx1.pick [] (by decide) rfl, rfl, rfl⟩
       ·refine c_lit 22 rfl hb5 ?_
        refine c_false rfl (c_seq (c_region ?_))
        refine r_bin rfl rfl rfl rfl rfl ?_
        refine r_assign rfl rfl rfl (r_nil (q_then ?_))
        rcases cond_some hm with ⟨hb6, hm⟩ | ⟨hb6, hm⟩
        ·refine c_lit 28 rfl hb6 ?_
         refine c_true rfl (c_seq ?_)
         refine c_regionD (by kernel_rfl) (by kernel_rfl) hx1 ?_
         refine q_stp rfl rfl rfl rfl (fun _ _ _ _ => r_fieldAddr fa24_3 rfl rfl rfl (r_nil (qq rfl))) ?_
         refine q_stp rfl rfl rfl rfl (fun _ _ _ hq => r_loadB1 ag22 rfl rfl hq rfl (i := 0) rfl rfl (r_nil (qq rfl))) ?_
         obtain ⟨ex1, he1, hm⟩ := bind_some hm
         obtain ⟨b2, o1, cs1, hf1, hr1, hrun1⟩ := findex_ex (P := Tryd.prog) (r := rp_Expr) u22 sz24 hs1 he1
         obtain ⟨as2, ns2, cs2, hc1, hs2⟩ := expr_iff.1 hr1
         subst hc1
         refine q_findex rfl rfl rfl rfl hrun1 ?_
         refine q_stp rfl rfl rfl rfl (fun _ _ hleq hq => r_loadFW ag24 sz24 rfl rfl hq (hf1.mono hleq) rfl rfl (r_nil (qq rfl))) ?_
         obtain ⟨v2, hv2, hm⟩ := bind_some hm
         refine q_callG0 ent24 rfl rfl rfl rfl (fun _ _ hleq hq => ih.1 _ _ hv2 hq.sat (hs2.mono hleq) (hg1.mono hleq)) ?_
         obtain ⟨t5, hq5, hm⟩ := bind_some hm
         refine q_stp rfl rfl rfl rfl (fun _ _ _ _ => r_cat rfl rfl rfl rfl hq5 (r_nil (qq rfl))) ?_
         obtain ⟨t6, hq6, hm⟩ := bind_some hm
         refine q_stp rfl rfl rfl rfl (fun _ _ _ _ => r_cat rfl rfl rfl rfl hq6 (r_nil (qq rfl))) ?_
         refine q_stp rfl rfl rfl rfl (fun _ _ _ _ => r_fieldAddr fa24_3 rfl rfl rfl (r_nil (qq rfl))) ?_
         refine q_stp rfl rfl rfl rfl (fun _ _ _ hq => r_loadB1 ag22 rfl rfl hq rfl (i := 0) rfl rfl (r_nil (qq rfl))) ?_
         obtain ⟨ex2, he2, hm⟩ := bind_some hm
         obtain ⟨b3, o2, cs2, hf2, hr2, hrun2⟩ := findex_ex (P := Tryd.prog) (r := rp_Expr) u22 sz24 hs1 he2
         obtain ⟨as3, ns3, cs3, hc2, hs3⟩ := expr_iff.1 hr2
         subst hc2
         refine q_findex rfl rfl rfl rfl hrun2 ?_
         refine q_stp rfl rfl rfl rfl (fun _ _ hleq hq => r_loadFW ag24 sz24 rfl rfl hq (hf2.mono hleq) rfl rfl (r_nil (qq rfl))) ?_
         obtain ⟨v3, hv3, hm⟩ := bind_some hm
         refine q_callG0 ent24 rfl rfl rfl rfl (fun _ _ hleq hq => ih.1 _ _ hv3 hq.sat (hs3.mono hleq) (hg1.mono hleq)) ?_
         obtain ⟨t7, hq7, hm⟩ := bind_some hm
         refine q_stp rfl rfl rfl rfl (fun _ _ _ _ => r_cat rfl rfl rfl rfl hq7 (r_nil (qq rfl))) ?_
         obtain ⟨t8, hq8, hm⟩ := bind_some hm
         refine q_stp rfl rfl rfl rfl (fun _ _ _ _ => r_cat rfl rfl rfl rfl hq8 (r_nil (qq rfl))) ?_
         refine q_stp rfl rfl rfl rfl (fun _ _ _ _ => r_assign rfl rfl rfl (r_nil (qq rfl))) ?_
         refine q_end ?_
         rintro wx3 ⟨Fx2, hF2, hx3⟩
         refine q_then (c_ret (q_block_ret (q_then_ret ?_)))
         refine b_ret1 rfl rfl ?_
         obtain rfl := Option.some.inj hm
         exact ⟨_, _, _, rfl, hx3.pick [] (by decide) rfl, rfl, rfl⟩
        ·refine c_lit 28 rfl hb6 ?_
         refine c_false rfl (c_seq (c_region ?_))
         refine r_bin rfl rfl rfl rfl rfl ?_
         refine r_assign rfl rfl rfl (r_nil (q_then ?_))
         rcases cond_some hm with ⟨hb7, hm⟩ | ⟨hb7, hm⟩
         ·refine c_lit 44 rfl hb7 ?_
          refine c_true rfl (c_seq ?_)
          refine c_regionD (by kernel_rfl) (by kernel_rfl) hx1 ?_
          refine q_stp rfl rfl rfl rfl (fun _ _ _ _ => r_fieldAddr fa24_3 rfl rfl rfl (r_nil (qq rfl))) ?_
          refine q_stp rfl rfl rfl rfl (fun _ _ _ hq => r_loadB1 ag22 rfl rfl hq rfl (i := 0) rfl rfl (r_nil (qq rfl))) ?_
          obtain ⟨ex3, he3, hm⟩ := bind_some hm
          obtain ⟨b4, o3, cs3, hf3, hr3, hrun3⟩ := findex_ex (P := Tryd.prog) (r := rp_Expr) u22 sz24 hs1 he3
          obtain ⟨as4, ns4, cs4, hc3, hs4⟩ := expr_iff.1 hr3
          subst hc3
          refine q_findex rfl rfl rfl rfl hrun3 ?_
          refine q_stp rfl rfl rfl rfl (fun _ _ hleq hq => r_loadFW ag24 sz24 rfl rfl hq (hf3.mono hleq) rfl rfl (r_nil (qq rfl))) ?_
          obtain ⟨v4, hv4, hm⟩ := bind_some hm
          refine q_callG0 ent24 rfl rfl rfl rfl (fun _ _ hleq hq => ih.1 _ _ hv4 hq.sat (hs4.mono hleq) (hg1.mono hleq)) ?_
          obtain ⟨t9, hq9, hm⟩ := bind_some hm
          refine q_stp rfl rfl rfl rfl (fun _ _ _ _ => r_cat rfl rfl rfl rfl hq9 (r_nil (qq rfl))) ?_
          obtain ⟨t10, hq10, hm⟩ := bind_some hm
          refine q_stp rfl rfl rfl rfl (fun _ _ _ _ => r_cat rfl rfl rfl rfl hq10 (r_nil (qq rfl))) ?_
          refine q_stp rfl rfl rfl rfl (fun _ _ _ _ => r_fieldAddr fa24_3 rfl rfl rfl (r_nil (qq rfl))) ?_
          refine q_stp rfl rfl rfl rfl (fun _ _ _ hq => r_loadB1 ag22 rfl rfl hq rfl (i := 0) rfl rfl (r_nil (qq rfl))) ?_
          obtain ⟨ex4, he4, hm⟩ := bind_some hm
          obtain ⟨b5, o4, cs4, hf4, hr4, hrun4⟩ := findex_ex (P := Tryd.prog) (r := rp_Expr) u22 sz24 hs1 he4
          obtain ⟨as5, ns5, cs5, hc4, hs5⟩ := expr_iff.1 hr4
          subst hc4
          refine q_findex rfl rfl rfl rfl hrun4 ?_
          refine q_stp rfl rfl rfl rfl (fun _ _ hleq hq => r_loadFW ag24 sz24 rfl rfl hq (hf4.mono hleq) rfl rfl (r_nil (qq rfl))) ?_
          obtain ⟨v5, hv5, hm⟩ := bind_some hm
          refine q_callG0 ent24 rfl rfl rfl rfl (fun _ _ hleq hq => ih.1 _ _ hv5 hq.sat (hs5.mono hleq) (hg1.mono hleq)) ?_
          obtain ⟨t11, hq11, hm⟩ := bind_some hm
          refine q_stp rfl rfl rfl rfl (fun _ _ _ _ => r_cat rfl rfl rfl rfl hq11 (r_nil (qq rfl))) ?_
          obtain ⟨t12, hq12, hm⟩ := bind_some hm
          refine q_stp rfl rfl rfl rfl (fun _ _ _ _ => r_cat rfl rfl rfl rfl hq12 (r_nil (qq rfl))) ?_
          refine q_stp rfl rfl rfl rfl (fun _ _ _ _ => r_assign rfl rfl rfl (r_nil (qq rfl))) ?_
          refine q_end ?_
          rintro wx4 ⟨Fx3, hF3, hx4⟩
          refine q_then (c_ret (q_block_ret (q_then_ret ?_)))
          refine b_ret1 rfl rfl ?_
          obtain rfl := Option.some.inj hm
          exact ⟨_, _, _, rfl, hx4.pick [] (by decide) rfl, rfl, rfl⟩
         ·refine c_lit 44 rfl hb7 ?_
          refine c_false rfl (c_seq (c_region ?_))
          refine r_bin rfl rfl rfl rfl rfl ?_
          refine r_assign rfl rfl rfl (r_nil (q_then ?_))
          rcases cond_some hm with ⟨hb8, hm⟩ | ⟨hb8, hm⟩
          ·refine c_lit 60 rfl hb8 ?_
           refine c_true rfl (c_seq (c_region ?_))
           refine r_fieldAddr fa24_3 rfl rfl rfl ?_
           refine r_loadB1 ag22 rfl rfl hx1 rfl (i := 0) rfl rfl ?_
           obtain ⟨ex5, he5, hm⟩ := bind_some hm
           refine r_findex (r := rp_Expr) u22 sz24 rfl rfl rfl rfl hs1 he5 ?_
           intro b6 o5 cs5 hf5 hr5
           obtain ⟨as6, ns6, cs6, hc5, hs6⟩ := expr_iff.1 hr5
           subst hc5
           refine r_loadFW ag24 sz24 rfl rfl hx1 hf5 rfl rfl ?_
           obtain ⟨v6, hv6, hm⟩ := bind_some hm
           refine r_callG0 ent43 rfl rfl rfl rfl hx1 (ih.2 _ _ hv6 hx1.sat hs6 hg1) ?_
           rintro _ Fx4 _ wx5 hF4 hx5 ⟨rfl, rfl⟩
           obtain ⟨t13, hq13, hm⟩ := bind_some hm
           refine r_cat rfl rfl rfl rfl hq13 ?_
           refine r_assign rfl rfl rfl (r_nil (q_then (c_ret (q_block_ret (q_then_ret ?_)))))
           refine b_ret1 rfl rfl ?_
           obtain rfl := Option.some.inj hm
           exact ⟨_, _, _, rfl, hx5.pick [] (by decide) rfl, rfl, rfl⟩
          ·refine c_lit 60 rfl hb8 ?_
           refine c_false rfl (c_seq (c_region ?_))
           refine r_bin rfl rfl rfl rfl rfl ?_
           refine r_assign rfl rfl rfl (r_nil (q_then ?_))
           rcases cond_some hm with ⟨hb9, hm⟩ | ⟨hb9, hm⟩
           ·refine c_lit 68 rfl hb9 ?_
            refine c_true rfl (c_seq ?_)
            refine c_regionD (by kernel_rfl) (by kernel_rfl) hx1 ?_
            refine q_stp rfl rfl rfl rfl (fun _ _ _ _ => r_fieldAddr fa24_3 rfl rfl rfl (r_nil (qq rfl))) ?_
            refine q_stp rfl rfl rfl rfl (fun _ _ _ hq => r_loadB1 ag22 rfl rfl hq rfl (i := 0) rfl rfl (r_nil (qq rfl))) ?_
            obtain ⟨ex6, he6, hm⟩ := bind_some hm
            obtain ⟨b7, o6, cs6, hf6, hr6, hrun5⟩ := findex_ex (P := Tryd.prog) (r := rp_Expr) u22 sz24 hs1 he6
            obtain ⟨as7, ns7, cs7, hc6, hs7⟩ := expr_iff.1 hr6
            subst hc6
            refine q_findex rfl rfl rfl rfl hrun5 ?_
            refine q_stp rfl rfl rfl rfl (fun _ _ hleq hq => r_loadFW ag24 sz24 rfl rfl hq (hf6.mono hleq) rfl rfl (r_nil (qq rfl))) ?_
            obtain ⟨v7, hv7, hm⟩ := bind_some hm
            refine q_callG0 ent43 rfl rfl rfl rfl (fun _ _ hleq hq => ih.2 _ _ hv7 hq.sat (hs7.mono hleq) (hg1.mono hleq)) ?_
            obtain ⟨t14, hq14, hm⟩ := bind_some hm
            refine q_stp rfl rfl rfl rfl (fun _ _ _ _ => r_cat rfl rfl rfl rfl hq14 (r_nil (qq rfl))) ?_
            obtain ⟨t15, hq15, hm⟩ := bind_some hm
            refine q_stp rfl rfl rfl rfl (fun _ _ _ _ => r_cat rfl rfl rfl rfl hq15 (r_nil (qq rfl))) ?_
            refine q_stp rfl rfl rfl rfl (fun _ _ _ _ => r_fieldAddr fa24_3 rfl rfl rfl (r_nil (qq rfl))) ?_
            refine q_stp rfl rfl rfl rfl (fun _ _ _ hq => r_loadB1 ag22 rfl rfl hq rfl (i := 0) rfl rfl (r_nil (qq rfl))) ?_
            obtain ⟨ex7, he7, hm⟩ := bind_some hm
            obtain ⟨b8, o7, cs7, hf7, hr7, hrun6⟩ := findex_ex (P := Tryd.prog) (r := rp_Expr) u22 sz24 hs1 he7
            obtain ⟨as8, ns8, cs8, hc7, hs8⟩ := expr_iff.1 hr7
            subst hc7
            refine q_findex rfl rfl rfl rfl hrun6 ?_
            refine q_stp rfl rfl rfl rfl (fun _ _ hleq hq => r_loadFW ag24 sz24 rfl rfl hq (hf7.mono hleq) rfl rfl (r_nil (qq rfl))) ?_
            obtain ⟨v8, hv8, hm⟩ := bind_some hm
            refine q_callG0 ent43 rfl rfl rfl rfl (fun _ _ hleq hq => ih.2 _ _ hv8 hq.sat (hs8.mono hleq) (hg1.mono hleq)) ?_
            obtain ⟨t16, hq16, hm⟩ := bind_some hm
            refine q_stp rfl rfl rfl rfl (fun _ _ _ _ => r_cat rfl rfl rfl rfl hq16 (r_nil (qq rfl))) ?_
            obtain ⟨t17, hq17, hm⟩ := bind_some hm
            refine q_stp rfl rfl rfl rfl (fun _ _ _ _ => r_cat rfl rfl rfl rfl hq17 (r_nil (qq rfl))) ?_
            refine q_stp rfl rfl rfl rfl (fun _ _ _ _ => r_fieldAddr fa24_3 rfl rfl rfl (r_nil (qq rfl))) ?_
            refine q_stp rfl rfl rfl rfl (fun _ _ _ hq => r_loadB1 ag22 rfl rfl hq rfl (i := 0) rfl rfl (r_nil (qq rfl))) ?_
            obtain ⟨ex8, he8, hm⟩ := bind_some hm
            obtain ⟨b9, o8, cs8, hf8, hr8, hrun7⟩ := findex_ex (P := Tryd.prog) (r := rp_Expr) u22 sz24 hs1 he8
            obtain ⟨as9, ns9, cs9, hc8, hs9⟩ := expr_iff.1 hr8
            subst hc8
            refine q_findex rfl rfl rfl rfl hrun7 ?_
            refine q_stp rfl rfl rfl rfl (fun _ _ hleq hq => r_loadFW ag24 sz24 rfl rfl hq (hf8.mono hleq) rfl rfl (r_nil (qq rfl))) ?_
            obtain ⟨v9, hv9, hm⟩ := bind_some hm
            refine q_callG0 ent43 rfl rfl rfl rfl (fun _ _ hleq hq => ih.2 _ _ hv9 hq.sat (hs9.mono hleq) (hg1.mono hleq)) ?_
            obtain ⟨t18, hq18, hm⟩ := bind_some hm
            refine q_stp rfl rfl rfl rfl (fun _ _ _ _ => r_cat rfl rfl rfl rfl hq18 (r_nil (qq rfl))) ?_
            refine q_stp rfl rfl rfl rfl (fun _ _ _ _ => r_assign rfl rfl rfl (r_nil (qq rfl))) ?_
            refine q_end ?_
            rintro wx6 ⟨Fx5, hF5, hx6⟩
            refine q_then (c_ret (q_block_ret (q_then_ret ?_)))
            refine b_ret1 rfl rfl ?_
            obtain rfl := Option.some.inj hm
            exact ⟨_, _, _, rfl, hx6.pick [] (by decide) rfl, rfl, rfl⟩
           ·refine c_lit 68 rfl hb9 ?_
            refine c_false rfl (c_skip (q_block (q_then (c_seq (c_seq (c_region ?_))))))
            obtain ⟨v10, hv10, hm⟩ := bind_some hm
            refine r_callG0 ent44 rfl rfl rfl rfl hx1 (tariff_operators_ok _ _ hv10 hx1.sat) ?_
            rintro _ Fx6 _ wx7 hF6 hx7 ⟨bs10, ess10, cls10, rfl, rfl, hs10⟩
            refine r_range um76 rfl rfl rfl hx7 (i := 0) rfl ?_
            intro b10 wx8 hx8
            refine r_nil (q_then (c_block ?_))
            intro a ax1
            obtain ⟨_, hV0⟩ := mloop_some hm
            have hU : ∀ q, q ∈ v10 → ∀ q', q' ∈ v10 → q.2 = q'.2 → q = q' := by
             obtain rfl := Option.some.inj ((rfl : tariff_operators n = some _).symm.trans hv10)
             decide
            refine loopR (fun m (s : Nat) => mloop m s (match List.find? (fun (q : Bs × Int) => q.2 == x1.Op) v10 with | none => some [] | some q => (ix x1.Args 0).bind fun ex10 => (tariff_atomic n ex10).bind fun v12 => (scat v12 [32]).bind fun t19 => (scat t19 q.1).bind fun t20 => (scat t20 [32]).bind fun t21 => (ix x1.Args 1).bind fun ex11 => (tariff_atomic n ex11).bind fun v13 => (scat t21 v13).bind fun t22 => some t22)) r (fun (s : Nat) a w' => ∃ (seen1 : Array Nat) (c1 : Nat), HS F w [] Fx6 [.it b10 (.mapIter (some bs10) cls10 seen1 c1), .mp bs10 ess10 cls10, .box b1 24 [.int .i64 x1.Op, .int .i64 x1.N, vs x1.Name, .slice as1 ns1 cs1]] w' ∧ cls10 ≤ c1 ∧ (leftOf ess10.toArray seen1).size ≤ s ∧ Failed vs (Value.int .i64) (fun (q : Bs × Int) => q.2 == x1.Op) ess10 seen1 ∧ Has 116 a [(1, .pointer (some ⟨b1, 0, none⟩)), (91, .pointer (some ⟨b10, 0, none⟩))]) (fun _ => mloop_zero) ?_ hm ⟨#[], cls10, hx8, Nat.le_refl _, left_init hs10, failed_init, ax1.cut (l := [1, 91]) rfl⟩
            clear hm hV0
            intro mx1 Kx1 ihx1
            rintro s11 a wx9 hmx1 ⟨seen1, c1, hx9, hc9, hsz1, hfl1, hax1⟩
            obtain ⟨hlt2, hV⟩ := mloop_some hmx1
            refine cw_apply hax1 ?_
            refine c_seq (c_region ?_)
            refine r_next rfl rfl hx9 rfl (j := 0) (i := 1) rfl rfl rfl hc9 (fun hL1 => ?_) (fun ex9 he9 wx10 hx10 => ?_)
            ·have hN := find_none (p := (fun (q : Bs × Int) => q.2 == x1.Op)) vs_int_inj hs10 hL1 hfl1
             rw [hN] at hV
             replace hV : (some []) = some r := hV
             refine r_extract rfl rfl rfl rfl (r_nil (q_then (c_seq (c_false rfl (c_exit (q_then_exit (q_then_exit (q_block_hit (q_then (c_seq (c_region (r_assign rfl rfl rfl (r_nil (q_then (c_ret ?_)))))))))))))))
             refine b_ret1 rfl rfl ?_
             obtain rfl := Option.some.inj hV
             exact ⟨_, _, _, rfl, hx9.pick [] (by decide) rfl, rfl, rfl⟩
            ·obtain ⟨k1, v11, hq19, hk1, hv11⟩ := mpr_mem hs10 ex9 (mem_leftOf he9)
             rw [hk1, hv11]
             have hlt := left_push he9
             refine r_extract rfl rfl rfl rfl (r_nil (q_then (c_seq (c_true rfl (c_skip (q_then (c_block (c_seq (c_region ?_)))))))))
             refine r_entry rfl rfl hx10 rfl (j := 0) (i := 1) rfl rfl he9 ?_
             rw [hk1, hv11]
             refine r_extract rfl rfl rfl rfl (r_extract rfl rfl rfl rfl (r_assign rfl rfl rfl (r_assign rfl rfl rfl (r_nil (q_then (c_seq (c_region (r_move rfl rfl rfl ?_))))))))
             refine r_fieldAddr fa24_0 rfl rfl rfl ?_
             refine r_loadB1 ag3 rfl rfl hx10 rfl (i := 2) rfl rfl ?_
             refine r_bin rfl rfl rfl rfl rfl ?_
             refine r_nil (q_then ?_)
             cases hp1 : (v11 == x1.Op) with
             | true =>
              have hF := find_one (p := (fun (q : Bs × Int) => q.2 == x1.Op)) hq19 hp1 (fun x hx hpx => hU x hx _ hq19 (by simp only [beq_iff_eq] at hpx hp1; rw [hpx, hp1]))
              rw [hF] at hV
              replace hV : ((ix x1.Args 0).bind fun ex10 => (tariff_atomic n ex10).bind fun v12 => (scat v12 [32]).bind fun t19 => (scat t19 k1).bind fun t20 => (scat t20 [32]).bind fun t21 => (ix x1.Args 1).bind fun ex11 => (tariff_atomic n ex11).bind fun v13 => (scat t21 v13).bind fun t22 => some t22) = some r := hV
              refine c_lit 100 rfl rfl ?_
              refine c_true rfl (c_seq ?_)
              refine c_regionD (by kernel_rfl) (by kernel_rfl) hx10 ?_
              refine q_stp rfl rfl rfl rfl (fun _ _ _ _ => r_fieldAddr fa24_3 rfl rfl rfl (r_nil (qq rfl))) ?_
              refine q_stp rfl rfl rfl rfl (fun _ _ _ hq => r_loadB1 ag22 rfl rfl hq rfl (i := 2) rfl rfl (r_nil (qq rfl))) ?_
              obtain ⟨ex10, he10, hV⟩ := bind_some hV
              obtain ⟨b11, o9, cs9, hf9, hr9, hrun8⟩ := findex_ex (P := Tryd.prog) (r := rp_Expr) u22 sz24 (hs1.mono hF6) he10
              obtain ⟨as12, ns12, cs12, hc10, hs12⟩ := expr_iff.1 hr9
              subst hc10
              refine q_findex rfl rfl rfl rfl hrun8 ?_
              refine q_stp rfl rfl rfl rfl (fun _ _ hleq hq => r_loadFW ag24 sz24 rfl rfl hq (hf9.mono hleq) rfl rfl (r_nil (qq rfl))) ?_
              obtain ⟨v12, hv12, hV⟩ := bind_some hV
              refine q_callG0 ent43 rfl rfl rfl rfl (fun _ _ hleq hq => ih.2 _ _ hv12 hq.sat (hs12.mono hleq) ((hg1.mono hF6).mono hleq)) ?_
              obtain ⟨t19, hq20, hV⟩ := bind_some hV
              refine q_stp rfl rfl rfl rfl (fun _ _ _ _ => r_cat rfl rfl rfl rfl hq20 (r_nil (qq rfl))) ?_
              refine q_stp rfl rfl rfl rfl (fun _ _ _ _ => r_move rfl rfl rfl (r_nil (qq rfl))) ?_
              obtain ⟨t20, hq21, hV⟩ := bind_some hV
              refine q_stp rfl rfl rfl rfl (fun _ _ _ _ => r_cat rfl rfl rfl rfl hq21 (r_nil (qq rfl))) ?_
              obtain ⟨t21, hq22, hV⟩ := bind_some hV
              refine q_stp rfl rfl rfl rfl (fun _ _ _ _ => r_cat rfl rfl rfl rfl hq22 (r_nil (qq rfl))) ?_
              refine q_stp rfl rfl rfl rfl (fun _ _ _ _ => r_fieldAddr fa24_3 rfl rfl rfl (r_nil (qq rfl))) ?_
              refine q_stp rfl rfl rfl rfl (fun _ _ _ hq => r_loadB1 ag22 rfl rfl hq rfl (i := 2) rfl rfl (r_nil (qq rfl))) ?_
              obtain ⟨ex11, he11, hV⟩ := bind_some hV
              obtain ⟨b12, o10, cs10, hf10, hr10, hrun9⟩ := findex_ex (P := Tryd.prog) (r := rp_Expr) u22 sz24 (hs1.mono hF6) he11
              obtain ⟨as13, ns13, cs13, hc11, hs13⟩ := expr_iff.1 hr10
              subst hc11
              refine q_findex rfl rfl rfl rfl hrun9 ?_
              refine q_stp rfl rfl rfl rfl (fun _ _ hleq hq => r_loadFW ag24 sz24 rfl rfl hq (hf10.mono hleq) rfl rfl (r_nil (qq rfl))) ?_
              obtain ⟨v13, hv13, hV⟩ := bind_some hV
              refine q_callG0 ent43 rfl rfl rfl rfl (fun _ _ hleq hq => ih.2 _ _ hv13 hq.sat (hs13.mono hleq) ((hg1.mono hF6).mono hleq)) ?_
              obtain ⟨t22, hq23, hV⟩ := bind_some hV
              refine q_stp rfl rfl rfl rfl (fun _ _ _ _ => r_cat rfl rfl rfl rfl hq23 (r_nil (qq rfl))) ?_
              refine q_stp rfl rfl rfl rfl (fun _ _ _ _ => r_assign rfl rfl rfl (r_nil (qq rfl))) ?_
              refine q_end ?_
              rintro wx11 ⟨Fx7, hF7, hx11⟩
              refine q_then (c_ret (q_block_ret (q_then_ret (q_block_ret (q_then_ret ?_)))))
              refine b_ret1 rfl rfl ?_
              obtain rfl := Option.some.inj hV
              exact ⟨_, _, _, rfl, hx11.pick [] (by decide) rfl, rfl, rfl⟩
             | false =>
              refine c_lit 100 rfl rfl ?_
              refine c_false rfl (c_skip (q_block ?_))
              refine q_next (fun a ha => ihx1 (s11 - 1) a _ ?_ ?_)
              ·exact mloop_of (by omega) hV
              ·exact ⟨(seen1.push ex9.born), cls10, hx10.pick [0, 1, 2] (by decide) rfl, Nat.le_refl _, by omega, failed_push (hx10.get (i := 1) rfl).2.1 hfl1 (mem_leftOf he9) hk1 hv11 hp1, ha.cut (l := [1, 91]) rfl⟩
  ·intro x1 r hm w F hs as1 ns1 cs1 hs1 hg1
   rw [tariff_atomic_s] at hm
   have h := HS.init hs
   refine calls_of 23 Tryd.func43 rfl rfl rfl ?_
   refine c_seq (c_region ?_)
   refine r_box rfl rfl rfl rfl h ?_
   intro b1 wx1 hx1
   refine r_assign rfl rfl rfl (r_nil (q_then (c_seq (c_seq (c_region ?_)))))
   refine r_fieldAddr fa24_3 rfl rfl rfl ?_
   refine r_loadB1 ag22 rfl rfl hx1 rfl (i := 0) rfl rfl ?_
   refine r_lenS hs1.len u22 rfl rfl rfl ?_
   refine r_bin rfl rfl rfl rfl rfl ?_
   refine r_move rfl rfl rfl ?_
   obtain ⟨v1, hb1, hm⟩ := bind_some hm
   refine r_mid 4 (fun a w' => wx1 = w' ∧ Has 23 a [(1, .pointer (some ⟨b1, 0, none⟩)), (11, .bool v1)]) ?_ ?_
   ·rintro a wx2 ⟨rfl, hax1⟩
    refine rw_apply hax1 ?_
    refine r_move rfl rfl rfl ?_
    obtain ⟨v2, hb2, hm⟩ := bind_some hm
    refine r_mid 4 (fun a w' => wx1 = w' ∧ Has 23 a [(1, .pointer (some ⟨b1, 0, none⟩)), (16, .bool v2)]) ?_ ?_
    ·rintro a wx3 ⟨rfl, hax2⟩
     refine rw_apply hax2 ?_
     refine r_nil (q_then ?_)
     rcases cond_some hm with ⟨hb3, hm⟩ | ⟨hb3, hm⟩
     ·refine c_lit 16 rfl hb3 ?_
      refine c_true rfl (c_seq (c_region ?_))
      refine r_loadBW ag24 sz24 rfl rfl hx1 rfl (i := 0) rfl rfl ?_
      obtain ⟨v3, hv1, hm⟩ := bind_some hm
      refine r_callG0 ent24 rfl rfl rfl rfl hx1 (ih.1 _ _ hv1 hx1.sat hs1 hg1) ?_
      rintro _ Fx1 _ wx4 hF1 hx2 ⟨rfl, rfl⟩
      obtain ⟨t1, hq1, hm⟩ := bind_some hm
      refine r_cat rfl rfl rfl rfl hq1 ?_
      obtain ⟨t2, hq2, hm⟩ := bind_some hm
      refine r_cat rfl rfl rfl rfl hq2 ?_
      refine r_assign rfl rfl rfl (r_nil (q_then (c_ret (q_then_ret ?_))))
      refine b_ret1 rfl rfl ?_
      obtain rfl := Option.some.inj hm
      exact ⟨_, _, _, rfl, hx2.pick [] (by decide) rfl, rfl, rfl⟩
     ·refine c_lit 16 rfl hb3 ?_
      refine c_false rfl (c_skip (q_then (c_seq (c_region ?_))))
      refine r_loadBW ag24 sz24 rfl rfl hx1 rfl (i := 0) rfl rfl ?_
      obtain ⟨v4, hv2, hm⟩ := bind_some hm
      refine r_callG0 ent24 rfl rfl rfl rfl hx1 (ih.1 _ _ hv2 hx1.sat hs1 hg1) ?_
      rintro _ Fx2 _ wx5 hF2 hx3 ⟨rfl, rfl⟩
      refine r_assign rfl rfl rfl (r_nil (q_then (c_ret ?_)))
      refine b_ret1 rfl rfl ?_
      obtain rfl := Option.some.inj hm
      exact ⟨_, _, _, rfl, hx3.pick [] (by decide) rfl, rfl, rfl⟩
    ·clear hm
     rcases cond_some hb2 with ⟨hb4, hb2⟩ | ⟨hb4, hb2⟩
     ·refine r_lit 12 rfl hb4 ?_
      refine r_fieldAddr fa24_0 rfl rfl rfl ?_
      refine r_loadB1 ag3 rfl rfl hx1 rfl (i := 0) rfl rfl ?_
      refine r_bin rfl rfl rfl rfl rfl ?_
      refine r_pick_true rfl rfl rfl rfl (r_nil ?_)
      refine q_next (fun a ha => ?_)
      cases hb2
      exact ⟨rfl, ha.cut (l := [1, 16]) rfl⟩
     ·refine r_lit 12 rfl hb4 ?_
      refine r_off rfl (by decide) rfl (r_off rfl (by decide) rfl (r_off rfl (by decide) rfl (r_pick_false rfl rfl rfl rfl (r_nil ?_))))
      refine q_next (fun a ha => ?_)
      cases hb2
      exact ⟨rfl, ha.cut (l := [1, 16]) rfl⟩
   ·clear hm
    rcases cond_some hb1 with ⟨hb5, hb1⟩ | ⟨hb5, hb1⟩
    ·refine r_lit 7 rfl hb5 ?_
     refine r_fieldAddr fa24_0 rfl rfl rfl ?_
     refine r_loadB1 ag3 rfl rfl hx1 rfl (i := 0) rfl rfl ?_
     refine r_bin rfl rfl rfl rfl rfl ?_
     refine r_pick_true rfl rfl rfl rfl (r_nil ?_)
     refine q_next (fun a ha => ?_)
     cases hb1
     exact ⟨rfl, ha.cut (l := [1, 11]) rfl⟩
    ·refine r_lit 7 rfl hb5 ?_
     refine r_off rfl (by decide) rfl (r_off rfl (by decide) rfl (r_off rfl (by decide) rfl (r_pick_false rfl rfl rfl rfl (r_nil ?_))))
     refine q_next (fun a ha => ?_)
     cases hb1
     exact ⟨rfl, ha.cut (l := [1, 11]) rfl⟩

theorem tariff_text_ok (n : Nat) (x1 : Expr) (r : Bs) (hm : tariff_text n x1 = some r) {w : World} {F : Frz} (hs : Sat F w) {as1 : Option Addr} {ns1 : Nat} {cs1 : Nat} (hs1 : SlR rp_Expr F as1 ns1 cs1 x1.Args) (hg1 : FX F 1 (Lib.pow10Tab.map (Value.int .u64))) :
  Calls Tryd.prog 24 #[.agg #[.int .i64 x1.Op, .int .i64 x1.N, vs x1.Name, .slice as1 ns1 cs1]] w fun e w' => ∃ v F' O', e = .returned v ∧ HS F w [] F' O' w' ∧ (v = vs r ∧ O' = []) :=
 (tariff_text_all n).1 x1 r hm hs hs1 hg1

theorem tariff_atomic_ok (n : Nat) (x1 : Expr) (r : Bs) (hm : tariff_atomic n x1 = some r) {w : World} {F : Frz} (hs : Sat F w) {as1 : Option Addr} {ns1 : Nat} {cs1 : Nat} (hs1 : SlR rp_Expr F as1 ns1 cs1 x1.Args) (hg1 : FX F 1 (Lib.pow10Tab.map (Value.int .u64))) :
  Calls Tryd.prog 43 #[.agg #[.int .i64 x1.Op, .int .i64 x1.N, vs x1.Name, .slice as1 ns1 cs1]] w fun e w' => ∃ v F' O', e = .returned v ∧ HS F w [] F' O' w' ∧ (v = vs r ∧ O' = []) :=
 (tariff_text_all n).2 x1 r hm hs hs1 hg1


def tariff_Print (n : Nat) (t1 : Tariff) : Option (Bs × Bool) :=
 (tariff_writable n t1).bind fun v1 =>
 bif !v1 then
  some ([], false)
 else
  (scat [116, 97, 114, 105, 102, 102, 32] t1.Name).bind fun t2 =>
  (scat t2 [32, 123, 32, 102, 101, 101, 32, 61, 32]).bind fun t3 =>
  (tariff_text n t1.Fee).bind fun v2 =>
  (scat t3 v2).bind fun t4 =>
  (scat t4 [32, 59]).bind fun t5 =>
  (bif t1.Cap != (-1) then
   (strconv_Itoa n t1.Cap).bind fun v3 =>
   (scat [32, 99, 97, 112, 32, 61, 32] v3).bind fun t7 =>
   (scat t7 [32, 59]).bind fun t8 =>
   (scat t5 t8).bind fun t9 =>
   some t9
  else
   some t5).bind fun s2 =>
  (scat s2 [32, 125]).bind fun t6 =>
  some (t6, true)

set_option maxHeartbeats 1000000 in
set_option maxRecDepth 1000000 in
theorem tariff_Print_ok (n : Nat) (t1 : Tariff) (r : (Bs × Bool)) (hm : tariff_Print n t1 = some r) {w : World} {F : Frz} (hs : Sat F w) {as1 : Option Addr} {ns1 : Nat} {cs1 : Nat} (hs1 : SlR rp_Expr F as1 ns1 cs1 t1.Fee.Args) (hg1 : FX F 1 (Lib.pow10Tab.map (Value.int .u64))) :
  Calls Tryd.prog 9 #[.agg #[vs t1.Name, .int .i64 t1.Fee.Op, .int .i64 t1.Fee.N, vs t1.Fee.Name, .slice as1 ns1 cs1, .int .i64 t1.Cap]] w fun e w' => ∃ v F' O', e = .returned v ∧ HS F w [] F' O' w' ∧ (v = .tuple #[vs r.1, .bool r.2] ∧ O' = []) := by
 unfold tariff_Print at hm
 have h := HS.init hs
 refine calls_of 29 Tryd.func9 rfl rfl rfl ?_
 refine c_seq (c_region ?_)
 refine r_box rfl rfl rfl rfl h ?_
 intro b1 wx1 hx1
 refine r_assign rfl rfl rfl (r_assign rfl rfl rfl (r_nil (q_then (c_seq (c_seq (c_region ?_))))))
 refine r_loadBW ag26 sz26 rfl rfl hx1 rfl (i := 0) rfl rfl ?_
 obtain ⟨v1, hv1, hm⟩ := bind_some hm
 refine r_callG0 ent23 rfl rfl rfl rfl hx1 (tariff_writable_ok _ _ _ hv1 hx1.sat hs1) ?_
 rintro _ Fx1 _ wx2 hF1 hx2 ⟨rfl, rfl⟩
 refine r_not rfl rfl rfl (r_nil (q_then ?_))
 rcases cond_some hm with ⟨hb1, hm⟩ | ⟨hb1, hm⟩
 ·refine c_lit 7 rfl hb1 ?_
  refine c_true rfl (c_seq (c_region (r_assign rfl rfl rfl (r_assign rfl rfl rfl (r_nil (q_then (c_ret (q_then_ret ?_))))))))
  refine b_retA (vl := [vs [], .bool false]) rfl ⟨v_tmp rfl, v_tmp rfl, trivial⟩ (by simp) ?_
  obtain rfl := Option.some.inj hm
  exact ⟨_, _, _, rfl, hx2.pick [] (by decide) rfl, rfl, rfl⟩
 ·refine c_lit 7 rfl hb1 ?_
  refine c_false rfl (c_skip (q_then (c_seq ?_)))
  refine c_regionD (by kernel_rfl) (by kernel_rfl) hx2 ?_
  refine q_stp rfl rfl rfl rfl (fun _ _ _ _ => r_fieldAddr fa26_0 rfl rfl rfl (r_nil (qq rfl))) ?_
  refine q_stp rfl rfl rfl rfl (fun _ _ _ hq => r_loadB1 ag9 rfl rfl hq rfl (i := 0) rfl rfl (r_nil (qq rfl))) ?_
  obtain ⟨t2, hq1, hm⟩ := bind_some hm
  refine q_stp rfl rfl rfl rfl (fun _ _ _ _ => r_cat rfl rfl rfl rfl hq1 (r_nil (qq rfl))) ?_
  obtain ⟨t3, hq2, hm⟩ := bind_some hm
  refine q_stp rfl rfl rfl rfl (fun _ _ _ _ => r_cat rfl rfl rfl rfl hq2 (r_nil (qq rfl))) ?_
  refine q_stp rfl rfl rfl rfl (fun _ _ _ _ => r_fieldAddr fa26_1 rfl rfl rfl (r_nil (qq rfl))) ?_
  refine q_stp rfl rfl rfl rfl (fun _ _ _ hq => r_loadBA (cs' := [.int .i64 t1.Fee.Op, .int .i64 t1.Fee.N, vs t1.Fee.Name, .slice as1 ns1 cs1]) ag24 sz24 rfl rfl hq rfl (i := 0) rfl rfl rfl (r_nil (qq rfl))) ?_
  obtain ⟨v2, hv2, hm⟩ := bind_some hm
  refine q_callG0 ent24 rfl rfl rfl rfl (fun _ _ hleq hq => tariff_text_ok _ _ _ hv2 hq.sat ((hs1.mono hF1).mono hleq) ((hg1.mono hF1).mono hleq)) ?_
  obtain ⟨t4, hq3, hm⟩ := bind_some hm
  refine q_stp rfl rfl rfl rfl (fun _ _ _ _ => r_cat rfl rfl rfl rfl hq3 (r_nil (qq rfl))) ?_
  obtain ⟨t5, hq4, hm⟩ := bind_some hm
  refine q_stp rfl rfl rfl rfl (fun _ _ _ _ => r_cat rfl rfl rfl rfl hq4 (r_nil (qq rfl))) ?_
  refine q_stp rfl rfl rfl rfl (fun _ _ _ _ => r_assign rfl rfl rfl (r_nil (qq rfl))) ?_
  refine q_end ?_
  rintro wx3 ⟨Fx2, hF2, hx3⟩
  refine q_then (c_seq (c_seq (c_region ?_)))
  refine r_fieldAddr fa26_2 rfl rfl rfl ?_
  refine r_loadB1 ag3 rfl rfl hx3 rfl (i := 0) rfl rfl ?_
  refine r_bin rfl rfl rfl rfl rfl ?_
  refine r_nil (q_then ?_)
  obtain ⟨s2, hb2, hm⟩ := bind_some hm
  refine c_midT (fun a w' => ∃ (Fx3 : Frz), Frz.le Fx2 Fx3 ∧ HS F w [] Fx3 [.box b1 26 [vs t1.Name, .int .i64 t1.Fee.Op, .int .i64 t1.Fee.N, vs t1.Fee.Name, .slice as1 ns1 cs1, .int .i64 t1.Cap]] w' ∧ Has 29 a [(4, vs s2)]) ?_ ?_
  ·rintro a wx4 ⟨Fx3, hF3, hx4, hax1⟩
   refine cw_apply hax1 ?_
   refine c_seq (c_region (r_move rfl rfl rfl ?_))
   obtain ⟨t6, hq5, hm⟩ := bind_some hm
   refine r_cat rfl rfl rfl rfl hq5 ?_
   refine r_assign rfl rfl rfl (r_assign rfl rfl rfl (r_nil (q_then (c_ret ?_))))
   refine b_retA (vl := [vs t6, .bool true]) rfl ⟨v_tmp rfl, v_tmp rfl, trivial⟩ (by simp) ?_
   obtain rfl := Option.some.inj hm
   exact ⟨_, _, _, rfl, hx4.pick [] (by decide) rfl, rfl, rfl⟩
  ·clear hm
   rcases cond_some hb2 with ⟨hb3, hb2⟩ | ⟨hb3, hb2⟩
   ·refine c_lit 19 rfl hb3 ?_
    refine c_true rfl (c_region (r_move rfl rfl rfl ?_))
    refine r_fieldAddr fa26_2 rfl rfl rfl ?_
    refine r_loadB1 ag3 rfl rfl hx3 rfl (i := 0) rfl rfl ?_
    obtain ⟨v3, hv3, hb2⟩ := bind_some hb2
    refine r_callG0 ent25 rfl rfl rfl rfl hx3 (strconv_Itoa_ok _ _ _ hv3 hx3.sat ((hg1.mono hF1).mono hF2)) ?_
    rintro _ Fx4 _ wx5 hF4 hx5 ⟨rfl, rfl⟩
    obtain ⟨t7, hq6, hb2⟩ := bind_some hb2
    refine r_cat rfl rfl rfl rfl hq6 ?_
    obtain ⟨t8, hq7, hb2⟩ := bind_some hb2
    refine r_cat rfl rfl rfl rfl hq7 ?_
    obtain ⟨t9, hq8, hb2⟩ := bind_some hb2
    refine r_cat rfl rfl rfl rfl hq8 ?_
    refine r_assign rfl rfl rfl (r_nil ?_)
    refine q_next (fun a ha => ?_)
    cases hb2
    exact ⟨_, hF4, hx5.pick [0] (by decide) rfl, ha.cut (l := [4]) rfl⟩
   ·refine c_lit 19 rfl hb3 ?_
    refine c_false rfl (c_skip ?_)
    refine q_next (fun a ha => ?_)
    cases hb2
    exact ⟨_, Frz.refl _, hx3.pick [0] (by decide) rfl, ha.cut (l := [4]) rfl⟩


def law35_leaf (_n : Nat) (op1 : Int) (nx1 : Int) (name1 : Bs) : Option Expr :=
 some (⟨op1, nx1, name1, []⟩ : Expr)

set_option maxHeartbeats 1000000 in
set_option maxRecDepth 1000000 in
theorem law35_leaf_ok (n : Nat) (op1 : Int) (nx1 : Int) (name1 : Bs) (r : Expr) (hm : law35_leaf n op1 nx1 name1 = some r) {w : World} {F : Frz} (hs : Sat F w)  :
  Calls Tryd.prog 22 #[.int .i64 op1, .int .i64 nx1, vs name1] w fun e w' => ∃ v F' O', e = .returned v ∧ HS F w [] F' O' w' ∧ (∃ (a0_3 : Option Addr) (n0_3 : Nat) (c0_3 : Nat), v = .agg #[.int .i64 r.Op, .int .i64 r.N, vs r.Name, .slice a0_3 n0_3 c0_3] ∧ O' = [] ∧ SlR rp_Expr F' a0_3 n0_3 c0_3 r.Args) := by
 unfold law35_leaf at hm
 have h := HS.init hs
 refine calls_of 11 Tryd.func22 rfl rfl rfl ?_
 refine c_seq (c_region ?_)
 refine r_alloc ze24 rfl rfl rfl h ?_
 intro b1 wx1 hx1
 refine r_nil (q_then (c_seq (c_region (r_move rfl rfl rfl (r_move rfl rfl rfl (r_move rfl rfl rfl ?_))))))
 refine r_build (v := .agg #[.int .i64 op1, .int .i64 nx1, vs name1, .slice none 0 0]) rfl rfl rfl (fun _ => by kernel_rfl) ?_
 refine r_store sz24 rfl hx1 rfl rfl rfl rfl (i := 0) rfl rfl rfl rfl ?_
 intro wx2 hx2
 refine r_nil (q_then (c_ret ?_))
 refine b_retC rfl ag24 sz24 rfl hx2 rfl (i := 0) rfl ?_
 obtain rfl := Option.some.inj hm
 exact ⟨_, _, _, rfl, hx2.pick [] (by decide) rfl, none, 0, 0, rfl, rfl, SlR.nil _ _⟩


def law35_two (_n : Nat) (op1 : Int) (ax1 : Expr) (b1 : Expr) : Option Expr :=
 some (⟨op1, 0, [], [ax1, b1]⟩ : Expr)

set_option maxHeartbeats 1000000 in
set_option maxRecDepth 1000000 in
theorem law35_two_ok (n : Nat) (op1 : Int) (ax1 : Expr) (b1 : Expr) (r : Expr) (hm : law35_two n op1 ax1 b1 = some r) {w : World} {F : Frz} (hs : Sat F w) {as1 : Option Addr} {ns1 : Nat} {cs1 : Nat} {as2 : Option Addr} {ns2 : Nat} {cs2 : Nat} (hs1 : SlR rp_Expr F as1 ns1 cs1 ax1.Args) (hs2 : SlR rp_Expr F as2 ns2 cs2 b1.Args) :
  Calls Tryd.prog 21 #[.int .i64 op1, .agg #[.int .i64 ax1.Op, .int .i64 ax1.N, vs ax1.Name, .slice as1 ns1 cs1], .agg #[.int .i64 b1.Op, .int .i64 b1.N, vs b1.Name, .slice as2 ns2 cs2]] w fun e w' => ∃ v F' O', e = .returned v ∧ HS F w [] F' O' w' ∧ (∃ (a0_3 : Option Addr) (n0_3 : Nat) (c0_3 : Nat), v = .agg #[.int .i64 r.Op, .int .i64 r.N, vs r.Name, .slice a0_3 n0_3 c0_3] ∧ O' = [] ∧ SlR rp_Expr F' a0_3 n0_3 c0_3 r.Args) := by
 unfold law35_two at hm
 have h := HS.init hs
 refine calls_of 12 Tryd.func21 rfl rfl rfl ?_
 refine c_seq (c_region ?_)
 refine r_box rfl rfl rfl rfl h ?_
 intro b2 wx1 hx1
 refine r_box rfl rfl rfl rfl hx1 ?_
 intro b3 wx2 hx2
 refine r_alloc ze24 rfl rfl rfl hx2 ?_
 intro b4 wx3 hx3
 refine r_nil (q_then (c_seq (c_region (r_move rfl rfl rfl ?_))))
 refine r_loadBW ag24 sz24 rfl rfl hx3 rfl (i := 2) rfl rfl ?_
 refine r_loadBW ag24 sz24 rfl rfl hx3 rfl (i := 1) rfl rfl ?_
 refine r_buildSlice (e := 24) (cs := [.int .i64 ax1.Op, .int .i64 ax1.N, vs ax1.Name, .slice as1 ns1 cs1, .int .i64 b1.Op, .int .i64 b1.N, vs b1.Name, .slice as2 ns2 cs2]) (q := 4) rfl rfl hx3 rfl (fun _ => by kernel_rfl) rfl rfl ?_
 intro b5 wx4 hx4
 obtain ⟨Fx1, hF1, hx5, hsx1⟩ := freezeRow hx4 (i := 0) rfl ((show RowN rp_Expr F 2 [.int .i64 ax1.Op, .int .i64 ax1.N, vs ax1.Name, .slice as1 ns1 cs1, .int .i64 b1.Op, .int .i64 b1.N, vs b1.Name, .slice as2 ns2 cs2] [ax1, b1] from ⟨rfl, ⟨_, _, rfl, (expr_iff.2 ⟨as1, ns1, cs1, rfl, hs1⟩), ⟨_, _, rfl, (expr_iff.2 ⟨as2, ns2, cs2, rfl, hs2⟩), (rfl : RowR rp_Expr _ [] [])⟩⟩⟩))
 refine r_build (v := .agg #[.int .i64 op1, .int .i64 0, vs [], .slice (some ⟨b5, 0, none⟩) 2 2]) rfl rfl rfl (fun _ => by kernel_rfl) ?_
 refine r_store sz24 rfl hx5 rfl rfl rfl rfl (i := 0) rfl rfl rfl rfl ?_
 intro wx5 hx6
 refine r_nil (q_then (c_ret ?_))
 refine b_retC rfl ag24 sz24 rfl hx6 rfl (i := 0) rfl ?_
 obtain rfl := Option.some.inj hm
 exact ⟨_, _, _, rfl, hx6.pick [] (by decide) rfl, (some ⟨b5, 0, none⟩), 2, 2, rfl, rfl, hsx1⟩


def law35_few_L1 (n : Nat) (l1 : (List Bs)) (kont1 : Option Bool) : Nat → Int → Option Bool
 | 0, _ => none
 | mx1 + 1, i1 =>
  (bif decide (i1 < (l1.length : Int)) then
   some (decide (i1 < 10))
  else
   some false).bind fun v1 =>
  bif v1 then
   (ix l1 i1).bind fun ex1 =>
   bif decide (60 < (ex1.length : Int)) then
    some false
   else
    law35_few_L1 n l1 kont1 mx1 (iadd .i64 i1 1)
  else
   kont1

theorem law35_few_L1_s (n : Nat) (l1 : (List Bs)) (kont1 : Option Bool) (mx1 : Nat) (i1 : Int) : law35_few_L1 n l1 kont1 (mx1 + 1) i1 =
  (bif decide (i1 < (l1.length : Int)) then
   some (decide (i1 < 10))
  else
   some false).bind fun v1 =>
  bif v1 then
   (ix l1 i1).bind fun ex1 =>
   bif decide (60 < (ex1.length : Int)) then
    some false
   else
    law35_few_L1 n l1 kont1 mx1 (iadd .i64 i1 1)
  else
   kont1 := rfl

def law35_few (n : Nat) (l1 : (List Bs)) : Option Bool :=
 law35_few_L1 n l1 (
  some (decide ((l1.length : Int) ≤ 10))) n 0

set_option maxHeartbeats 1000000 in
set_option maxRecDepth 1000000 in
theorem law35_few_ok (n : Nat) (l1 : (List Bs)) (r : Bool) (hm : law35_few n l1 = some r) {w : World} {F : Frz} (hs : Sat F w) {as1 : Option Addr} {ns1 : Nat} {cs1 : Nat} (hs1 : SlR Rp.str F as1 ns1 cs1 l1) :
  Calls Tryd.prog 12 #[.slice as1 ns1 cs1] w fun e w' => e = .returned (.bool r) ∧ w' = w := by
 unfold law35_few at hm
 have h := HS.init hs
 refine calls_of 23 Tryd.func12 rfl rfl rfl ?_
 refine c_seq (c_region (r_assign rfl rfl rfl (r_nil (q_then (c_seq (c_seq (c_region (r_assign rfl rfl rfl (r_nil (q_then (c_block ?_)))))))))))
 intro a hax4
 obtain ⟨kont1, hkont1⟩ : ∃ kont1 : Option Bool, kont1 = (
       some (decide ((l1.length : Int) ≤ 10))) := ⟨_, rfl⟩
 replace hm : (fun m (s : Int) => law35_few_L1 n l1 kont1 m s) n 0 = some r := by rw [hkont1]; exact hm
 refine loopX (id := 0) (fun m (s : Int) => law35_few_L1 n l1 kont1 m s) (fun (y : Unit) => kont1) r (fun (s : Int) a w' => w = w' ∧ Has 23 a [(0, .slice as1 ns1 cs1), (3, .int .i64 s)]) (fun (y : Unit) a w' => w = w' ∧ Has 23 a [(0, .slice as1 ns1 cs1)]) (fun _ => rfl) ?_ ?_ hm ⟨rfl, hax4.cut (l := [0, 3]) rfl⟩
 ·clear hm; rintro _u a wx1 hm ⟨rfl, hax1⟩
  rw [hkont1] at hm
  refine qw_apply (e := .exit 0) hax1 ?_
  refine q_block_hit (q_then (c_seq (c_region (r_move rfl rfl rfl ?_))))
  refine r_lenS hs1.len u36 rfl rfl rfl ?_
  refine r_bin rfl rfl rfl rfl rfl ?_
  refine r_assign rfl rfl rfl (r_nil (q_then (c_ret ?_)))
  refine b_ret1 rfl rfl ?_
  obtain rfl := Option.some.inj hm
  exact ⟨rfl, rfl⟩
 ·clear hm hkont1; intro hk1 mx1 K ihx1
  rintro i1 a wx2 hm ⟨rfl, hax2⟩
  simp only [law35_few_L1_s] at hm
  refine cw_apply hax2 ?_
  refine c_seq (c_seq (c_region (r_move rfl rfl rfl (r_move rfl rfl rfl ?_))))
  refine r_lenS hs1.len u36 rfl rfl rfl ?_
  refine r_bin rfl rfl rfl rfl rfl ?_
  refine r_move rfl rfl rfl ?_
  obtain ⟨v1, hb1, hm⟩ := bind_some hm
  refine r_mid 3 (fun a w' => w = w' ∧ Has 23 a [(0, .slice as1 ns1 cs1), (3, .int .i64 i1), (11, .bool v1)]) ?_ ?_
  ·rintro a wx3 ⟨rfl, hax3⟩
   refine rw_apply hax3 ?_
   refine r_nil (q_then ?_)
   rcases cond_some hm with ⟨hb2, hm⟩ | ⟨hb2, hm⟩
   ·refine c_lit 11 rfl hb2 ?_
    refine c_true rfl (c_skip (q_then (c_seq (c_block (c_seq (c_region (r_move rfl rfl rfl (r_move rfl rfl rfl ?_))))))))
    obtain ⟨ex1, he1, hm⟩ := bind_some hm
    refine r_findex (r := Rp.str) u36 sz9 rfl rfl rfl rfl hs1 he1 ?_
    intro b1 o1 cs1 hf1 hr1
    have hc1 : cs1 = [vs ex1] := hr1
    subst hc1
    refine r_loadF1 (j := 0) ag9 rfl rfl h hf1 rfl rfl ?_
    refine r_slen u9 rfl rfl rfl ?_
    refine r_bin rfl rfl rfl rfl rfl ?_
    refine r_nil (q_then ?_)
    rcases cond_some hm with ⟨hb3, hm⟩ | ⟨hb3, hm⟩
    ·refine c_lit 19 rfl hb3 ?_
     refine c_true rfl (c_seq (c_region (r_assign rfl rfl rfl (r_nil (q_then (c_ret (q_block_ret (q_then_ret (q_then_ret (q_block_ret (q_then_ret ?_)))))))))))
     refine b_ret1 rfl rfl ?_
     obtain rfl := Option.some.inj hm
     exact ⟨rfl, rfl⟩
    ·refine c_lit 19 rfl hb3 ?_
     refine c_false rfl (c_skip (q_block (q_then (c_region (r_move rfl rfl rfl ?_)))))
     refine r_bin rfl rfl rfl rfl rfl ?_
     refine r_assign rfl rfl rfl (r_nil ?_)
     refine q_next (fun a ha => ihx1 (iadd .i64 i1 1) a _ hm ?_)
     exact ⟨rfl, ha.cut (l := [0, 3]) rfl⟩
   ·refine c_lit 11 rfl hb2 ?_
    refine c_false rfl (c_exit (q_then_exit (q_then_exit ?_)))
    refine fun a ha => hk1 () a _ hm ?_
    exact ⟨rfl, ha.cut (l := [0]) rfl⟩
  ·clear hm
   rcases cond_some hb1 with ⟨hb4, hb1⟩ | ⟨hb4, hb1⟩
   ·refine r_lit 8 rfl hb4 ?_
    refine r_move rfl rfl rfl ?_
    refine r_bin rfl rfl rfl rfl rfl ?_
    refine r_pick_true rfl rfl rfl rfl (r_nil ?_)
    refine q_next (fun a ha => ?_)
    cases hb1
    exact ⟨rfl, ha.cut (l := [0, 3, 11]) rfl⟩
   ·refine r_lit 8 rfl hb4 ?_
    refine r_off rfl (by decide) rfl (r_off rfl (by decide) rfl (r_pick_false rfl rfl rfl rfl (r_nil ?_)))
    refine q_next (fun a ha => ?_)
    cases hb1
    exact ⟨rfl, ha.cut (l := [0, 3, 11]) rfl⟩


theorem ent17 : Ent Tryd.prog 17 := fun _ _ => by kernel_rfl

def law35_short_L1 (n : Nat) (rec_law35_short : Expr → Option Bool) (x1 : Expr) (kont1 : Option Bool) : Nat → Int → Option Bool
 | 0, _ => none
 | mx1 + 1, i1 =>
  bif decide (i1 < (x1.Args.length : Int)) then
   (ix x1.Args i1).bind fun ex1 =>
   (rec_law35_short ex1).bind fun v1 =>
   bif !v1 then
    some false
   else
    law35_short_L1 n rec_law35_short x1 kont1 mx1 (iadd .i64 i1 1)
  else
   kont1

theorem law35_short_L1_s (n : Nat) (rec_law35_short : Expr → Option Bool) (x1 : Expr) (kont1 : Option Bool) (mx1 : Nat) (i1 : Int) : law35_short_L1 n rec_law35_short x1 kont1 (mx1 + 1) i1 =
  bif decide (i1 < (x1.Args.length : Int)) then
   (ix x1.Args i1).bind fun ex1 =>
   (rec_law35_short ex1).bind fun v1 =>
   bif !v1 then
    some false
   else
    law35_short_L1 n rec_law35_short x1 kont1 mx1 (iadd .i64 i1 1)
  else
   kont1 := rfl

def law35_short : Nat → Expr → Option Bool
 | 0, _ => none
 | n + 1, x1 =>
  law35_short_L1 n (law35_short n) x1 (
   some (decide ((x1.Name.length : Int) ≤ 60))) n 0

theorem law35_short_s (n : Nat) (x1 : Expr) : law35_short (n + 1) x1 =
  law35_short_L1 n (law35_short n) x1 (
   some (decide ((x1.Name.length : Int) ≤ 60))) n 0 := rfl

set_option maxHeartbeats 1000000 in
set_option maxRecDepth 1000000 in
theorem law35_short_all (n : Nat) : (∀ (x1 : Expr) (r : Bool) (_ : law35_short n x1 = some r) {w : World} {F : Frz} (_ : Sat F w) {as1 : Option Addr} {ns1 : Nat} {cs1 : Nat} (_ : SlR rp_Expr F as1 ns1 cs1 x1.Args), Calls Tryd.prog 17 #[.agg #[.int .i64 x1.Op, .int .i64 x1.N, vs x1.Name, .slice as1 ns1 cs1]] w fun e w' => ∃ v F' O', e = .returned v ∧ HS F w [] F' O' w' ∧ (v = .bool r ∧ O' = [])) := by
 induction n with
 | zero =>
  ·intro x1 r hm
   exact absurd (show (none : Option Bool) = some r from hm) (by simp)
 | succ n ih =>
  ·intro x1 r hm w F hs as1 ns1 cs1 hs1
   rw [law35_short_s] at hm
   have h := HS.init hs
   refine calls_of 22 Tryd.func17 rfl rfl rfl ?_
   refine c_seq (c_region ?_)
   refine r_box rfl rfl rfl rfl h ?_
   intro b1 wx1 hx1
   refine r_assign rfl rfl rfl (r_nil (q_then (c_seq (c_seq (c_region (r_assign rfl rfl rfl (r_nil (q_then (c_block ?_)))))))))
   intro a hax3
   obtain ⟨kont1, hkont1⟩ : ∃ kont1 : Option Bool, kont1 = (
       some (decide ((x1.Name.length : Int) ≤ 60))) := ⟨_, rfl⟩
   replace hm : (fun m (s : Int) => law35_short_L1 n (law35_short n) x1 kont1 m s) n 0 = some r := by rw [hkont1]; exact hm
   refine loopX (id := 0) (fun m (s : Int) => law35_short_L1 n (law35_short n) x1 kont1 m s) (fun (y : Unit) => kont1) r (fun (s : Int) a w' => ∃ (Fx1 : Frz), Frz.le F Fx1 ∧ HS F w [] Fx1 [.box b1 24 [.int .i64 x1.Op, .int .i64 x1.N, vs x1.Name, .slice as1 ns1 cs1]] w' ∧ Has 22 a [(1, .pointer (some ⟨b1, 0, none⟩)), (3, .int .i64 s)]) (fun (y : Unit) a w' => ∃ (Fx2 : Frz), Frz.le F Fx2 ∧ HS F w [] Fx2 [.box b1 24 [.int .i64 x1.Op, .int .i64 x1.N, vs x1.Name, .slice as1 ns1 cs1]] w' ∧ Has 22 a [(1, .pointer (some ⟨b1, 0, none⟩))]) (fun _ => rfl) ?_ ?_ hm ⟨_, Frz.refl _, hx1.pick [0] (by decide) rfl, hax3.cut (l := [1, 3]) rfl⟩
   ·clear hm; rintro _u a wx2 hm ⟨Fx2, hF2, hx3, hax1⟩
    rw [hkont1] at hm
    refine qw_apply (e := .exit 0) hax1 ?_
    refine q_block_hit (q_then (c_seq (c_region ?_)))
    refine r_fieldAddr fa24_2 rfl rfl rfl ?_
    refine r_loadB1 ag9 rfl rfl hx3 rfl (i := 0) rfl rfl ?_
    refine r_slen u9 rfl rfl rfl ?_
    refine r_bin rfl rfl rfl rfl rfl ?_
    refine r_assign rfl rfl rfl (r_nil (q_then (c_ret ?_)))
    refine b_ret1 rfl rfl ?_
    obtain rfl := Option.some.inj hm
    exact ⟨_, _, _, rfl, hx3.pick [] (by decide) rfl, rfl, rfl⟩
   ·clear hm hkont1; intro hk1 mx1 K ihx1
    rintro i1 a wx3 hm ⟨Fx1, hF1, hx2, hax2⟩
    simp only [law35_short_L1_s] at hm
    refine cw_apply hax2 ?_
    refine c_seq (c_seq (c_region (r_move rfl rfl rfl ?_)))
    refine r_fieldAddr fa24_3 rfl rfl rfl ?_
    refine r_loadB1 ag22 rfl rfl hx2 rfl (i := 0) rfl rfl ?_
    refine r_lenS hs1.len u22 rfl rfl rfl ?_
    refine r_bin rfl rfl rfl rfl rfl ?_
    refine r_nil (q_then ?_)
    rcases cond_some hm with ⟨hb1, hm⟩ | ⟨hb1, hm⟩
    ·refine c_lit 8 rfl hb1 ?_
     refine c_true rfl (c_skip (q_then (c_seq (c_block (c_seq (c_region ?_))))))
     refine r_fieldAddr fa24_3 rfl rfl rfl ?_
     refine r_loadB1 ag22 rfl rfl hx2 rfl (i := 0) rfl rfl ?_
     refine r_move rfl rfl rfl ?_
     obtain ⟨ex1, he1, hm⟩ := bind_some hm
     refine r_findex (r := rp_Expr) u22 sz24 rfl rfl rfl rfl (hs1.mono hF1) he1 ?_
     intro b2 o1 cs1 hf1 hr1
     obtain ⟨as2, ns2, cs2, hc1, hs2⟩ := expr_iff.1 hr1
     subst hc1
     refine r_loadFW ag24 sz24 rfl rfl hx2 hf1 rfl rfl ?_
     obtain ⟨v1, hv1, hm⟩ := bind_some hm
     refine r_callG0 ent17 rfl rfl rfl rfl hx2 (ih _ _ hv1 hx2.sat hs2) ?_
     rintro _ Fx3 _ wx4 hF3 hx4 ⟨rfl, rfl⟩
     refine r_not rfl rfl rfl (r_nil (q_then ?_))
     rcases cond_some hm with ⟨hb2, hm⟩ | ⟨hb2, hm⟩
     ·refine c_lit 17 rfl hb2 ?_
      refine c_true rfl (c_seq (c_region (r_assign rfl rfl rfl (r_nil (q_then (c_ret (q_block_ret (q_then_ret (q_then_ret (q_block_ret (q_then_ret ?_)))))))))))
      refine b_ret1 rfl rfl ?_
      obtain rfl := Option.some.inj hm
      exact ⟨_, _, _, rfl, hx4.pick [] (by decide) rfl, rfl, rfl⟩
     ·refine c_lit 17 rfl hb2 ?_
      refine c_false rfl (c_skip (q_block (q_then (c_region (r_move rfl rfl rfl ?_)))))
      refine r_bin rfl rfl rfl rfl rfl ?_
      refine r_assign rfl rfl rfl (r_nil ?_)
      refine q_next (fun a ha => ihx1 (iadd .i64 i1 1) a _ hm ?_)
      exact ⟨_, (hF1.trans hF3), hx4.pick [0] (by decide) rfl, ha.cut (l := [1, 3]) rfl⟩
    ·refine c_lit 8 rfl hb1 ?_
     refine c_false rfl (c_exit (q_then_exit (q_then_exit ?_)))
     refine fun a ha => hk1 () a _ hm ?_
     exact ⟨_, hF1, hx2.pick [0] (by decide) rfl, ha.cut (l := [1]) rfl⟩

theorem law35_short_ok (n : Nat) (x1 : Expr) (r : Bool) (hm : law35_short n x1 = some r) {w : World} {F : Frz} (hs : Sat F w) {as1 : Option Addr} {ns1 : Nat} {cs1 : Nat} (hs1 : SlR rp_Expr F as1 ns1 cs1 x1.Args) :
  Calls Tryd.prog 17 #[.agg #[.int .i64 x1.Op, .int .i64 x1.N, vs x1.Name, .slice as1 ns1 cs1]] w fun e w' => ∃ v F' O', e = .returned v ∧ HS F w [] F' O' w' ∧ (v = .bool r ∧ O' = []) :=
 (law35_short_all n) x1 r hm hs hs1


theorem ent16 : Ent Tryd.prog 16 := fun _ _ => by kernel_rfl

def law35_limited (n : Nat) (t1 : Tariff) : Option Bool :=
 (ref35_Few n t1.Fee 130 14).bind fun v1 =>
 (bif v1 then
  (law35_short n t1.Fee).bind fun v4 =>
  some v4
 else
  some false).bind fun v2 =>
 (bif v2 then
  some (decide ((t1.Name.length : Int) ≤ 60))
 else
  some false).bind fun v3 =>
 some v3

set_option maxHeartbeats 1000000 in
set_option maxRecDepth 1000000 in
theorem law35_limited_ok (n : Nat) (t1 : Tariff) (r : Bool) (hm : law35_limited n t1 = some r) {w : World} {F : Frz} (hs : Sat F w) {as1 : Option Addr} {ns1 : Nat} {cs1 : Nat} (hs1 : SlR rp_Expr F as1 ns1 cs1 t1.Fee.Args) :
  Calls Tryd.prog 8 #[.agg #[vs t1.Name, .int .i64 t1.Fee.Op, .int .i64 t1.Fee.N, vs t1.Fee.Name, .slice as1 ns1 cs1, .int .i64 t1.Cap]] w fun e w' => ∃ v F' O', e = .returned v ∧ HS F w [] F' O' w' ∧ (v = .bool r ∧ O' = []) := by
 unfold law35_limited at hm
 have h := HS.init hs
 refine calls_of 17 Tryd.func8 rfl rfl rfl ?_
 refine c_seq (c_region ?_)
 refine r_box rfl rfl rfl rfl h ?_
 intro b1 wx1 hx1
 refine r_assign rfl rfl rfl (r_nil (q_then (c_seq (c_region ?_))))
 refine r_fieldAddr fa26_1 rfl rfl rfl ?_
 refine r_loadBA (cs' := [.int .i64 t1.Fee.Op, .int .i64 t1.Fee.N, vs t1.Fee.Name, .slice as1 ns1 cs1]) ag24 sz24 rfl rfl hx1 rfl (i := 0) rfl rfl rfl ?_
 obtain ⟨v1, hv1, hm⟩ := bind_some hm
 refine r_callG0 ent16 rfl rfl rfl rfl hx1 (ref35_Few_ok _ _ _ _ _ hv1 hx1.sat hs1) ?_
 rintro _ Fx1 _ wx2 hF1 hx2 ⟨rfl, rfl⟩
 refine r_move rfl rfl rfl ?_
 obtain ⟨v2, hb1, hm⟩ := bind_some hm
 refine r_mid 4 (fun a w' => ∃ (Fx2 : Frz), Frz.le Fx1 Fx2 ∧ HS F w [] Fx2 [.box b1 26 [vs t1.Name, .int .i64 t1.Fee.Op, .int .i64 t1.Fee.N, vs t1.Fee.Name, .slice as1 ns1 cs1, .int .i64 t1.Cap]] w' ∧ Has 17 a [(1, .pointer (some ⟨b1, 0, none⟩)), (10, .bool v2)]) ?_ ?_
 ·rintro a wx3 ⟨Fx2, hF2, hx3, hax1⟩
  refine rw_apply hax1 ?_
  refine r_move rfl rfl rfl ?_
  obtain ⟨v3, hb2, hm⟩ := bind_some hm
  refine r_mid 5 (fun a w' => wx3 = w' ∧ Has 17 a [(16, .bool v3)]) ?_ ?_
  ·rintro a wx4 ⟨rfl, hax2⟩
   refine rw_apply hax2 ?_
   refine r_assign rfl rfl rfl (r_nil (q_then (c_ret ?_)))
   refine b_ret1 rfl rfl ?_
   obtain rfl := Option.some.inj hm
   exact ⟨_, _, _, rfl, hx3.pick [] (by decide) rfl, rfl, rfl⟩
  ·clear hm
   rcases cond_some hb2 with ⟨hb3, hb2⟩ | ⟨hb3, hb2⟩
   ·refine r_lit 11 rfl hb3 ?_
    refine r_fieldAddr fa26_0 rfl rfl rfl ?_
    refine r_loadB1 ag9 rfl rfl hx3 rfl (i := 0) rfl rfl ?_
    refine r_slen u9 rfl rfl rfl ?_
    refine r_bin rfl rfl rfl rfl rfl ?_
    refine r_pick_true rfl rfl rfl rfl (r_nil ?_)
    refine q_next (fun a ha => ?_)
    cases hb2
    exact ⟨rfl, ha.cut (l := [16]) rfl⟩
   ·refine r_lit 11 rfl hb3 ?_
    refine r_off rfl (by decide) rfl (r_off rfl (by decide) rfl (r_off rfl (by decide) rfl (r_off rfl (by decide) rfl (r_pick_false rfl rfl rfl rfl (r_nil ?_)))))
    refine q_next (fun a ha => ?_)
    cases hb2
    exact ⟨rfl, ha.cut (l := [16]) rfl⟩
 ·clear hm
  rcases cond_some hb1 with ⟨hb4, hb1⟩ | ⟨hb4, hb1⟩
  ·refine r_lit 6 rfl hb4 ?_
   refine r_fieldAddr fa26_1 rfl rfl rfl ?_
   refine r_loadBA (cs' := [.int .i64 t1.Fee.Op, .int .i64 t1.Fee.N, vs t1.Fee.Name, .slice as1 ns1 cs1]) ag24 sz24 rfl rfl hx2 rfl (i := 0) rfl rfl rfl ?_
   obtain ⟨v4, hv2, hb1⟩ := bind_some hb1
   refine r_callG0 ent17 rfl rfl rfl rfl hx2 (law35_short_ok _ _ _ hv2 hx2.sat (hs1.mono hF1)) ?_
   rintro _ Fx3 _ wx5 hF3 hx4 ⟨rfl, rfl⟩
   refine r_pick_true rfl rfl rfl rfl (r_nil ?_)
   refine q_next (fun a ha => ?_)
   cases hb1
   exact ⟨_, hF3, hx4.pick [0] (by decide) rfl, ha.cut (l := [1, 10]) rfl⟩
  ·refine r_lit 6 rfl hb4 ?_
   refine r_off rfl (by decide) rfl (r_off rfl (by decide) rfl (r_off rfl (by decide) rfl (r_pick_false rfl rfl rfl rfl (r_nil ?_))))
   refine q_next (fun a ha => ?_)
   cases hb1
   exact ⟨_, Frz.refl _, hx2.pick [0] (by decide) rfl, ha.cut (l := [1, 10]) rfl⟩


end Go.Proofs.YtpihabofmnnbbaaDoor.M
