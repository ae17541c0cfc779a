/-
  THE MIRRORS of the tariff's and the lexer's functions, of the references and the laws, and that each call returns what its mirror says. Printed by gen.py.
-/
import Derived.Test.YtpihabofmnnbbaaDoorRows
import Derived.Test.YtpihabofmnnbbaaDoorRtZ
import Derived.Test.YtpihabofmnnbbaaDoorExpr
import Derived.Test.YtpihabofmnnbbaaDoorExtT
import Derived.Test.YtpihabofmnnbbaaDoorMirD
namespace Go.Proofs.YtpihabofmnnbbaaDoor.M
open Go Go.RowKit Rt

theorem ent47 : Ent Tryd.prog 47 := fun _ _ => by kernel_rfl

theorem ent26 : Ent Tryd.prog 26 := fun _ _ => by kernel_rfl

theorem ent44 : Ent Tryd.prog 44 := fun _ _ => by kernel_rfl

theorem zv3 : ∀ w, (zeroValue 3).run Tryd.prog w = .ok ((Value.int .i64) 0) w := fun _ => by kernel_rfl

theorem fa62_2 : FieldIs Tryd.prog 62 2 2 := fun _ _ _ => by kernel_rfl

theorem ent28 : Ent Tryd.prog 28 := fun _ _ => by kernel_rfl

theorem ent27 : Ent Tryd.prog 27 := fun _ _ => by kernel_rfl

theorem ap22 : AppIs Tryd.prog 22 24 4 56 := AppIs.of (z := .agg #[.int .i64 0, .int .i64 0, vs [], .slice none 0 0]) (by kernel_rfl) (by kernel_rfl) rfl (by decide) (by decide)

theorem sz22 : SizeIs Tryd.prog 22 1 := fun _ => by kernel_rfl

mutual
def tariff_reader_expr : Nat → reader → Option (reader × Expr)
 | 0, _ => none
 | n + 1, rx1 =>
  (tariff_reader_take n rx1 [110, 111, 116]).bind fun v1 =>
  bif v1.2 then
   (tariff_reader_atom n v1.1).bind fun v2 =>
   some (v2.1, (⟨14, 0, [], [v2.2]⟩ : Expr))
  else
   (tariff_reader_take n v1.1 [105, 102]).bind fun v3 =>
   bif v3.2 then
    (tariff_reader_atom n v3.1).bind fun v4 =>
    (tariff_reader_need n v4.1 [[116, 104, 101, 110]]).bind fun v5 =>
    (tariff_reader_atom n v5).bind fun v6 =>
    (tariff_reader_need n v6.1 [[101, 108, 115, 101]]).bind fun v7 =>
    (tariff_reader_atom n v7).bind fun v8 =>
    some (v8.1, (⟨11, 0, [], [v4.2, v6.2, v8.2]⟩ : Expr))
   else
    (tariff_reader_atom n v3.1).bind fun v9 =>
    (tariff_reader_next n v9.1).bind fun v10 =>
    (tariff_operators n).bind fun v11 =>
    (bif !((mget v11 v10.2.Text).isSome) then
     some (true, v10.1.l, v10.1.at_, v10.1.e)
    else
     (tariff_reader_take n v10.1 v10.2.Text).bind fun v14 =>
     some (!v14.2, v14.1.l, v14.1.at_, v14.1.e)).bind fun (v12, f1, f2, f3) =>
    bif v12 then
     some ((⟨f1, f2, f3⟩ : reader), v9.2)
    else
     (tariff_reader_atom n (⟨f1, f2, f3⟩ : reader)).bind fun v13 =>
     some (v13.1, (⟨(mget v11 v10.2.Text).getD 0, 0, [], [v9.2, v13.2]⟩ : Expr))
def tariff_reader_atom : Nat → reader → Option (reader × Expr)
 | 0, _ => none
 | n + 1, rx1 =>
  (tariff_reader_next n rx1).bind fun v1 =>
  bif v1.2.Kind == 1 then
   some ((⟨v1.1.l, iadd .i64 v1.1.at_ 1, v1.1.e⟩ : reader), (⟨0, v1.2.N, [], []⟩ : Expr))
  else
   (bif v1.2.Kind != 0 then
    some (v1.2.Kind != 3)
   else
    some false).bind fun v2 =>
   bif v2 then
    (tariff_reader_fail n v1.1 12).bind fun v3 =>
    some (v3, (⟨0, 0, [], []⟩ : Expr))
   else
    bif v1.2.Text == [40] then
     (tariff_reader_expr n (⟨v1.1.l, iadd .i64 v1.1.at_ 1, v1.1.e⟩ : reader)).bind fun v4 =>
     (tariff_reader_need n v4.1 [[41]]).bind fun v5 =>
     some (v5, v4.2)
    else
     bif v1.2.Text == [112, 101, 114, 115, 111, 110, 115] then
      some ((⟨v1.1.l, iadd .i64 v1.1.at_ 1, v1.1.e⟩ : reader), (⟨2, 0, [], []⟩ : Expr))
     else
      bif v1.2.Text == [102, 108, 97, 116, 115] then
       some ((⟨v1.1.l, iadd .i64 v1.1.at_ 1, v1.1.e⟩ : reader), (⟨3, 0, [], []⟩ : Expr))
      else
       (bif v1.2.Text == [108, 105, 102, 116, 115] then
        some true
       else
        some (v1.2.Text == [119, 101, 105, 103, 104, 116])).bind fun v6 =>
       bif v6 then
        (bif v1.2.Text == [119, 101, 105, 103, 104, 116] then
         some 4
        else
         some 1).bind fun f1 =>
        (tariff_reader_need n (⟨v1.1.l, iadd .i64 v1.1.at_ 1, v1.1.e⟩ : reader) [[40]]).bind fun v7 =>
        (tariff_reader_one n v7 0).bind fun v8 =>
        (tariff_reader_need n v8.1 [[41]]).bind fun v9 =>
        some (v9, (⟨f1, 0, v8.2.Text, []⟩ : Expr))
       else
        (bif v1.2.Text == [109, 105, 110] then
         some true
        else
         some (v1.2.Text == [109, 97, 120])).bind fun v10 =>
        bif v10 then
         (bif v1.2.Text == [109, 97, 120] then
          some 10
         else
          some 9).bind fun f2 =>
         (tariff_reader_need n (⟨v1.1.l, iadd .i64 v1.1.at_ 1, v1.1.e⟩ : reader) [[40]]).bind fun v11 =>
         ((tariff_reader_expr n v11).bind fun v15 =>
         (app 56 ([] : List Expr) [v15.2]).bind fun l4 =>
         some (l4, v15.1.l, v15.1.at_, v15.1.e)).bind fun (l1, f3, f4, f5) =>
         (tariff_reader_need n (⟨f3, f4, f5⟩ : reader) [[44]]).bind fun v12 =>
         ((tariff_reader_expr n v12).bind fun v14 =>
         (app 56 l1 [v14.2]).bind fun l3 =>
         some (l3, v14.1.l, v14.1.at_, v14.1.e)).bind fun (l2, f6, f7, f8) =>
         (tariff_reader_need n (⟨f6, f7, f8⟩ : reader) [[41]]).bind fun v13 =>
         some (v13, (⟨f2, 0, [], l2⟩ : Expr))
        else
         (tariff_reader_fail n (⟨v1.1.l, isub .i64 (iadd .i64 v1.1.at_ 1) 1, v1.1.e⟩ : reader) 12).bind fun v16 =>
         some (v16, (⟨0, 0, [], []⟩ : Expr))
 end

theorem tariff_reader_expr_s (n : Nat) (rx1 : reader) : tariff_reader_expr (n + 1) rx1 =
  (tariff_reader_take n rx1 [110, 111, 116]).bind fun v1 =>
  bif v1.2 then
   (tariff_reader_atom n v1.1).bind fun v2 =>
   some (v2.1, (⟨14, 0, [], [v2.2]⟩ : Expr))
  else
   (tariff_reader_take n v1.1 [105, 102]).bind fun v3 =>
   bif v3.2 then
    (tariff_reader_atom n v3.1).bind fun v4 =>
    (tariff_reader_need n v4.1 [[116, 104, 101, 110]]).bind fun v5 =>
    (tariff_reader_atom n v5).bind fun v6 =>
    (tariff_reader_need n v6.1 [[101, 108, 115, 101]]).bind fun v7 =>
    (tariff_reader_atom n v7).bind fun v8 =>
    some (v8.1, (⟨11, 0, [], [v4.2, v6.2, v8.2]⟩ : Expr))
   else
    (tariff_reader_atom n v3.1).bind fun v9 =>
    (tariff_reader_next n v9.1).bind fun v10 =>
    (tariff_operators n).bind fun v11 =>
    (bif !((mget v11 v10.2.Text).isSome) then
     some (true, v10.1.l, v10.1.at_, v10.1.e)
    else
     (tariff_reader_take n v10.1 v10.2.Text).bind fun v14 =>
     some (!v14.2, v14.1.l, v14.1.at_, v14.1.e)).bind fun (v12, f1, f2, f3) =>
    bif v12 then
     some ((⟨f1, f2, f3⟩ : reader), v9.2)
    else
     (tariff_reader_atom n (⟨f1, f2, f3⟩ : reader)).bind fun v13 =>
     some (v13.1, (⟨(mget v11 v10.2.Text).getD 0, 0, [], [v9.2, v13.2]⟩ : Expr)) := rfl

theorem tariff_reader_atom_s (n : Nat) (rx1 : reader) : tariff_reader_atom (n + 1) rx1 =
  (tariff_reader_next n rx1).bind fun v1 =>
  bif v1.2.Kind == 1 then
   some ((⟨v1.1.l, iadd .i64 v1.1.at_ 1, v1.1.e⟩ : reader), (⟨0, v1.2.N, [], []⟩ : Expr))
  else
   (bif v1.2.Kind != 0 then
    some (v1.2.Kind != 3)
   else
    some false).bind fun v2 =>
   bif v2 then
    (tariff_reader_fail n v1.1 12).bind fun v3 =>
    some (v3, (⟨0, 0, [], []⟩ : Expr))
   else
    bif v1.2.Text == [40] then
     (tariff_reader_expr n (⟨v1.1.l, iadd .i64 v1.1.at_ 1, v1.1.e⟩ : reader)).bind fun v4 =>
     (tariff_reader_need n v4.1 [[41]]).bind fun v5 =>
     some (v5, v4.2)
    else
     bif v1.2.Text == [112, 101, 114, 115, 111, 110, 115] then
      some ((⟨v1.1.l, iadd .i64 v1.1.at_ 1, v1.1.e⟩ : reader), (⟨2, 0, [], []⟩ : Expr))
     else
      bif v1.2.Text == [102, 108, 97, 116, 115] then
       some ((⟨v1.1.l, iadd .i64 v1.1.at_ 1, v1.1.e⟩ : reader), (⟨3, 0, [], []⟩ : Expr))
      else
       (bif v1.2.Text == [108, 105, 102, 116, 115] then
        some true
       else
        some (v1.2.Text == [119, 101, 105, 103, 104, 116])).bind fun v6 =>
       bif v6 then
        (bif v1.2.Text == [119, 101, 105, 103, 104, 116] then
         some 4
        else
         some 1).bind fun f1 =>
        (tariff_reader_need n (⟨v1.1.l, iadd .i64 v1.1.at_ 1, v1.1.e⟩ : reader) [[40]]).bind fun v7 =>
        (tariff_reader_one n v7 0).bind fun v8 =>
        (tariff_reader_need n v8.1 [[41]]).bind fun v9 =>
        some (v9, (⟨f1, 0, v8.2.Text, []⟩ : Expr))
       else
        (bif v1.2.Text == [109, 105, 110] then
         some true
        else
         some (v1.2.Text == [109, 97, 120])).bind fun v10 =>
        bif v10 then
         (bif v1.2.Text == [109, 97, 120] then
          some 10
         else
          some 9).bind fun f2 =>
         (tariff_reader_need n (⟨v1.1.l, iadd .i64 v1.1.at_ 1, v1.1.e⟩ : reader) [[40]]).bind fun v11 =>
         ((tariff_reader_expr n v11).bind fun v15 =>
         (app 56 ([] : List Expr) [v15.2]).bind fun l4 =>
         some (l4, v15.1.l, v15.1.at_, v15.1.e)).bind fun (l1, f3, f4, f5) =>
         (tariff_reader_need n (⟨f3, f4, f5⟩ : reader) [[44]]).bind fun v12 =>
         ((tariff_reader_expr n v12).bind fun v14 =>
         (app 56 l1 [v14.2]).bind fun l3 =>
         some (l3, v14.1.l, v14.1.at_, v14.1.e)).bind fun (l2, f6, f7, f8) =>
         (tariff_reader_need n (⟨f6, f7, f8⟩ : reader) [[41]]).bind fun v13 =>
         some (v13, (⟨f2, 0, [], l2⟩ : Expr))
        else
         (tariff_reader_fail n (⟨v1.1.l, isub .i64 (iadd .i64 v1.1.at_ 1) 1, v1.1.e⟩ : reader) 12).bind fun v16 =>
         some (v16, (⟨0, 0, [], []⟩ : Expr)) := rfl

set_option maxHeartbeats 1000000 in
set_option maxRecDepth 1000000 in
theorem tariff_reader_expr_all (n : Nat) : (∀ (rx1 : reader) (r : (reader × Expr)) (_ : tariff_reader_expr n rx1 = some r) {w : World} {F : Frz} (_ : Sat F w) {as1 : Option Addr} {ns1 : Nat} {cs1 : Nat} {brx1 : Nat} (_ : SlR rp_Token F as1 ns1 cs1 rx1.l) (_ : (OE.box brx1 59 [.slice as1 ns1 cs1, .int .i64 rx1.at_, .int .i64 rx1.e]).ok w) (_ : F brx1 = none), Calls Tryd.prog 28 #[.pointer (some ⟨brx1, 0, none⟩)] w fun e w' => ∃ v F' cs' O', e = .returned v ∧ HS F w [brx1] F' (.box brx1 59 cs' :: O') w' ∧ (∃ (al_0 : Option Addr) (nl_0 : Nat) (cl_0 : Nat) (a0_3 : Option Addr) (n0_3 : Nat) (c0_3 : Nat), v = .agg #[.int .i64 r.2.Op, .int .i64 r.2.N, vs r.2.Name, .slice a0_3 n0_3 c0_3] ∧ cs' = [.slice al_0 nl_0 cl_0, .int .i64 r.1.at_, .int .i64 r.1.e] ∧ O' = [] ∧ SlR rp_Token F' al_0 nl_0 cl_0 r.1.l ∧ SlR rp_Expr F' a0_3 n0_3 c0_3 r.2.Args)) ∧
  (∀ (rx1 : reader) (r : (reader × Expr)) (_ : tariff_reader_atom n rx1 = some r) {w : World} {F : Frz} (_ : Sat F w) {as1 : Option Addr} {ns1 : Nat} {cs1 : Nat} {brx1 : Nat} (_ : SlR rp_Token F as1 ns1 cs1 rx1.l) (_ : (OE.box brx1 59 [.slice as1 ns1 cs1, .int .i64 rx1.at_, .int .i64 rx1.e]).ok w) (_ : F brx1 = none), Calls Tryd.prog 47 #[.pointer (some ⟨brx1, 0, none⟩)] w fun e w' => ∃ v F' cs' O', e = .returned v ∧ HS F w [brx1] F' (.box brx1 59 cs' :: O') w' ∧ (∃ (al_0 : Option Addr) (nl_0 : Nat) (cl_0 : Nat) (a0_3 : Option Addr) (n0_3 : Nat) (c0_3 : Nat), v = .agg #[.int .i64 r.2.Op, .int .i64 r.2.N, vs r.2.Name, .slice a0_3 n0_3 c0_3] ∧ cs' = [.slice al_0 nl_0 cl_0, .int .i64 r.1.at_, .int .i64 r.1.e] ∧ O' = [] ∧ SlR rp_Token F' al_0 nl_0 cl_0 r.1.l ∧ SlR rp_Expr F' a0_3 n0_3 c0_3 r.2.Args)) := by
 induction n with
 | zero =>
  refine ⟨?_, ?_⟩
  ·intro rx1 r hm
   exact absurd (show (none : Option (reader × Expr)) = some r from hm) (by simp)
  ·intro rx1 r hm
   exact absurd (show (none : Option (reader × Expr)) = some r from hm) (by simp)
 | succ n ih =>
  refine ⟨?_, ?_⟩
  ·intro rx1 r hm w F hs as1 ns1 cs1 brx1 hs1 hbrx1 hfrx1
   rw [tariff_reader_expr_s] at hm
   have h := HS.lend hs hbrx1 hfrx1
   refine calls_of 62 Tryd.func28 rfl rfl rfl ?_
   refine c_seq (c_region ?_)
   refine r_alloc ze24 rfl rfl rfl h ?_
   intro b1 wx1 hx1
   refine r_nil (q_then (c_seq (c_block (c_seq (c_region (r_move rfl rfl rfl ?_))))))
   obtain ⟨v1, hv1, hm⟩ := bind_some hm
   refine r_callL ent32 rfl rfl rfl rfl hx1 (i := 1) rfl (tariff_reader_take_ok _ _ _ _ hv1 hx1.sat hs1 (hx1.get (i := 1) rfl) (hx1.lendable (i := 1) rfl)) ?_
   rintro _ Fx1 _ _ wx2 hF1 hx2 ⟨as2, ns2, cs2, rfl, rfl, rfl, hs2⟩
   refine r_assign rfl rfl rfl (r_nil (q_then ?_))
   rcases cond_some hm with ⟨hb1, hm⟩ | ⟨hb1, hm⟩
   ·refine c_lit 9 rfl hb1 ?_
    refine c_true rfl (c_seq (c_region (r_move rfl rfl rfl ?_)))
    obtain ⟨v2, hv2, hm⟩ := bind_some hm
    refine r_callL ent47 rfl rfl rfl rfl hx2 (i := 1) rfl (ih.2 _ _ hv2 hx2.sat hs2 (hx2.get (i := 1) rfl) (hx2.lendable (i := 1) rfl)) ?_
    rintro _ Fx2 _ _ wx3 hF2 hx3 ⟨as3, ns3, cs3, as4, ns4, cs4, rfl, rfl, rfl, hs3, hs4⟩
    refine r_buildSlice (e := 24) (cs := [.int .i64 v2.2.Op, .int .i64 v2.2.N, vs v2.2.Name, .slice as4 ns4 cs4]) (q := 4) rfl rfl hx3 rfl (fun _ => by kernel_rfl) rfl rfl ?_
    intro b2 wx4 hx4
    obtain ⟨Fx3, hF3, hx5, hsx1⟩ := freezeRowL hx4 (k := 2) rfl (i := 0) rfl (by decide) ((show RowN rp_Expr Fx2 1 [.int .i64 v2.2.Op, .int .i64 v2.2.N, vs v2.2.Name, .slice as4 ns4 cs4] [v2.2] from ⟨rfl, ⟨_, _, rfl, (expr_iff.2 ⟨as4, ns4, cs4, rfl, hs4⟩), (rfl : RowR rp_Expr _ [] [])⟩⟩))
    refine r_build (v := .agg #[.int .i64 14, .int .i64 0, vs [], .slice (some ⟨b2, 0, none⟩) 1 1]) rfl rfl rfl (fun _ => by kernel_rfl) ?_
    refine r_store sz24 rfl hx5 rfl rfl rfl rfl (i := 0) rfl rfl rfl rfl ?_
    intro wx5 hx6
    refine r_nil (q_then (c_ret (q_block_ret (q_then_ret ?_))))
    refine b_retC rfl ag24 sz24 rfl hx6 rfl (i := 0) rfl ?_
    obtain rfl := Option.some.inj hm
    exact ⟨_, _, _, _, rfl, hx6.pick [1] (by decide) rfl, as3, ns3, cs3, (some ⟨b2, 0, none⟩), 1, 1, rfl, rfl, rfl, (hs3.mono hF3), hsx1⟩
   ·refine c_lit 9 rfl hb1 ?_
    refine c_false rfl (c_seq (c_region (r_move rfl rfl rfl ?_)))
    obtain ⟨v3, hv3, hm⟩ := bind_some hm
    refine r_callL ent32 rfl rfl rfl rfl hx2 (i := 1) rfl (tariff_reader_take_ok _ _ _ _ hv3 hx2.sat hs2 (hx2.get (i := 1) rfl) (hx2.lendable (i := 1) rfl)) ?_
    rintro _ Fx4 _ _ wx6 hF4 hx7 ⟨as5, ns5, cs5, rfl, rfl, rfl, hs5⟩
    refine r_assign rfl rfl rfl (r_nil (q_then ?_))
    rcases cond_some hm with ⟨hb2, hm⟩ | ⟨hb2, hm⟩
    ·refine c_lit 16 rfl hb2 ?_
     refine c_true rfl (c_seq (c_region (r_move rfl rfl rfl ?_)))
     obtain ⟨v4, hv4, hm⟩ := bind_some hm
     refine r_callL ent47 rfl rfl rfl rfl hx7 (i := 1) rfl (ih.2 _ _ hv4 hx7.sat hs5 (hx7.get (i := 1) rfl) (hx7.lendable (i := 1) rfl)) ?_
     rintro _ Fx5 _ _ wx7 hF5 hx8 ⟨as6, ns6, cs6, as7, ns7, cs7, rfl, rfl, rfl, hs6, hs7⟩
     refine r_alloc ze24 rfl rfl rfl hx8 ?_
     intro b3 wx8 hx9
     refine r_store sz24 rfl hx9 rfl rfl rfl rfl (i := 0) rfl rfl rfl rfl ?_
     intro wx9 hx10
     refine r_nil (q_then (c_seq (c_region (r_move rfl rfl rfl ?_))))
     refine r_buildSlice (e := 9) (cs := [vs [116, 104, 101, 110]]) (q := 1) rfl rfl hx10 rfl (fun _ => by kernel_rfl) rfl rfl ?_
     intro b4 wx10 hx11
     obtain ⟨Fx6, hF6, hx12, hsx2⟩ := freezeRowL hx11 (k := 3) rfl (i := 0) rfl (by decide) ((show RowN Rp.str Fx5 1 [vs [116, 104, 101, 110]] [[116, 104, 101, 110]] from ⟨rfl, ⟨_, _, rfl, rfl, (rfl : RowR Rp.str _ [] [])⟩⟩))
     obtain ⟨v5, hv5, hm⟩ := bind_some hm
     refine r_callL ent26 rfl rfl rfl rfl hx12 (i := 2) rfl (tariff_reader_need_ok _ _ _ _ hv5 hx12.sat (hs6.mono hF6) (hx12.get (i := 2) rfl) (hx12.lendable (i := 2) rfl) hsx2) ?_
     rintro _ Fx7 _ _ wx11 hF7 hx13 ⟨as8, ns8, cs8, rfl, rfl, rfl, hs8⟩
     refine r_nil (q_then (c_seq (c_region (r_move rfl rfl rfl ?_))))
     obtain ⟨v6, hv6, hm⟩ := bind_some hm
     refine r_callL ent47 rfl rfl rfl rfl hx13 (i := 2) rfl (ih.2 _ _ hv6 hx13.sat hs8 (hx13.get (i := 2) rfl) (hx13.lendable (i := 2) rfl)) ?_
     rintro _ Fx8 _ _ wx12 hF8 hx14 ⟨as9, ns9, cs9, as10, ns10, cs10, rfl, rfl, rfl, hs9, hs10⟩
     refine r_alloc ze24 rfl rfl rfl hx14 ?_
     intro b5 wx13 hx15
     refine r_store sz24 rfl hx15 rfl rfl rfl rfl (i := 0) rfl rfl rfl rfl ?_
     intro wx14 hx16
     refine r_nil (q_then (c_seq (c_region (r_move rfl rfl rfl ?_))))
     refine r_buildSlice (e := 9) (cs := [vs [101, 108, 115, 101]]) (q := 1) rfl rfl hx16 rfl (fun _ => by kernel_rfl) rfl rfl ?_
     intro b6 wx15 hx17
     obtain ⟨Fx9, hF9, hx18, hsx3⟩ := freezeRowL hx17 (k := 4) rfl (i := 0) rfl (by decide) ((show RowN Rp.str Fx8 1 [vs [101, 108, 115, 101]] [[101, 108, 115, 101]] from ⟨rfl, ⟨_, _, rfl, rfl, (rfl : RowR Rp.str _ [] [])⟩⟩))
     obtain ⟨v7, hv7, hm⟩ := bind_some hm
     refine r_callL ent26 rfl rfl rfl rfl hx18 (i := 3) rfl (tariff_reader_need_ok _ _ _ _ hv7 hx18.sat (hs9.mono hF9) (hx18.get (i := 3) rfl) (hx18.lendable (i := 3) rfl) hsx3) ?_
     rintro _ Fx10 _ _ wx16 hF10 hx19 ⟨as11, ns11, cs11, rfl, rfl, rfl, hs11⟩
     refine r_nil (q_then (c_seq ?_))
     refine c_regionH (SH Fx10 [.box b5 24 [.int .i64 v6.2.Op, .int .i64 v6.2.N, vs v6.2.Name, .slice as10 ns10 cs10], .box b3 24 [.int .i64 v4.2.Op, .int .i64 v4.2.N, vs v4.2.Name, .slice as7 ns7 cs7]]) 7 rfl (by kernel_rfl) hx19 ?_
     intro wx17 hx20
     refine d_tk 0 rfl (by kernel_rfl) rfl rfl rfl rfl (hx20.sh (Frz.refl _) [0, 1] (by decide) rfl) (fun _ _ _ _ hq => r_loadBW ag24 sz24 rfl rfl hq rfl (i := 1) rfl rfl (r_nil (qq rfl))) ?_
     refine d_tk 1 rfl (by kernel_rfl) rfl rfl rfl rfl (hx20.sh (Frz.refl _) [0, 1] (by decide) rfl) (fun _ _ _ _ hq => r_loadBW ag24 sz24 rfl rfl hq rfl (i := 0) rfl rfl (r_nil (qq rfl))) ?_
     refine d_tk 2 rfl (by kernel_rfl) rfl rfl rfl rfl (hx20.sh (Frz.refl _) [0, 1] (by decide) rfl) (fun _ _ _ _ _ => r_move rfl rfl rfl (r_nil (qq rfl))) ?_
     refine d_step 3 rfl (by kernel_rfl) ?_
     obtain ⟨v8, hv8, hm⟩ := bind_some hm
     refine r_callL ent47 rfl rfl rfl rfl hx20 (i := 3) rfl (ih.2 _ _ hv8 hx20.sat hs11 (hx20.get (i := 3) rfl) (hx20.lendable (i := 3) rfl)) ?_
     rintro _ Fx11 _ _ wx18 hF11 hx21 ⟨as12, ns12, cs12, as13, ns13, cs13, rfl, rfl, rfl, hs12, hs13⟩
     refine d_next (hx21.sh hF11 [0, 1] (by decide) rfl) ?_
     refine d_step 4 rfl (by kernel_rfl) ?_
     refine r_buildSlice (e := 24) (cs := [.int .i64 v4.2.Op, .int .i64 v4.2.N, vs v4.2.Name, .slice as7 ns7 cs7, .int .i64 v6.2.Op, .int .i64 v6.2.N, vs v6.2.Name, .slice as10 ns10 cs10, .int .i64 v8.2.Op, .int .i64 v8.2.N, vs v8.2.Name, .slice as13 ns13 cs13]) (q := 4) rfl rfl hx21 rfl (fun _ => by kernel_rfl) rfl rfl ?_
     intro b7 wx19 hx22
     refine d_next (hx22.sh hF11 [1, 2] (by decide) rfl) ?_
     obtain ⟨Fx12, hF12, hx23, hsx4⟩ := freezeRowL hx22 (k := 4) rfl (i := 0) rfl (by decide) ((show RowN rp_Expr Fx11 3 [.int .i64 v4.2.Op, .int .i64 v4.2.N, vs v4.2.Name, .slice as7 ns7 cs7, .int .i64 v6.2.Op, .int .i64 v6.2.N, vs v6.2.Name, .slice as10 ns10 cs10, .int .i64 v8.2.Op, .int .i64 v8.2.N, vs v8.2.Name, .slice as13 ns13 cs13] [v4.2, v6.2, v8.2] from ⟨rfl, ⟨_, _, rfl, (expr_iff.2 ⟨as7, ns7, cs7, rfl, ((((((hs7.mono hF6).mono hF7).mono hF8).mono hF9).mono hF10).mono hF11)⟩), ⟨_, _, rfl, (expr_iff.2 ⟨as10, ns10, cs10, rfl, (((hs10.mono hF9).mono hF10).mono hF11)⟩), ⟨_, _, rfl, (expr_iff.2 ⟨as13, ns13, cs13, rfl, hs13⟩), (rfl : RowR rp_Expr _ [] [])⟩⟩⟩⟩))
     refine d_tk 5 rfl (by kernel_rfl) rfl rfl rfl rfl (hx23.sh (hF11.trans hF12) [0, 1] (by decide) rfl) (fun _ _ _ _ _ => r_build (v := .agg #[.int .i64 11, .int .i64 0, vs [], .slice (some ⟨b7, 0, none⟩) 3 3]) rfl rfl rfl (fun _ => by kernel_rfl) (r_nil (qq rfl))) ?_
     refine d_step 6 rfl (by kernel_rfl) ?_
     refine r_store sz24 rfl hx23 rfl rfl rfl rfl (i := 2) rfl rfl rfl rfl ?_
     intro wx20 hx24
     refine d_next (hx24.sh (hF11.trans hF12) [0, 1] (by decide) rfl) ?_
     refine d_done (by kernel_rfl) ?_
     refine q_then (c_ret (q_block_ret (q_then_ret ?_)))
     refine b_retC rfl ag24 sz24 rfl hx24 rfl (i := 2) rfl ?_
     obtain rfl := Option.some.inj hm
     exact ⟨_, _, _, _, rfl, hx24.pick [3] (by decide) rfl, as12, ns12, cs12, (some ⟨b7, 0, none⟩), 3, 3, rfl, rfl, rfl, (hs12.mono hF12), hsx4⟩
    ·refine c_lit 16 rfl hb2 ?_
     refine c_false rfl (c_skip (q_block (q_then (c_seq (c_region (r_move rfl rfl rfl ?_))))))
     obtain ⟨v9, hv9, hm⟩ := bind_some hm
     refine r_callL ent47 rfl rfl rfl rfl hx7 (i := 1) rfl (ih.2 _ _ hv9 hx7.sat hs5 (hx7.get (i := 1) rfl) (hx7.lendable (i := 1) rfl)) ?_
     rintro _ Fx13 _ _ wx21 hF13 hx25 ⟨as14, ns14, cs14, as15, ns15, cs15, rfl, rfl, rfl, hs14, hs15⟩
     refine r_alloc ze24 rfl rfl rfl hx25 ?_
     intro b8 wx22 hx26
     refine r_store sz24 rfl hx26 rfl rfl rfl rfl (i := 0) rfl rfl rfl rfl ?_
     intro wx23 hx27
     refine r_nil (q_then (c_seq (c_region (r_move rfl rfl rfl ?_))))
     obtain ⟨v10, hv10, hm⟩ := bind_some hm
     refine r_callL ent46 rfl rfl rfl rfl hx27 (i := 2) rfl (tariff_reader_next_ok _ _ _ hv10 hx27.sat hs14 (hx27.get (i := 2) rfl) (hx27.lendable (i := 2) rfl)) ?_
     rintro _ Fx14 _ _ wx24 hF14 hx28 ⟨as16, ns16, cs16, rfl, rfl, rfl, hs16⟩
     refine r_alloc ze62 rfl rfl rfl hx28 ?_
     intro b9 wx25 hx29
     refine r_store sz62 rfl hx29 rfl rfl rfl rfl (i := 0) rfl rfl rfl rfl ?_
     intro wx26 hx30
     refine r_nil (q_then (c_seq ?_))
     refine c_regionH (SH Fx14 [.box b9 62 [.int .i64 v10.2.Kind, vs v10.2.Text, .int .i64 v10.2.N, .int .i64 v10.2.Pos], .box b8 24 [.int .i64 v9.2.Op, .int .i64 v9.2.N, vs v9.2.Name, .slice as15 ns15 cs15], .box b1 24 [.int .i64 0, .int .i64 0, vs [], .slice none 0 0], .box brx1 59 [.slice as16 ns16 cs16, .int .i64 v10.1.at_, .int .i64 v10.1.e]]) 9 rfl (by kernel_rfl) hx30 ?_
     intro wx27 hx31
     refine d_tk 1 rfl (by kernel_rfl) rfl rfl rfl rfl (hx31.sh (Frz.refl _) [0, 1, 2, 3] (by decide) rfl) (fun _ _ _ _ _ => r_fieldAddr fa62_1 rfl rfl rfl (r_nil (qq rfl))) ?_
     refine d_tk 2 rfl (by kernel_rfl) rfl rfl rfl rfl (hx31.sh (Frz.refl _) [0, 1, 2, 3] (by decide) rfl) (fun _ _ _ _ hq => r_loadB1 ag9 rfl rfl hq rfl (i := 0) rfl rfl (r_nil (qq rfl))) ?_
     refine d_step 0 rfl (by kernel_rfl) ?_
     obtain ⟨v11, hv11, hm⟩ := bind_some hm
     refine r_callG0 ent44 rfl rfl rfl rfl hx31 (tariff_operators_ok _ _ hv11 hx31.sat) ?_
     rintro _ Fx15 _ wx28 hF15 hx32 ⟨bs17, ess17, cls17, rfl, rfl, hs17⟩
     refine d_next (hx32.sh hF15 [1, 2, 3, 4] (by decide) rfl) ?_
     refine d_step 3 rfl (by kernel_rfl) ?_
     refine r_lookup (k := v10.2.Text) (z := 0) (i := 0) key9 um76 zv3 rfl rfl hx32 rfl rfl rfl hs17 ?_
     refine d_next (hx32.sh hF15 [1, 2, 3, 4] (by decide) rfl) ?_
     refine d_tk 4 rfl (by kernel_rfl) rfl rfl rfl rfl (hx32.sh hF15 [1, 2, 3, 4] (by decide) rfl) (fun _ _ _ _ _ => r_move rfl rfl rfl (r_nil (qq rfl))) ?_
     refine d_tk 5 rfl (by kernel_rfl) rfl rfl rfl rfl (hx32.sh hF15 [1, 2, 3, 4] (by decide) rfl) (fun _ _ _ _ _ => r_extract rfl rfl rfl rfl (r_nil (qq rfl))) ?_
     refine d_tk 6 rfl (by kernel_rfl) rfl rfl rfl rfl (hx32.sh hF15 [1, 2, 3, 4] (by decide) rfl) (fun _ _ _ _ _ => r_extract rfl rfl rfl rfl (r_nil (qq rfl))) ?_
     refine d_tk 7 rfl (by kernel_rfl) rfl rfl rfl rfl (hx32.sh hF15 [1, 2, 3, 4] (by decide) rfl) (fun _ _ _ _ _ => r_assign rfl rfl rfl (r_nil (qq rfl))) ?_
     refine d_tk 8 rfl (by kernel_rfl) rfl rfl rfl rfl (hx32.sh hF15 [1, 2, 3, 4] (by decide) rfl) (fun _ _ _ _ _ => r_assign rfl rfl rfl (r_nil (qq rfl))) ?_
     refine d_done (by kernel_rfl) ?_
     refine q_then (c_seq (c_seq (c_region (r_move rfl rfl rfl (r_not rfl rfl rfl (r_move rfl rfl rfl ?_))))))
     obtain ⟨⟨v12, f1, f2, f3⟩, hb3, hm⟩ := bind_some hm
     refine r_mid 6 (fun a w' => ∃ (Fx16 : Frz) (as18 : Option Addr) (ns18 : Nat) (cs18 : Nat), Frz.le Fx15 Fx16 ∧ HS F w [brx1] Fx16 [.mp bs17 ess17 cls17, .box b9 62 [.int .i64 v10.2.Kind, vs v10.2.Text, .int .i64 v10.2.N, .int .i64 v10.2.Pos], .box b8 24 [.int .i64 v9.2.Op, .int .i64 v9.2.N, vs v9.2.Name, .slice as15 ns15 cs15], .box b1 24 [.int .i64 0, .int .i64 0, vs [], .slice none 0 0], .box brx1 59 [.slice as18 ns18 cs18, .int .i64 f2, .int .i64 f3]] w' ∧ (SlR rp_Token Fx16 as18 ns18 cs18 f1) ∧ Has 62 a [(0, .pointer (some ⟨brx1, 0, none⟩)), (2, .pointer (some ⟨b1, 0, none⟩)), (5, .pointer (some ⟨b8, 0, none⟩)), (7, .int .i64 ((mget v11 v10.2.Text).getD 0)), (54, .bool v12)]) ?_ ?_
     ·rintro a wx29 ⟨Fx16, as18, ns18, cs18, hF16, hx33, hs18, hax1⟩
      refine rw_apply hax1 ?_
      refine r_nil (q_then ?_)
      rcases cond_some hm with ⟨hb4, hm⟩ | ⟨hb4, hm⟩
      ·refine c_lit 54 rfl hb4 ?_
       refine c_true rfl (c_seq (c_region ?_))
       refine r_loadBW ag24 sz24 rfl rfl hx33 rfl (i := 2) rfl rfl ?_
       refine r_store sz24 rfl hx33 rfl rfl rfl rfl (i := 3) rfl rfl rfl rfl ?_
       intro wx30 hx34
       refine r_nil (q_then (c_ret (q_then_ret ?_)))
       refine b_retC rfl ag24 sz24 rfl hx34 rfl (i := 3) rfl ?_
       obtain rfl := Option.some.inj hm
       exact ⟨_, _, _, _, rfl, hx34.pick [4] (by decide) rfl, as18, ns18, cs18, as15, ns15, cs15, rfl, rfl, rfl, hs18, (((hs15.mono hF14).mono hF15).mono hF16)⟩
      ·refine c_lit 54 rfl hb4 ?_
       refine c_false rfl (c_skip (q_then (c_seq ?_)))
       refine c_regionH (SH Fx16 [.mp bs17 ess17 cls17, .box b9 62 [.int .i64 v10.2.Kind, vs v10.2.Text, .int .i64 v10.2.N, .int .i64 v10.2.Pos], .box b8 24 [.int .i64 v9.2.Op, .int .i64 v9.2.N, vs v9.2.Name, .slice as15 ns15 cs15]]) 7 rfl (by kernel_rfl) hx33 ?_
       intro wx31 hx35
       refine d_tk 0 rfl (by kernel_rfl) rfl rfl rfl rfl (hx35.sh (Frz.refl _) [0, 1, 2] (by decide) rfl) (fun _ _ _ _ _ => r_move rfl rfl rfl (r_nil (qq rfl))) ?_
       refine d_tk 1 rfl (by kernel_rfl) rfl rfl rfl rfl (hx35.sh (Frz.refl _) [0, 1, 2] (by decide) rfl) (fun _ _ _ _ hq => r_loadBW ag24 sz24 rfl rfl hq rfl (i := 2) rfl rfl (r_nil (qq rfl))) ?_
       refine d_tk 2 rfl (by kernel_rfl) rfl rfl rfl rfl (hx35.sh (Frz.refl _) [0, 1, 2] (by decide) rfl) (fun _ _ _ _ _ => r_move rfl rfl rfl (r_nil (qq rfl))) ?_
       refine d_step 3 rfl (by kernel_rfl) ?_
       obtain ⟨v13, hv12, hm⟩ := bind_some hm
       refine r_callL ent47 rfl rfl rfl rfl hx35 (i := 4) rfl (ih.2 _ _ hv12 hx35.sat hs18 (hx35.get (i := 4) rfl) (hx35.lendable (i := 4) rfl)) ?_
       rintro _ Fx17 _ _ wx32 hF17 hx36 ⟨as19, ns19, cs19, as20, ns20, cs20, rfl, rfl, rfl, hs19, hs20⟩
       refine d_next (hx36.sh hF17 [0, 1, 2] (by decide) rfl) ?_
       refine d_step 4 rfl (by kernel_rfl) ?_
       refine r_buildSlice (e := 24) (cs := [.int .i64 v9.2.Op, .int .i64 v9.2.N, vs v9.2.Name, .slice as15 ns15 cs15, .int .i64 v13.2.Op, .int .i64 v13.2.N, vs v13.2.Name, .slice as20 ns20 cs20]) (q := 4) rfl rfl hx36 rfl (fun _ => by kernel_rfl) rfl rfl ?_
       intro b10 wx33 hx37
       refine d_next (hx37.sh hF17 [1, 2, 3] (by decide) rfl) ?_
       obtain ⟨Fx18, hF18, hx38, hsx5⟩ := freezeRowL hx37 (k := 5) rfl (i := 0) rfl (by decide) ((show RowN rp_Expr Fx17 2 [.int .i64 v9.2.Op, .int .i64 v9.2.N, vs v9.2.Name, .slice as15 ns15 cs15, .int .i64 v13.2.Op, .int .i64 v13.2.N, vs v13.2.Name, .slice as20 ns20 cs20] [v9.2, v13.2] from ⟨rfl, ⟨_, _, rfl, (expr_iff.2 ⟨as15, ns15, cs15, rfl, ((((hs15.mono hF14).mono hF15).mono hF16).mono hF17)⟩), ⟨_, _, rfl, (expr_iff.2 ⟨as20, ns20, cs20, rfl, hs20⟩), (rfl : RowR rp_Expr _ [] [])⟩⟩⟩))
       refine d_tk 5 rfl (by kernel_rfl) rfl rfl rfl rfl (hx38.sh (hF17.trans hF18) [0, 1, 2] (by decide) rfl) (fun _ _ _ _ _ => r_build (v := .agg #[.int .i64 ((mget v11 v10.2.Text).getD 0), .int .i64 0, vs [], .slice (some ⟨b10, 0, none⟩) 2 2]) rfl rfl rfl (fun _ => by kernel_rfl) (r_nil (qq rfl))) ?_
       refine d_step 6 rfl (by kernel_rfl) ?_
       refine r_store sz24 rfl hx38 rfl rfl rfl rfl (i := 3) rfl rfl rfl rfl ?_
       intro wx34 hx39
       refine d_next (hx39.sh (hF17.trans hF18) [0, 1, 2] (by decide) rfl) ?_
       refine d_done (by kernel_rfl) ?_
       refine q_then (c_ret ?_)
       refine b_retC rfl ag24 sz24 rfl hx39 rfl (i := 3) rfl ?_
       obtain rfl := Option.some.inj hm
       exact ⟨_, _, _, _, rfl, hx39.pick [4] (by decide) rfl, as19, ns19, cs19, (some ⟨b10, 0, none⟩), 2, 2, rfl, rfl, rfl, (hs19.mono hF18), hsx5⟩
     ·clear hm
      rcases cond_some hb3 with ⟨hb5, hb3⟩ | ⟨hb5, hb3⟩
      ·refine r_lit 48 rfl hb5 ?_
       refine r_off rfl (by decide) rfl (r_off rfl (by decide) rfl (r_off rfl (by decide) rfl (r_off rfl (by decide) rfl (r_off rfl (by decide) rfl (r_pick_true rfl rfl rfl rfl (r_nil ?_))))))
       refine q_next (fun a ha => ?_)
       cases hb3
       exact ⟨_, as16, ns16, cs16, Frz.refl _, hx32.pick [0, 1, 2, 3, 4] (by decide) rfl, (hs16.mono hF15), ha.cut (l := [0, 2, 5, 7, 54]) rfl⟩
      ·refine r_lit 48 rfl hb5 ?_
       refine r_move rfl rfl rfl ?_
       refine r_fieldAddr fa62_1 rfl rfl rfl ?_
       refine r_loadB1 ag9 rfl rfl hx32 rfl (i := 1) rfl rfl ?_
       obtain ⟨v14, hv13, hb3⟩ := bind_some hb3
       refine r_callL ent32 rfl rfl rfl rfl hx32 (i := 4) rfl (tariff_reader_take_ok _ _ _ _ hv13 hx32.sat (hs16.mono hF15) (hx32.get (i := 4) rfl) (hx32.lendable (i := 4) rfl)) ?_
       rintro _ Fx19 _ _ wx35 hF19 hx40 ⟨as21, ns21, cs21, rfl, rfl, rfl, hs21⟩
       refine r_not rfl rfl rfl (r_pick_false rfl rfl rfl rfl (r_nil ?_))
       refine q_next (fun a ha => ?_)
       cases hb3
       exact ⟨_, as21, ns21, cs21, hF19, hx40.pick [0, 1, 2, 3, 4] (by decide) rfl, hs21, ha.cut (l := [0, 2, 5, 7, 54]) rfl⟩
  ·intro rx1 r hm w F hs as1 ns1 cs1 brx1 hs1 hbrx1 hfrx1
   rw [tariff_reader_atom_s] at hm
   have h := HS.lend hs hbrx1 hfrx1
   refine calls_of 117 Tryd.func47 rfl rfl rfl ?_
   refine c_seq (c_region ?_)
   refine r_alloc ze24 rfl rfl rfl h ?_
   intro b1 wx1 hx1
   refine r_nil (q_then (c_seq (c_region (r_move rfl rfl rfl ?_))))
   obtain ⟨v1, hv1, hm⟩ := bind_some hm
   refine r_callL ent46 rfl rfl rfl rfl hx1 (i := 1) rfl (tariff_reader_next_ok _ _ _ hv1 hx1.sat hs1 (hx1.get (i := 1) rfl) (hx1.lendable (i := 1) rfl)) ?_
   rintro _ Fx1 _ _ wx2 hF1 hx2 ⟨as2, ns2, cs2, rfl, rfl, rfl, hs2⟩
   refine r_alloc ze62 rfl rfl rfl hx2 ?_
   intro b2 wx3 hx3
   refine r_store sz62 rfl hx3 rfl rfl rfl rfl (i := 0) rfl rfl rfl rfl ?_
   intro wx4 hx4
   refine r_nil (q_then (c_seq (c_seq (c_region ?_))))
   refine r_fieldAddr fa62_0 rfl rfl rfl ?_
   refine r_loadB1 ag3 rfl rfl hx4 rfl (i := 0) rfl rfl ?_
   refine r_bin rfl rfl rfl rfl rfl ?_
   refine r_nil (q_then ?_)
   rcases cond_some hm with ⟨hb1, hm⟩ | ⟨hb1, hm⟩
   ·refine c_lit 11 rfl hb1 ?_
    refine c_true rfl (c_seq (c_region (r_move rfl rfl rfl ?_)))
    refine r_nilC rfl rfl rfl ?_
    refine r_fieldAddr fa59_1 rfl rfl rfl ?_
    refine r_loadB1 ag3 rfl rfl hx4 rfl (i := 2) rfl rfl ?_
    refine r_bin rfl rfl rfl rfl rfl ?_
    refine r_nilC rfl rfl rfl ?_
    refine r_fieldAddr fa59_1 rfl rfl rfl ?_
    refine r_store sz3 rfl hx4 rfl rfl rfl rfl (i := 2) rfl rfl rfl rfl ?_
    intro wx5 hx5
    refine r_nil (q_then (c_seq (c_region ?_)))
    refine r_fieldAddr fa62_2 rfl rfl rfl ?_
    refine r_loadB1 ag3 rfl rfl hx5 rfl (i := 0) rfl rfl ?_
    refine r_build (v := .agg #[.int .i64 0, .int .i64 v1.2.N, vs [], .slice none 0 0]) rfl rfl rfl (fun _ => by kernel_rfl) ?_
    refine r_store sz24 rfl hx5 rfl rfl rfl rfl (i := 1) rfl rfl rfl rfl ?_
    intro wx6 hx6
    refine r_nil (q_then (c_ret (q_then_ret ?_)))
    refine b_retC rfl ag24 sz24 rfl hx6 rfl (i := 1) rfl ?_
    obtain rfl := Option.some.inj hm
    exact ⟨_, _, _, _, rfl, hx6.pick [2] (by decide) rfl, as2, ns2, cs2, none, 0, 0, rfl, rfl, rfl, hs2, SlR.nil _ _⟩
   ·refine c_lit 11 rfl hb1 ?_
    refine c_false rfl (c_skip (q_then (c_seq (c_seq (c_region ?_)))))
    refine r_fieldAddr fa62_0 rfl rfl rfl ?_
    refine r_loadB1 ag3 rfl rfl hx4 rfl (i := 0) rfl rfl ?_
    refine r_bin rfl rfl rfl rfl rfl ?_
    refine r_move rfl rfl rfl ?_
    obtain ⟨v2, hb2, hm⟩ := bind_some hm
    refine r_mid 4 (fun a w' => wx4 = w' ∧ Has 117 a [(0, .pointer (some ⟨brx1, 0, none⟩)), (2, .pointer (some ⟨b1, 0, none⟩)), (3, .pointer (some ⟨b2, 0, none⟩)), (29, .bool v2)]) ?_ ?_
    ·rintro a wx7 ⟨rfl, hax1⟩
     refine rw_apply hax1 ?_
     refine r_nil (q_then ?_)
     rcases cond_some hm with ⟨hb3, hm⟩ | ⟨hb3, hm⟩
     ·refine c_lit 29 rfl hb3 ?_
      refine c_true rfl (c_seq (c_region (r_move rfl rfl rfl ?_)))
      obtain ⟨v3, hv2, hm⟩ := bind_some hm
      refine r_callL ent31 rfl rfl rfl rfl hx4 (i := 2) rfl (tariff_reader_fail_ok _ _ _ _ hv2 hx4.sat hs2 (hx4.get (i := 2) rfl) (hx4.lendable (i := 2) rfl)) ?_
      rintro _ Fx2 _ _ wx8 hF2 hx7 ⟨as3, ns3, cs3, rfl, rfl, rfl, hs3⟩
      refine r_nil (q_then (c_seq (c_region ?_)))
      refine r_build (v := .agg #[.int .i64 0, .int .i64 0, vs [], .slice none 0 0]) rfl rfl rfl (fun _ => by kernel_rfl) ?_
      refine r_store sz24 rfl hx7 rfl rfl rfl rfl (i := 1) rfl rfl rfl rfl ?_
      intro wx9 hx8
      refine r_nil (q_then (c_ret (q_then_ret ?_)))
      refine b_retC rfl ag24 sz24 rfl hx8 rfl (i := 1) rfl ?_
      obtain rfl := Option.some.inj hm
      exact ⟨_, _, _, _, rfl, hx8.pick [2] (by decide) rfl, as3, ns3, cs3, none, 0, 0, rfl, rfl, rfl, hs3, SlR.nil _ _⟩
     ·refine c_lit 29 rfl hb3 ?_
      refine c_false rfl (c_skip (q_then (c_seq (c_region (r_move rfl rfl rfl ?_)))))
      refine r_nilC rfl rfl rfl ?_
      refine r_fieldAddr fa59_1 rfl rfl rfl ?_
      refine r_loadB1 ag3 rfl rfl hx4 rfl (i := 2) rfl rfl ?_
      refine r_bin rfl rfl rfl rfl rfl ?_
      refine r_nilC rfl rfl rfl ?_
      refine r_fieldAddr fa59_1 rfl rfl rfl ?_
      refine r_store sz3 rfl hx4 rfl rfl rfl rfl (i := 2) rfl rfl rfl rfl ?_
      intro wx10 hx9
      refine r_nil (q_then (c_seq (c_seq (c_region ?_))))
      refine r_fieldAddr fa62_1 rfl rfl rfl ?_
      refine r_loadB1 ag9 rfl rfl hx9 rfl (i := 0) rfl rfl ?_
      refine r_nil (q_then (c_block (c_seq (c_region ?_))))
      refine r_str rfl rfl rfl rfl rfl ?_
      refine r_assign rfl rfl rfl (r_nil (q_then ?_))
      rcases cond_some hm with ⟨hb4, hm⟩ | ⟨hb4, hm⟩
      ·refine c_lit 42 rfl hb4 ?_
       refine c_true rfl (c_seq (c_region (r_move rfl rfl rfl ?_)))
       obtain ⟨v4, hv3, hm⟩ := bind_some hm
       refine r_callL ent28 rfl rfl rfl rfl hx9 (i := 2) rfl (ih.1 _ _ hv3 hx9.sat hs2 (hx9.get (i := 2) rfl) (hx9.lendable (i := 2) rfl)) ?_
       rintro _ Fx3 _ _ wx11 hF3 hx10 ⟨as4, ns4, cs4, as5, ns5, cs5, rfl, rfl, rfl, hs4, hs5⟩
       refine r_alloc ze24 rfl rfl rfl hx10 ?_
       intro b3 wx12 hx11
       refine r_store sz24 rfl hx11 rfl rfl rfl rfl (i := 0) rfl rfl rfl rfl ?_
       intro wx13 hx12
       refine r_nil (q_then (c_seq (c_region (r_move rfl rfl rfl ?_))))
       refine r_buildSlice (e := 9) (cs := [vs [41]]) (q := 1) rfl rfl hx12 rfl (fun _ => by kernel_rfl) rfl rfl ?_
       intro b4 wx14 hx13
       obtain ⟨Fx4, hF4, hx14, hsx1⟩ := freezeRowL hx13 (k := 4) rfl (i := 0) rfl (by decide) ((show RowN Rp.str Fx3 1 [vs [41]] [[41]] from ⟨rfl, ⟨_, _, rfl, rfl, (rfl : RowR Rp.str _ [] [])⟩⟩))
       obtain ⟨v5, hv4, hm⟩ := bind_some hm
       refine r_callL ent26 rfl rfl rfl rfl hx14 (i := 3) rfl (tariff_reader_need_ok _ _ _ _ hv4 hx14.sat (hs4.mono hF4) (hx14.get (i := 3) rfl) (hx14.lendable (i := 3) rfl) hsx1) ?_
       rintro _ Fx5 _ _ wx15 hF5 hx15 ⟨as6, ns6, cs6, rfl, rfl, rfl, hs6⟩
       refine r_nil (q_then (c_seq (c_region ?_)))
       refine r_loadBW ag24 sz24 rfl rfl hx15 rfl (i := 0) rfl rfl ?_
       refine r_store sz24 rfl hx15 rfl rfl rfl rfl (i := 2) rfl rfl rfl rfl ?_
       intro wx16 hx16
       refine r_nil (q_then (c_ret (q_block_ret (q_then_ret ?_))))
       refine b_retC rfl ag24 sz24 rfl hx16 rfl (i := 2) rfl ?_
       obtain rfl := Option.some.inj hm
       exact ⟨_, _, _, _, rfl, hx16.pick [3] (by decide) rfl, as6, ns6, cs6, as5, ns5, cs5, rfl, rfl, rfl, hs6, ((hs5.mono hF4).mono hF5)⟩
      ·refine c_lit 42 rfl hb4 ?_
       refine c_false rfl (c_seq (c_region ?_))
       refine r_str rfl rfl rfl rfl rfl ?_
       refine r_assign rfl rfl rfl (r_nil (q_then ?_))
       rcases cond_some hm with ⟨hb5, hm⟩ | ⟨hb5, hm⟩
       ·refine c_lit 50 rfl hb5 ?_
        refine c_true rfl (c_seq (c_region ?_))
        refine r_build (v := .agg #[.int .i64 2, .int .i64 0, vs [], .slice none 0 0]) rfl rfl rfl (fun _ => by kernel_rfl) ?_
        refine r_store sz24 rfl hx9 rfl rfl rfl rfl (i := 1) rfl rfl rfl rfl ?_
        intro wx17 hx17
        refine r_nil (q_then (c_ret (q_block_ret (q_then_ret ?_))))
        refine b_retC rfl ag24 sz24 rfl hx17 rfl (i := 1) rfl ?_
        obtain rfl := Option.some.inj hm
        exact ⟨_, _, _, _, rfl, hx17.pick [2] (by decide) rfl, as2, ns2, cs2, none, 0, 0, rfl, rfl, rfl, hs2, SlR.nil _ _⟩
       ·refine c_lit 50 rfl hb5 ?_
        refine c_false rfl (c_seq (c_region ?_))
        refine r_str rfl rfl rfl rfl rfl ?_
        refine r_assign rfl rfl rfl (r_nil (q_then ?_))
        rcases cond_some hm with ⟨hb6, hm⟩ | ⟨hb6, hm⟩
        ·refine c_lit 53 rfl hb6 ?_
         refine c_true rfl (c_seq (c_region ?_))
         refine r_build (v := .agg #[.int .i64 3, .int .i64 0, vs [], .slice none 0 0]) rfl rfl rfl (fun _ => by kernel_rfl) ?_
         refine r_store sz24 rfl hx9 rfl rfl rfl rfl (i := 1) rfl rfl rfl rfl ?_
         intro wx18 hx18
         refine r_nil (q_then (c_ret (q_block_ret (q_then_ret ?_))))
         refine b_retC rfl ag24 sz24 rfl hx18 rfl (i := 1) rfl ?_
         obtain rfl := Option.some.inj hm
         exact ⟨_, _, _, _, rfl, hx18.pick [2] (by decide) rfl, as2, ns2, cs2, none, 0, 0, rfl, rfl, rfl, hs2, SlR.nil _ _⟩
        ·refine c_lit 53 rfl hb6 ?_
         refine c_false rfl (c_seq (c_seq (c_region ?_)))
         refine r_str rfl rfl rfl rfl rfl ?_
         refine r_assign rfl rfl rfl (r_nil (q_then ?_))
         obtain ⟨v6, hb7, hm⟩ := bind_some hm
         refine c_midT (fun a w' => wx10 = w' ∧ Has 117 a [(0, .pointer (some ⟨brx1, 0, none⟩)), (2, .pointer (some ⟨b1, 0, none⟩)), (3, .pointer (some ⟨b2, 0, none⟩)), (41, vs v1.2.Text), (56, .bool v6)]) ?_ ?_
         ·rintro a wx19 ⟨rfl, hax2⟩
          refine cw_apply hax2 ?_
          rcases cond_some hm with ⟨hb8, hm⟩ | ⟨hb8, hm⟩
          ·refine c_lit 56 rfl hb8 ?_
           refine c_true rfl (c_seq (c_region ?_))
           refine r_build (v := .agg #[.int .i64 1, .int .i64 0, vs [], .slice none 0 0]) rfl rfl rfl (fun _ => by kernel_rfl) ?_
           refine r_alloc ze24 rfl rfl rfl hx9 ?_
           intro b5 wx20 hx19
           refine r_store sz24 rfl hx19 rfl rfl rfl rfl (i := 0) rfl rfl rfl rfl ?_
           intro wx21 hx20
           refine r_nil (q_then (c_seq (c_seq (c_region ?_))))
           refine r_fieldAddr fa62_1 rfl rfl rfl ?_
           refine r_loadB1 ag9 rfl rfl hx20 rfl (i := 1) rfl rfl ?_
           refine r_str rfl rfl rfl rfl rfl ?_
           refine r_nil (q_then ?_)
           obtain ⟨f1, hb9, hm⟩ := bind_some hm
           refine c_midT (fun a w' => ∃ (Fx6 : Frz), Frz.le Fx1 Fx6 ∧ HS F w [brx1] Fx6 [.box b5 24 [.int .i64 f1, .int .i64 0, vs [], .slice none 0 0], .box b2 62 [.int .i64 v1.2.Kind, vs v1.2.Text, .int .i64 v1.2.N, .int .i64 v1.2.Pos], .box b1 24 [.int .i64 0, .int .i64 0, vs [], .slice none 0 0], .box brx1 59 [.slice as2 ns2 cs2, .int .i64 (iadd .i64 v1.1.at_ 1), .int .i64 v1.1.e]] w' ∧ Has 117 a [(0, .pointer (some ⟨brx1, 0, none⟩)), (2, .pointer (some ⟨b1, 0, none⟩)), (5, .pointer (some ⟨b5, 0, none⟩))]) ?_ ?_
           ·rintro a wx22 ⟨Fx6, hF6, hx21, hax3⟩
            refine cw_apply hax3 ?_
            refine c_seq (c_region (r_move rfl rfl rfl ?_))
            refine r_buildSlice (e := 9) (cs := [vs [40]]) (q := 1) rfl rfl hx21 rfl (fun _ => by kernel_rfl) rfl rfl ?_
            intro b6 wx23 hx22
            obtain ⟨Fx7, hF7, hx23, hsx2⟩ := freezeRowL hx22 (k := 4) rfl (i := 0) rfl (by decide) ((show RowN Rp.str Fx6 1 [vs [40]] [[40]] from ⟨rfl, ⟨_, _, rfl, rfl, (rfl : RowR Rp.str _ [] [])⟩⟩))
            obtain ⟨v7, hv5, hm⟩ := bind_some hm
            refine r_callL ent26 rfl rfl rfl rfl hx23 (i := 3) rfl (tariff_reader_need_ok _ _ _ _ hv5 hx23.sat ((hs2.mono hF6).mono hF7) (hx23.get (i := 3) rfl) (hx23.lendable (i := 3) rfl) hsx2) ?_
            rintro _ Fx8 _ _ wx24 hF8 hx24 ⟨as7, ns7, cs7, rfl, rfl, rfl, hs7⟩
            refine r_nil (q_then (c_seq (c_region (r_move rfl rfl rfl ?_))))
            obtain ⟨v8, hv6, hm⟩ := bind_some hm
            refine r_callL ent27 rfl rfl rfl rfl hx24 (i := 3) rfl (tariff_reader_one_ok _ _ _ _ hv6 hx24.sat hs7 (hx24.get (i := 3) rfl) (hx24.lendable (i := 3) rfl)) ?_
            rintro _ Fx9 _ _ wx25 hF9 hx25 ⟨as8, ns8, cs8, rfl, rfl, rfl, hs8⟩
            refine r_field (v := .agg #[.int .i64 v8.2.Kind, vs v8.2.Text, .int .i64 v8.2.N, .int .i64 v8.2.Pos]) (u := vs v8.2.Text) (fun _ => by kernel_rfl) rfl rfl rfl ?_
            refine r_fieldAddr fa24_2 rfl rfl rfl ?_
            refine r_store sz9 rfl hx25 rfl rfl rfl rfl (i := 0) rfl rfl rfl rfl ?_
            intro wx26 hx26
            refine r_nil (q_then (c_seq (c_region (r_move rfl rfl rfl ?_))))
            refine r_buildSlice (e := 9) (cs := [vs [41]]) (q := 1) rfl rfl hx26 rfl (fun _ => by kernel_rfl) rfl rfl ?_
            intro b7 wx27 hx27
            obtain ⟨Fx10, hF10, hx28, hsx3⟩ := freezeRowL hx27 (k := 4) rfl (i := 0) rfl (by decide) ((show RowN Rp.str Fx9 1 [vs [41]] [[41]] from ⟨rfl, ⟨_, _, rfl, rfl, (rfl : RowR Rp.str _ [] [])⟩⟩))
            obtain ⟨v9, hv7, hm⟩ := bind_some hm
            refine r_callL ent26 rfl rfl rfl rfl hx28 (i := 3) rfl (tariff_reader_need_ok _ _ _ _ hv7 hx28.sat (hs8.mono hF10) (hx28.get (i := 3) rfl) (hx28.lendable (i := 3) rfl) hsx3) ?_
            rintro _ Fx11 _ _ wx28 hF11 hx29 ⟨as9, ns9, cs9, rfl, rfl, rfl, hs9⟩
            refine r_nil (q_then (c_seq (c_region ?_)))
            refine r_loadBW ag24 sz24 rfl rfl hx29 rfl (i := 0) rfl rfl ?_
            refine r_store sz24 rfl hx29 rfl rfl rfl rfl (i := 2) rfl rfl rfl rfl ?_
            intro wx29 hx30
            refine r_nil (q_then (c_ret (q_block_ret (q_then_ret ?_))))
            refine b_retC rfl ag24 sz24 rfl hx30 rfl (i := 2) rfl ?_
            obtain rfl := Option.some.inj hm
            exact ⟨_, _, _, _, rfl, hx30.pick [3] (by decide) rfl, as9, ns9, cs9, none, 0, 0, rfl, rfl, rfl, hs9, SlR.nil _ _⟩
           ·clear hm
            rcases cond_some hb9 with ⟨hb10, hb9⟩ | ⟨hb10, hb9⟩
            ·refine c_lit 62 rfl hb10 ?_
             refine c_true rfl (c_region ?_)
             refine r_fieldAddr fa24_0 rfl rfl rfl ?_
             refine r_store sz3 rfl hx20 rfl rfl rfl rfl (i := 0) rfl rfl rfl rfl ?_
             intro wx30 hx31
             refine r_nil ?_
             refine q_next (fun a ha => ?_)
             cases hb9
             exact ⟨_, Frz.refl _, hx31.pick [0, 1, 2, 3] (by decide) rfl, ha.cut (l := [0, 2, 5]) rfl⟩
            ·refine c_lit 62 rfl hb10 ?_
             refine c_false rfl (c_skip ?_)
             refine q_next (fun a ha => ?_)
             cases hb9
             exact ⟨_, Frz.refl _, hx20.pick [0, 1, 2, 3] (by decide) rfl, ha.cut (l := [0, 2, 5]) rfl⟩
          ·refine c_lit 56 rfl hb8 ?_
           refine c_false rfl (c_seq (c_seq (c_region ?_)))
           refine r_str rfl rfl rfl rfl rfl ?_
           refine r_assign rfl rfl rfl (r_nil (q_then ?_))
           obtain ⟨v10, hb11, hm⟩ := bind_some hm
           refine c_midT (fun a w' => wx10 = w' ∧ Has 117 a [(0, .pointer (some ⟨brx1, 0, none⟩)), (2, .pointer (some ⟨b1, 0, none⟩)), (3, .pointer (some ⟨b2, 0, none⟩)), (75, .bool v10)]) ?_ ?_
           ·rintro a wx31 ⟨rfl, hax4⟩
            refine cw_apply hax4 ?_
            rcases cond_some hm with ⟨hb12, hm⟩ | ⟨hb12, hm⟩
            ·refine c_lit 75 rfl hb12 ?_
             refine c_true rfl (c_seq (c_region ?_))
             refine r_build (v := .agg #[.int .i64 9, .int .i64 0, vs [], .slice none 0 0]) rfl rfl rfl (fun _ => by kernel_rfl) ?_
             refine r_alloc ze24 rfl rfl rfl hx9 ?_
             intro b8 wx32 hx32
             refine r_store sz24 rfl hx32 rfl rfl rfl rfl (i := 0) rfl rfl rfl rfl ?_
             intro wx33 hx33
             refine r_nil (q_then (c_seq (c_seq (c_region ?_))))
             refine r_fieldAddr fa62_1 rfl rfl rfl ?_
             refine r_loadB1 ag9 rfl rfl hx33 rfl (i := 1) rfl rfl ?_
             refine r_str rfl rfl rfl rfl rfl ?_
             refine r_nil (q_then ?_)
             obtain ⟨f2, hb13, hm⟩ := bind_some hm
             refine c_midT (fun a w' => ∃ (Fx12 : Frz), Frz.le Fx1 Fx12 ∧ HS F w [brx1] Fx12 [.box b8 24 [.int .i64 f2, .int .i64 0, vs [], .slice none 0 0], .box b2 62 [.int .i64 v1.2.Kind, vs v1.2.Text, .int .i64 v1.2.N, .int .i64 v1.2.Pos], .box b1 24 [.int .i64 0, .int .i64 0, vs [], .slice none 0 0], .box brx1 59 [.slice as2 ns2 cs2, .int .i64 (iadd .i64 v1.1.at_ 1), .int .i64 v1.1.e]] w' ∧ Has 117 a [(0, .pointer (some ⟨brx1, 0, none⟩)), (2, .pointer (some ⟨b1, 0, none⟩)), (6, .pointer (some ⟨b8, 0, none⟩))]) ?_ ?_
             ·rintro a wx34 ⟨Fx12, hF12, hx34, hax5⟩
              refine cw_apply hax5 ?_
              refine c_seq (c_region (r_move rfl rfl rfl ?_))
              refine r_buildSlice (e := 9) (cs := [vs [40]]) (q := 1) rfl rfl hx34 rfl (fun _ => by kernel_rfl) rfl rfl ?_
              intro b9 wx35 hx35
              obtain ⟨Fx13, hF13, hx36, hsx4⟩ := freezeRowL hx35 (k := 4) rfl (i := 0) rfl (by decide) ((show RowN Rp.str Fx12 1 [vs [40]] [[40]] from ⟨rfl, ⟨_, _, rfl, rfl, (rfl : RowR Rp.str _ [] [])⟩⟩))
              obtain ⟨v11, hv8, hm⟩ := bind_some hm
              refine r_callL ent26 rfl rfl rfl rfl hx36 (i := 3) rfl (tariff_reader_need_ok _ _ _ _ hv8 hx36.sat ((hs2.mono hF12).mono hF13) (hx36.get (i := 3) rfl) (hx36.lendable (i := 3) rfl) hsx4) ?_
              rintro _ Fx14 _ _ wx36 hF14 hx37 ⟨as10, ns10, cs10, rfl, rfl, rfl, hs10⟩
              refine r_nil (q_then ?_)
              have hx38 := hx37.nilRow 24 4
              obtain ⟨⟨l1, f3, f4, f5⟩, hb14, hm⟩ := bind_some hm
              refine c_mid (fun a w' => ∃ (Fx15 : Frz) (as11 : Option Addr) (ns11 : Nat) (cs11 : Nat) (xss11 : List Value) (as12 : Option Addr) (ns12 : Nat) (cs12 : Nat), Frz.le Fx14 Fx15 ∧ HS F w [brx1] Fx15 [.row 24 4 as11 ns11 cs11 xss11, .box b8 24 [.int .i64 f2, .int .i64 0, vs [], .slice as11 ns11 cs11], .box b2 62 [.int .i64 v1.2.Kind, vs v1.2.Text, .int .i64 v1.2.N, .int .i64 v1.2.Pos], .box b1 24 [.int .i64 0, .int .i64 0, vs [], .slice none 0 0], .box brx1 59 [.slice as12 ns12 cs12, .int .i64 f4, .int .i64 f5]] w' ∧ (RowN rp_Expr Fx15 ns11 xss11 l1) ∧ (SlR rp_Token Fx15 as12 ns12 cs12 f3) ∧ Has 117 a [(0, .pointer (some ⟨brx1, 0, none⟩)), (2, .pointer (some ⟨b1, 0, none⟩)), (6, .pointer (some ⟨b8, 0, none⟩))]) ?_ ?_
              ·rintro a wx37 ⟨Fx15, as11, ns11, cs11, xss11, as12, ns12, cs12, hF15, hx39, hs11, hs12, hax6⟩
               refine cw_apply hax6 ?_
               refine c_seq (c_region (r_move rfl rfl rfl ?_))
               refine r_buildSlice (e := 9) (cs := [vs [44]]) (q := 1) rfl rfl hx39 rfl (fun _ => by kernel_rfl) rfl rfl ?_
               intro b10 wx38 hx40
               obtain ⟨Fx16, hF16, hx41, hsx5⟩ := freezeRowL hx40 (k := 5) rfl (i := 0) rfl (by decide) ((show RowN Rp.str Fx15 1 [vs [44]] [[44]] from ⟨rfl, ⟨_, _, rfl, rfl, (rfl : RowR Rp.str _ [] [])⟩⟩))
               obtain ⟨v12, hv9, hm⟩ := bind_some hm
               refine r_callL ent26 rfl rfl rfl rfl hx41 (i := 4) rfl (tariff_reader_need_ok _ _ _ _ hv9 hx41.sat (hs12.mono hF16) (hx41.get (i := 4) rfl) (hx41.lendable (i := 4) rfl) hsx5) ?_
               rintro _ Fx17 _ _ wx39 hF17 hx42 ⟨as13, ns13, cs13, rfl, rfl, rfl, hs13⟩
               refine r_nil (q_then ?_)
               obtain ⟨⟨l2, f6, f7, f8⟩, hb15, hm⟩ := bind_some hm
               refine c_mid (fun a w' => ∃ (Fx18 : Frz) (as14 : Option Addr) (ns14 : Nat) (cs14 : Nat) (xss14 : List Value) (as15 : Option Addr) (ns15 : Nat) (cs15 : Nat), Frz.le Fx17 Fx18 ∧ HS F w [brx1] Fx18 [.row 24 4 as14 ns14 cs14 xss14, .box b8 24 [.int .i64 f2, .int .i64 0, vs [], .slice as14 ns14 cs14], .box b2 62 [.int .i64 v1.2.Kind, vs v1.2.Text, .int .i64 v1.2.N, .int .i64 v1.2.Pos], .box b1 24 [.int .i64 0, .int .i64 0, vs [], .slice none 0 0], .box brx1 59 [.slice as15 ns15 cs15, .int .i64 f7, .int .i64 f8]] w' ∧ (RowN rp_Expr Fx18 ns14 xss14 l2) ∧ (SlR rp_Token Fx18 as15 ns15 cs15 f6) ∧ Has 117 a [(0, .pointer (some ⟨brx1, 0, none⟩)), (2, .pointer (some ⟨b1, 0, none⟩)), (6, .pointer (some ⟨b8, 0, none⟩))]) ?_ ?_
               ·rintro a wx40 ⟨Fx18, as14, ns14, cs14, xss14, as15, ns15, cs15, hF18, hx43, hs14, hs15, hax7⟩
                refine cw_apply hax7 ?_
                refine c_seq (c_region (r_move rfl rfl rfl ?_))
                refine r_buildSlice (e := 9) (cs := [vs [41]]) (q := 1) rfl rfl hx43 rfl (fun _ => by kernel_rfl) rfl rfl ?_
                intro b11 wx41 hx44
                obtain ⟨Fx19, hF19, hx45, hsx6⟩ := freezeRowL hx44 (k := 5) rfl (i := 0) rfl (by decide) ((show RowN Rp.str Fx18 1 [vs [41]] [[41]] from ⟨rfl, ⟨_, _, rfl, rfl, (rfl : RowR Rp.str _ [] [])⟩⟩))
                obtain ⟨v13, hv10, hm⟩ := bind_some hm
                refine r_callL ent26 rfl rfl rfl rfl hx45 (i := 4) rfl (tariff_reader_need_ok _ _ _ _ hv10 hx45.sat (hs15.mono hF19) (hx45.get (i := 4) rfl) (hx45.lendable (i := 4) rfl) hsx6) ?_
                rintro _ Fx20 _ _ wx42 hF20 hx46 ⟨as16, ns16, cs16, rfl, rfl, rfl, hs16⟩
                refine r_nil (q_then (c_seq (c_region ?_)))
                refine r_loadBW ag24 sz24 rfl rfl hx46 rfl (i := 1) rfl rfl ?_
                refine r_store sz24 rfl hx46 rfl rfl rfl rfl (i := 3) rfl rfl rfl rfl ?_
                intro wx43 hx47
                refine r_nil (q_then (c_ret (q_block_ret (q_then_ret ?_))))
                obtain ⟨Fx21, hF21, hx48, hsx7⟩ := freezeRowL hx47 (k := 4) rfl (i := 0) rfl (by decide) ((hs14.mono hF19).mono hF20)
                refine b_retC rfl ag24 sz24 rfl hx48 rfl (i := 2) rfl ?_
                obtain rfl := Option.some.inj hm
                exact ⟨_, _, _, _, rfl, hx48.pick [3] (by decide) rfl, as16, ns16, cs16, as14, ns14, cs14, rfl, rfl, rfl, (hs16.mono hF21), hsx7⟩
               ·clear hm
                refine c_regionH (SH Fx17 [.box b2 62 [.int .i64 v1.2.Kind, vs v1.2.Text, .int .i64 v1.2.N, .int .i64 v1.2.Pos], .box b1 24 [.int .i64 0, .int .i64 0, vs [], .slice none 0 0]]) 8 rfl (by kernel_rfl) hx42 ?_
                intro wx44 hx49
                refine d_tk 0 rfl (by kernel_rfl) rfl rfl rfl rfl (hx49.sh (Frz.refl _) [2, 3] (by decide) rfl) (fun _ _ _ _ _ => r_fieldAddr fa24_3 rfl rfl rfl (r_nil (qq rfl))) ?_
                refine d_tk 2 rfl (by kernel_rfl) rfl rfl rfl rfl (hx49.sh (Frz.refl _) [2, 3] (by decide) rfl) (fun _ _ _ _ _ => r_move rfl rfl rfl (r_nil (qq rfl))) ?_
                refine d_two 1 3 rfl rfl (by kernel_rfl) ?_ ?_
                ·refine r_loadB1 ag22 rfl rfl hx49 rfl (i := 1) rfl rfl ?_
                 refine d_next (hx49.sh (Frz.refl _) [2, 3] (by decide) rfl) ?_
                 refine d_step 3 rfl (by kernel_rfl) ?_
                 obtain ⟨v14, hv11, hb15⟩ := bind_some hb15
                 refine r_callL ent28 rfl rfl rfl rfl hx49 (i := 4) rfl (ih.1 _ _ hv11 hx49.sat hs13 (hx49.get (i := 4) rfl) (hx49.lendable (i := 4) rfl)) ?_
                 rintro _ Fx22 _ _ wx45 hF22 hx50 ⟨as17, ns17, cs17, as18, ns18, cs18, rfl, rfl, rfl, hs17, hs18⟩
                 refine d_next (hx50.sh hF22 [2, 3] (by decide) rfl) ?_
                 refine d_step 4 rfl (by kernel_rfl) ?_
                 refine r_buildSlice (e := 24) (cs := [.int .i64 v14.2.Op, .int .i64 v14.2.N, vs v14.2.Name, .slice as18 ns18 cs18]) (q := 4) rfl rfl hx50 rfl (fun _ => by kernel_rfl) rfl rfl ?_
                 intro b12 wx46 hx51
                 refine d_next (hx51.sh hF22 [3, 4] (by decide) rfl) ?_
                 refine d_step 5 rfl (by kernel_rfl) ?_
                 obtain ⟨l3, hr1, hb15⟩ := bind_some hb15
                 refine r_appendN (r := rp_Expr) ap22 rfl rfl hx51 rfl rfl (i := 1) (j := 0) rfl rfl (((hs11.mono hF16).mono hF17).mono hF22) ((show RowN rp_Expr Fx22 1 [.int .i64 v14.2.Op, .int .i64 v14.2.N, vs v14.2.Name, .slice as18 ns18 cs18] [v14.2] from ⟨rfl, ⟨_, _, rfl, (expr_iff.2 ⟨as18, ns18, cs18, rfl, hs18⟩), (rfl : RowR rp_Expr _ [] [])⟩⟩)) hr1 ?_
                 intro as19 cs19 wx47 hx52 hs19
                 refine d_next (hx52.sh hF22 [3, 4] (by decide) rfl) ?_
                 refine d_tk 6 rfl (by kernel_rfl) rfl rfl rfl rfl (hx52.sh hF22 [3, 4] (by decide) rfl) (fun _ _ _ _ _ => r_fieldAddr fa24_3 rfl rfl rfl (r_nil (qq rfl))) ?_
                 refine d_step 7 rfl (by kernel_rfl) ?_
                 refine r_store sz22 rfl hx52 rfl rfl rfl rfl (i := 2) rfl rfl rfl rfl ?_
                 intro wx48 hx53
                 refine d_next (hx53.sh hF22 [3, 4] (by decide) rfl) ?_
                 refine d_done (by kernel_rfl) ?_
                 refine q_next (fun a ha => ?_)
                 cases hb15
                 exact ⟨_, as19, (ns11 + 1), cs19, (xss11 ++ [.int .i64 v14.2.Op, .int .i64 v14.2.N, vs v14.2.Name, .slice as18 ns18 cs18]), as17, ns17, cs17, hF22, hx53.pick [1, 2, 3, 4, 5] (by decide) rfl, hs19, hs17, ha.cut (l := [0, 2, 6]) rfl⟩
                ·obtain ⟨v14, hv11, hb15⟩ := bind_some hb15
                 refine r_callL ent28 rfl rfl rfl rfl hx49 (i := 4) rfl (ih.1 _ _ hv11 hx49.sat hs13 (hx49.get (i := 4) rfl) (hx49.lendable (i := 4) rfl)) ?_
                 rintro _ Fx22 _ _ wx45 hF22 hx50 ⟨as17, ns17, cs17, as18, ns18, cs18, rfl, rfl, rfl, hs17, hs18⟩
                 refine d_next (hx50.sh hF22 [2, 3] (by decide) rfl) ?_
                 refine d_two 1 4 rfl rfl (by kernel_rfl) ?_ ?_
                 ·refine r_loadB1 ag22 rfl rfl hx50 rfl (i := 1) rfl rfl ?_
                  refine d_next (hx50.sh hF22 [2, 3] (by decide) rfl) ?_
                  refine d_step 4 rfl (by kernel_rfl) ?_
                  refine r_buildSlice (e := 24) (cs := [.int .i64 v14.2.Op, .int .i64 v14.2.N, vs v14.2.Name, .slice as18 ns18 cs18]) (q := 4) rfl rfl hx50 rfl (fun _ => by kernel_rfl) rfl rfl ?_
                  intro b12 wx46 hx51
                  refine d_next (hx51.sh hF22 [3, 4] (by decide) rfl) ?_
                  refine d_step 5 rfl (by kernel_rfl) ?_
                  obtain ⟨l3, hr1, hb15⟩ := bind_some hb15
                  refine r_appendN (r := rp_Expr) ap22 rfl rfl hx51 rfl rfl (i := 1) (j := 0) rfl rfl (((hs11.mono hF16).mono hF17).mono hF22) ((show RowN rp_Expr Fx22 1 [.int .i64 v14.2.Op, .int .i64 v14.2.N, vs v14.2.Name, .slice as18 ns18 cs18] [v14.2] from ⟨rfl, ⟨_, _, rfl, (expr_iff.2 ⟨as18, ns18, cs18, rfl, hs18⟩), (rfl : RowR rp_Expr _ [] [])⟩⟩)) hr1 ?_
                  intro as19 cs19 wx47 hx52 hs19
                  refine d_next (hx52.sh hF22 [3, 4] (by decide) rfl) ?_
                  refine d_tk 6 rfl (by kernel_rfl) rfl rfl rfl rfl (hx52.sh hF22 [3, 4] (by decide) rfl) (fun _ _ _ _ _ => r_fieldAddr fa24_3 rfl rfl rfl (r_nil (qq rfl))) ?_
                  refine d_step 7 rfl (by kernel_rfl) ?_
                  refine r_store sz22 rfl hx52 rfl rfl rfl rfl (i := 2) rfl rfl rfl rfl ?_
                  intro wx48 hx53
                  refine d_next (hx53.sh hF22 [3, 4] (by decide) rfl) ?_
                  refine d_done (by kernel_rfl) ?_
                  refine q_next (fun a ha => ?_)
                  cases hb15
                  exact ⟨_, as19, (ns11 + 1), cs19, (xss11 ++ [.int .i64 v14.2.Op, .int .i64 v14.2.N, vs v14.2.Name, .slice as18 ns18 cs18]), as17, ns17, cs17, hF22, hx53.pick [1, 2, 3, 4, 5] (by decide) rfl, hs19, hs17, ha.cut (l := [0, 2, 6]) rfl⟩
                 ·refine r_buildSlice (e := 24) (cs := [.int .i64 v14.2.Op, .int .i64 v14.2.N, vs v14.2.Name, .slice as18 ns18 cs18]) (q := 4) rfl rfl hx50 rfl (fun _ => by kernel_rfl) rfl rfl ?_
                  intro b12 wx46 hx51
                  refine d_next (hx51.sh hF22 [3, 4] (by decide) rfl) ?_
                  refine d_step 1 rfl (by kernel_rfl) ?_
                  refine r_loadB1 ag22 rfl rfl hx51 rfl (i := 2) rfl rfl ?_
                  refine d_next (hx51.sh hF22 [3, 4] (by decide) rfl) ?_
                  refine d_step 5 rfl (by kernel_rfl) ?_
                  obtain ⟨l3, hr1, hb15⟩ := bind_some hb15
                  refine r_appendN (r := rp_Expr) ap22 rfl rfl hx51 rfl rfl (i := 1) (j := 0) rfl rfl (((hs11.mono hF16).mono hF17).mono hF22) ((show RowN rp_Expr Fx22 1 [.int .i64 v14.2.Op, .int .i64 v14.2.N, vs v14.2.Name, .slice as18 ns18 cs18] [v14.2] from ⟨rfl, ⟨_, _, rfl, (expr_iff.2 ⟨as18, ns18, cs18, rfl, hs18⟩), (rfl : RowR rp_Expr _ [] [])⟩⟩)) hr1 ?_
                  intro as19 cs19 wx47 hx52 hs19
                  refine d_next (hx52.sh hF22 [3, 4] (by decide) rfl) ?_
                  refine d_tk 6 rfl (by kernel_rfl) rfl rfl rfl rfl (hx52.sh hF22 [3, 4] (by decide) rfl) (fun _ _ _ _ _ => r_fieldAddr fa24_3 rfl rfl rfl (r_nil (qq rfl))) ?_
                  refine d_step 7 rfl (by kernel_rfl) ?_
                  refine r_store sz22 rfl hx52 rfl rfl rfl rfl (i := 2) rfl rfl rfl rfl ?_
                  intro wx48 hx53
                  refine d_next (hx53.sh hF22 [3, 4] (by decide) rfl) ?_
                  refine d_done (by kernel_rfl) ?_
                  refine q_next (fun a ha => ?_)
                  cases hb15
                  exact ⟨_, as19, (ns11 + 1), cs19, (xss11 ++ [.int .i64 v14.2.Op, .int .i64 v14.2.N, vs v14.2.Name, .slice as18 ns18 cs18]), as17, ns17, cs17, hF22, hx53.pick [1, 2, 3, 4, 5] (by decide) rfl, hs19, hs17, ha.cut (l := [0, 2, 6]) rfl⟩
              ·clear hm
               refine c_regionH (SH Fx14 [.box b2 62 [.int .i64 v1.2.Kind, vs v1.2.Text, .int .i64 v1.2.N, .int .i64 v1.2.Pos], .box b1 24 [.int .i64 0, .int .i64 0, vs [], .slice none 0 0]]) 8 rfl (by kernel_rfl) hx38 ?_
               intro wx49 hx54
               refine d_tk 0 rfl (by kernel_rfl) rfl rfl rfl rfl (hx54.sh (Frz.refl _) [2, 3] (by decide) rfl) (fun _ _ _ _ _ => r_fieldAddr fa24_3 rfl rfl rfl (r_nil (qq rfl))) ?_
               refine d_tk 2 rfl (by kernel_rfl) rfl rfl rfl rfl (hx54.sh (Frz.refl _) [2, 3] (by decide) rfl) (fun _ _ _ _ _ => r_move rfl rfl rfl (r_nil (qq rfl))) ?_
               refine d_two 1 3 rfl rfl (by kernel_rfl) ?_ ?_
               ·refine r_loadB1 ag22 rfl rfl hx54 rfl (i := 1) rfl rfl ?_
                refine d_next (hx54.sh (Frz.refl _) [2, 3] (by decide) rfl) ?_
                refine d_step 3 rfl (by kernel_rfl) ?_
                obtain ⟨v15, hv12, hb14⟩ := bind_some hb14
                refine r_callL ent28 rfl rfl rfl rfl hx54 (i := 4) rfl (ih.1 _ _ hv12 hx54.sat hs10 (hx54.get (i := 4) rfl) (hx54.lendable (i := 4) rfl)) ?_
                rintro _ Fx23 _ _ wx50 hF23 hx55 ⟨as20, ns20, cs20, as21, ns21, cs21, rfl, rfl, rfl, hs20, hs21⟩
                refine d_next (hx55.sh hF23 [2, 3] (by decide) rfl) ?_
                refine d_step 4 rfl (by kernel_rfl) ?_
                refine r_buildSlice (e := 24) (cs := [.int .i64 v15.2.Op, .int .i64 v15.2.N, vs v15.2.Name, .slice as21 ns21 cs21]) (q := 4) rfl rfl hx55 rfl (fun _ => by kernel_rfl) rfl rfl ?_
                intro b13 wx51 hx56
                refine d_next (hx56.sh hF23 [3, 4] (by decide) rfl) ?_
                refine d_step 5 rfl (by kernel_rfl) ?_
                obtain ⟨l4, hr2, hb14⟩ := bind_some hb14
                refine r_appendN (r := rp_Expr) ap22 rfl rfl hx56 rfl rfl (i := 1) (j := 0) rfl rfl ((show RowN rp_Expr _ 0 [] [] from ⟨rfl, rfl⟩).mono hF23) ((show RowN rp_Expr Fx23 1 [.int .i64 v15.2.Op, .int .i64 v15.2.N, vs v15.2.Name, .slice as21 ns21 cs21] [v15.2] from ⟨rfl, ⟨_, _, rfl, (expr_iff.2 ⟨as21, ns21, cs21, rfl, hs21⟩), (rfl : RowR rp_Expr _ [] [])⟩⟩)) hr2 ?_
                intro as22 cs22 wx52 hx57 hs22
                refine d_next (hx57.sh hF23 [3, 4] (by decide) rfl) ?_
                refine d_tk 6 rfl (by kernel_rfl) rfl rfl rfl rfl (hx57.sh hF23 [3, 4] (by decide) rfl) (fun _ _ _ _ _ => r_fieldAddr fa24_3 rfl rfl rfl (r_nil (qq rfl))) ?_
                refine d_step 7 rfl (by kernel_rfl) ?_
                refine r_store sz22 rfl hx57 rfl rfl rfl rfl (i := 2) rfl rfl rfl rfl ?_
                intro wx53 hx58
                refine d_next (hx58.sh hF23 [3, 4] (by decide) rfl) ?_
                refine d_done (by kernel_rfl) ?_
                refine q_next (fun a ha => ?_)
                cases hb14
                exact ⟨_, as22, (0 + 1), cs22, ([] ++ [.int .i64 v15.2.Op, .int .i64 v15.2.N, vs v15.2.Name, .slice as21 ns21 cs21]), as20, ns20, cs20, hF23, hx58.pick [1, 2, 3, 4, 5] (by decide) rfl, hs22, hs20, ha.cut (l := [0, 2, 6]) rfl⟩
               ·obtain ⟨v15, hv12, hb14⟩ := bind_some hb14
                refine r_callL ent28 rfl rfl rfl rfl hx54 (i := 4) rfl (ih.1 _ _ hv12 hx54.sat hs10 (hx54.get (i := 4) rfl) (hx54.lendable (i := 4) rfl)) ?_
                rintro _ Fx23 _ _ wx50 hF23 hx55 ⟨as20, ns20, cs20, as21, ns21, cs21, rfl, rfl, rfl, hs20, hs21⟩
                refine d_next (hx55.sh hF23 [2, 3] (by decide) rfl) ?_
                refine d_two 1 4 rfl rfl (by kernel_rfl) ?_ ?_
                ·refine r_loadB1 ag22 rfl rfl hx55 rfl (i := 1) rfl rfl ?_
                 refine d_next (hx55.sh hF23 [2, 3] (by decide) rfl) ?_
                 refine d_step 4 rfl (by kernel_rfl) ?_
                 refine r_buildSlice (e := 24) (cs := [.int .i64 v15.2.Op, .int .i64 v15.2.N, vs v15.2.Name, .slice as21 ns21 cs21]) (q := 4) rfl rfl hx55 rfl (fun _ => by kernel_rfl) rfl rfl ?_
                 intro b13 wx51 hx56
                 refine d_next (hx56.sh hF23 [3, 4] (by decide) rfl) ?_
                 refine d_step 5 rfl (by kernel_rfl) ?_
                 obtain ⟨l4, hr2, hb14⟩ := bind_some hb14
                 refine r_appendN (r := rp_Expr) ap22 rfl rfl hx56 rfl rfl (i := 1) (j := 0) rfl rfl ((show RowN rp_Expr _ 0 [] [] from ⟨rfl, rfl⟩).mono hF23) ((show RowN rp_Expr Fx23 1 [.int .i64 v15.2.Op, .int .i64 v15.2.N, vs v15.2.Name, .slice as21 ns21 cs21] [v15.2] from ⟨rfl, ⟨_, _, rfl, (expr_iff.2 ⟨as21, ns21, cs21, rfl, hs21⟩), (rfl : RowR rp_Expr _ [] [])⟩⟩)) hr2 ?_
                 intro as22 cs22 wx52 hx57 hs22
                 refine d_next (hx57.sh hF23 [3, 4] (by decide) rfl) ?_
                 refine d_tk 6 rfl (by kernel_rfl) rfl rfl rfl rfl (hx57.sh hF23 [3, 4] (by decide) rfl) (fun _ _ _ _ _ => r_fieldAddr fa24_3 rfl rfl rfl (r_nil (qq rfl))) ?_
                 refine d_step 7 rfl (by kernel_rfl) ?_
                 refine r_store sz22 rfl hx57 rfl rfl rfl rfl (i := 2) rfl rfl rfl rfl ?_
                 intro wx53 hx58
                 refine d_next (hx58.sh hF23 [3, 4] (by decide) rfl) ?_
                 refine d_done (by kernel_rfl) ?_
                 refine q_next (fun a ha => ?_)
                 cases hb14
                 exact ⟨_, as22, (0 + 1), cs22, ([] ++ [.int .i64 v15.2.Op, .int .i64 v15.2.N, vs v15.2.Name, .slice as21 ns21 cs21]), as20, ns20, cs20, hF23, hx58.pick [1, 2, 3, 4, 5] (by decide) rfl, hs22, hs20, ha.cut (l := [0, 2, 6]) rfl⟩
                ·refine r_buildSlice (e := 24) (cs := [.int .i64 v15.2.Op, .int .i64 v15.2.N, vs v15.2.Name, .slice as21 ns21 cs21]) (q := 4) rfl rfl hx55 rfl (fun _ => by kernel_rfl) rfl rfl ?_
                 intro b13 wx51 hx56
                 refine d_next (hx56.sh hF23 [3, 4] (by decide) rfl) ?_
                 refine d_step 1 rfl (by kernel_rfl) ?_
                 refine r_loadB1 ag22 rfl rfl hx56 rfl (i := 2) rfl rfl ?_
                 refine d_next (hx56.sh hF23 [3, 4] (by decide) rfl) ?_
                 refine d_step 5 rfl (by kernel_rfl) ?_
                 obtain ⟨l4, hr2, hb14⟩ := bind_some hb14
                 refine r_appendN (r := rp_Expr) ap22 rfl rfl hx56 rfl rfl (i := 1) (j := 0) rfl rfl ((show RowN rp_Expr _ 0 [] [] from ⟨rfl, rfl⟩).mono hF23) ((show RowN rp_Expr Fx23 1 [.int .i64 v15.2.Op, .int .i64 v15.2.N, vs v15.2.Name, .slice as21 ns21 cs21] [v15.2] from ⟨rfl, ⟨_, _, rfl, (expr_iff.2 ⟨as21, ns21, cs21, rfl, hs21⟩), (rfl : RowR rp_Expr _ [] [])⟩⟩)) hr2 ?_
                 intro as22 cs22 wx52 hx57 hs22
                 refine d_next (hx57.sh hF23 [3, 4] (by decide) rfl) ?_
                 refine d_tk 6 rfl (by kernel_rfl) rfl rfl rfl rfl (hx57.sh hF23 [3, 4] (by decide) rfl) (fun _ _ _ _ _ => r_fieldAddr fa24_3 rfl rfl rfl (r_nil (qq rfl))) ?_
                 refine d_step 7 rfl (by kernel_rfl) ?_
                 refine r_store sz22 rfl hx57 rfl rfl rfl rfl (i := 2) rfl rfl rfl rfl ?_
                 intro wx53 hx58
                 refine d_next (hx58.sh hF23 [3, 4] (by decide) rfl) ?_
                 refine d_done (by kernel_rfl) ?_
                 refine q_next (fun a ha => ?_)
                 cases hb14
                 exact ⟨_, as22, (0 + 1), cs22, ([] ++ [.int .i64 v15.2.Op, .int .i64 v15.2.N, vs v15.2.Name, .slice as21 ns21 cs21]), as20, ns20, cs20, hF23, hx58.pick [1, 2, 3, 4, 5] (by decide) rfl, hs22, hs20, ha.cut (l := [0, 2, 6]) rfl⟩
             ·clear hm
              rcases cond_some hb13 with ⟨hb16, hb13⟩ | ⟨hb16, hb13⟩
              ·refine c_lit 81 rfl hb16 ?_
               refine c_true rfl (c_region ?_)
               refine r_fieldAddr fa24_0 rfl rfl rfl ?_
               refine r_store sz3 rfl hx33 rfl rfl rfl rfl (i := 0) rfl rfl rfl rfl ?_
               intro wx54 hx59
               refine r_nil ?_
               refine q_next (fun a ha => ?_)
               cases hb13
               exact ⟨_, Frz.refl _, hx59.pick [0, 1, 2, 3] (by decide) rfl, ha.cut (l := [0, 2, 6]) rfl⟩
              ·refine c_lit 81 rfl hb16 ?_
               refine c_false rfl (c_skip ?_)
               refine q_next (fun a ha => ?_)
               cases hb13
               exact ⟨_, Frz.refl _, hx33.pick [0, 1, 2, 3] (by decide) rfl, ha.cut (l := [0, 2, 6]) rfl⟩
            ·refine c_lit 75 rfl hb12 ?_
             refine c_false rfl (c_skip (q_block (q_then (c_seq (c_region (r_move rfl rfl rfl ?_))))))
             refine r_nilC rfl rfl rfl ?_
             refine r_fieldAddr fa59_1 rfl rfl rfl ?_
             refine r_loadB1 ag3 rfl rfl hx9 rfl (i := 2) rfl rfl ?_
             refine r_bin rfl rfl rfl rfl rfl ?_
             refine r_nilC rfl rfl rfl ?_
             refine r_fieldAddr fa59_1 rfl rfl rfl ?_
             refine r_store sz3 rfl hx9 rfl rfl rfl rfl (i := 2) rfl rfl rfl rfl ?_
             intro wx55 hx60
             refine r_nil (q_then (c_seq (c_region (r_move rfl rfl rfl ?_))))
             obtain ⟨v16, hv13, hm⟩ := bind_some hm
             refine r_callL ent31 rfl rfl rfl rfl hx60 (i := 2) rfl (tariff_reader_fail_ok _ _ _ _ hv13 hx60.sat hs2 (hx60.get (i := 2) rfl) (hx60.lendable (i := 2) rfl)) ?_
             rintro _ Fx24 _ _ wx56 hF24 hx61 ⟨as23, ns23, cs23, rfl, rfl, rfl, hs23⟩
             refine r_nil (q_then (c_seq (c_region ?_)))
             refine r_build (v := .agg #[.int .i64 0, .int .i64 0, vs [], .slice none 0 0]) rfl rfl rfl (fun _ => by kernel_rfl) ?_
             refine r_store sz24 rfl hx61 rfl rfl rfl rfl (i := 1) rfl rfl rfl rfl ?_
             intro wx57 hx62
             refine r_nil (q_then (c_ret ?_))
             refine b_retC rfl ag24 sz24 rfl hx62 rfl (i := 1) rfl ?_
             obtain rfl := Option.some.inj hm
             exact ⟨_, _, _, _, rfl, hx62.pick [2] (by decide) rfl, as23, ns23, cs23, none, 0, 0, rfl, rfl, rfl, hs23, SlR.nil _ _⟩
           ·clear hm
            rcases cond_some hb11 with ⟨hb17, hb11⟩ | ⟨hb17, hb11⟩
            ·refine c_lit 75 rfl hb17 ?_
             refine c_true rfl (c_skip ?_)
             refine q_next (fun a ha => ?_)
             cases hb11
             exact ⟨rfl, ha.cut (l := [0, 2, 3, 75]) rfl⟩
            ·refine c_lit 75 rfl hb17 ?_
             refine c_false rfl (c_region ?_)
             refine r_str rfl rfl rfl rfl rfl ?_
             refine r_assign rfl rfl rfl (r_nil ?_)
             refine q_next (fun a ha => ?_)
             cases hb11
             exact ⟨rfl, ha.cut (l := [0, 2, 3, 75]) rfl⟩
         ·clear hm
          rcases cond_some hb7 with ⟨hb18, hb7⟩ | ⟨hb18, hb7⟩
          ·refine c_lit 56 rfl hb18 ?_
           refine c_true rfl (c_skip ?_)
           refine q_next (fun a ha => ?_)
           cases hb7
           exact ⟨rfl, ha.cut (l := [0, 2, 3, 41, 56]) rfl⟩
          ·refine c_lit 56 rfl hb18 ?_
           refine c_false rfl (c_region ?_)
           refine r_str rfl rfl rfl rfl rfl ?_
           refine r_assign rfl rfl rfl (r_nil ?_)
           refine q_next (fun a ha => ?_)
           cases hb7
           exact ⟨rfl, ha.cut (l := [0, 2, 3, 41, 56]) rfl⟩
    ·clear hm
     rcases cond_some hb2 with ⟨hb19, hb2⟩ | ⟨hb19, hb2⟩
     ·refine r_lit 25 rfl hb19 ?_
      refine r_fieldAddr fa62_0 rfl rfl rfl ?_
      refine r_loadB1 ag3 rfl rfl hx4 rfl (i := 0) rfl rfl ?_
      refine r_bin rfl rfl rfl rfl rfl ?_
      refine r_pick_true rfl rfl rfl rfl (r_nil ?_)
      refine q_next (fun a ha => ?_)
      cases hb2
      exact ⟨rfl, ha.cut (l := [0, 2, 3, 29]) rfl⟩
     ·refine r_lit 25 rfl hb19 ?_
      refine r_off rfl (by decide) rfl (r_off rfl (by decide) rfl (r_off rfl (by decide) rfl (r_pick_false rfl rfl rfl rfl (r_nil ?_))))
      refine q_next (fun a ha => ?_)
      cases hb2
      exact ⟨rfl, ha.cut (l := [0, 2, 3, 29]) rfl⟩

theorem tariff_reader_expr_ok (n : Nat) (rx1 : reader) (r : (reader × Expr)) (hm : tariff_reader_expr n rx1 = some r) {w : World} {F : Frz} (hs : Sat F w) {as1 : Option Addr} {ns1 : Nat} {cs1 : Nat} {brx1 : Nat} (hs1 : SlR rp_Token F as1 ns1 cs1 rx1.l) (hbrx1 : (OE.box brx1 59 [.slice as1 ns1 cs1, .int .i64 rx1.at_, .int .i64 rx1.e]).ok w) (hfrx1 : F brx1 = none) :
  Calls Tryd.prog 28 #[.pointer (some ⟨brx1, 0, none⟩)] w fun e w' => ∃ v F' cs' O', e = .returned v ∧ HS F w [brx1] F' (.box brx1 59 cs' :: O') w' ∧ (∃ (al_0 : Option Addr) (nl_0 : Nat) (cl_0 : Nat) (a0_3 : Option Addr) (n0_3 : Nat) (c0_3 : Nat), v = .agg #[.int .i64 r.2.Op, .int .i64 r.2.N, vs r.2.Name, .slice a0_3 n0_3 c0_3] ∧ cs' = [.slice al_0 nl_0 cl_0, .int .i64 r.1.at_, .int .i64 r.1.e] ∧ O' = [] ∧ SlR rp_Token F' al_0 nl_0 cl_0 r.1.l ∧ SlR rp_Expr F' a0_3 n0_3 c0_3 r.2.Args) :=
 (tariff_reader_expr_all n).1 rx1 r hm hs hs1 hbrx1 hfrx1

theorem tariff_reader_atom_ok (n : Nat) (rx1 : reader) (r : (reader × Expr)) (hm : tariff_reader_atom n rx1 = some r) {w : World} {F : Frz} (hs : Sat F w) {as1 : Option Addr} {ns1 : Nat} {cs1 : Nat} {brx1 : Nat} (hs1 : SlR rp_Token F as1 ns1 cs1 rx1.l) (hbrx1 : (OE.box brx1 59 [.slice as1 ns1 cs1, .int .i64 rx1.at_, .int .i64 rx1.e]).ok w) (hfrx1 : F brx1 = none) :
  Calls Tryd.prog 47 #[.pointer (some ⟨brx1, 0, none⟩)] w fun e w' => ∃ v F' cs' O', e = .returned v ∧ HS F w [brx1] F' (.box brx1 59 cs' :: O') w' ∧ (∃ (al_0 : Option Addr) (nl_0 : Nat) (cl_0 : Nat) (a0_3 : Option Addr) (n0_3 : Nat) (c0_3 : Nat), v = .agg #[.int .i64 r.2.Op, .int .i64 r.2.N, vs r.2.Name, .slice a0_3 n0_3 c0_3] ∧ cs' = [.slice al_0 nl_0 cl_0, .int .i64 r.1.at_, .int .i64 r.1.e] ∧ O' = [] ∧ SlR rp_Token F' al_0 nl_0 cl_0 r.1.l ∧ SlR rp_Expr F' a0_3 n0_3 c0_3 r.2.Args) :=
 (tariff_reader_expr_all n).2 rx1 r hm hs hs1 hbrx1 hfrx1


end Go.Proofs.YtpihabofmnnbbaaDoor.M
