/-
  THE MIRRORS of the tariff's and the lexer's functions, of the references and the laws, and that each call returns what its mirror says. Printed by gen.py.
-/
import Derived.Test.YtpihabofmnnbbaaDoorRows
import Derived.Test.YtpihabofmnnbbaaDoorRtZ
import Derived.Test.YtpihabofmnnbbaaDoorExpr
import Derived.Test.YtpihabofmnnbbaaDoorExtT
import Derived.Test.YtpihabofmnnbbaaDoorMirA
namespace Go.Proofs.YtpihabofmnnbbaaDoor.M
open Go Go.RowKit Rt

structure reader where
 l : (List Token)
 at_ : Int
 e : Int
 deriving DecidableEq, Inhabited

def rp_reader : Rp reader where
 k := 3
 R := fun F cs x => ∃ (a0 : Option Addr) (n0 : Nat) (c0 : Nat), cs = [.slice a0 n0 c0, .int .i64 x.at_, .int .i64 x.e] ∧ SlR rp_Token F a0 n0 c0 x.l
 len := by rintro F cs x ⟨a0, n0, c0, h, _⟩; simp [h]
 mono := by rintro F F' cs x hF ⟨a0, n0, c0, h, h0⟩; exact ⟨a0, n0, c0, h, h0.mono hF⟩
 one := by rintro F cs x ⟨a0, n0, c0, h, _⟩ u hu; subst h; simp at hu; rcases hu with rfl | rfl | rfl <;> rfl

theorem fa59_2 : FieldIs Tryd.prog 59 2 2 := fun _ _ _ => by kernel_rfl

theorem ag31 : IsAgg Tryd.prog 31 false := fun _ => by kernel_rfl

theorem fa59_0 : FieldIs Tryd.prog 59 0 0 := fun _ _ _ => by kernel_rfl

theorem ag48 : IsAgg Tryd.prog 48 false := fun _ => by kernel_rfl

theorem fa59_1 : FieldIs Tryd.prog 59 1 1 := fun _ _ _ => by kernel_rfl

theorem ag3 : IsAgg Tryd.prog 3 false := fun _ => by kernel_rfl

theorem u48 : Tryd.prog.underlying 48 = some (.slice 62) := by kernel_rfl

def tariff_reader_next (_n : Nat) (rx1 : reader) : Option (reader × Token) :=
 (bif rx1.e != 0 then
  some true
 else
  some (rx1.at_ == (rx1.l.length : Int))).bind fun v1 =>
 bif v1 then
  some (rx1, (⟨4, [], 0, 0⟩ : Token))
 else
  (ix rx1.l rx1.at_).bind fun ex1 =>
  some (rx1, ex1)

set_option maxHeartbeats 1000000 in
set_option maxRecDepth 1000000 in
theorem tariff_reader_next_ok (n : Nat) (rx1 : reader) (r : (reader × Token)) (hm : tariff_reader_next n rx1 = some r) {w : World} {F : Frz} (hs : Sat F w) {as1 : Option Addr} {ns1 : Nat} {cs1 : Nat} {brx1 : Nat} (hs1 : SlR rp_Token F as1 ns1 cs1 rx1.l) (hbrx1 : (OE.box brx1 59 [.slice as1 ns1 cs1, .int .i64 rx1.at_, .int .i64 rx1.e]).ok w) (hfrx1 : F brx1 = none) :
  Calls Tryd.prog 46 #[.pointer (some ⟨brx1, 0, none⟩)] w fun e w' => ∃ v F' cs' O', e = .returned v ∧ HS F w [brx1] F' (.box brx1 59 cs' :: O') w' ∧ (∃ (al_0 : Option Addr) (nl_0 : Nat) (cl_0 : Nat), v = .agg #[.int .i64 r.2.Kind, vs r.2.Text, .int .i64 r.2.N, .int .i64 r.2.Pos] ∧ cs' = [.slice al_0 nl_0 cl_0, .int .i64 r.1.at_, .int .i64 r.1.e] ∧ O' = [] ∧ SlR rp_Token F' al_0 nl_0 cl_0 r.1.l) := by
 unfold tariff_reader_next at hm
 have h := HS.lend hs hbrx1 hfrx1
 refine calls_of 31 Tryd.func46 rfl rfl rfl ?_
 refine c_seq (c_region ?_)
 refine r_alloc ze62 rfl rfl rfl h ?_
 intro b1 wx1 hx1
 refine r_nil (q_then (c_seq (c_seq ?_)))
 refine c_regionD (by kernel_rfl) (by kernel_rfl) hx1 ?_
 refine q_stp rfl rfl rfl rfl (fun _ _ _ _ => r_move rfl rfl rfl (r_nil (qq rfl))) ?_
 refine q_nilC rfl rfl rfl ?_
 refine q_stp rfl rfl rfl rfl (fun _ _ _ _ => r_fieldAddr fa59_2 rfl rfl rfl (r_nil (qq rfl))) ?_
 refine q_stp rfl rfl rfl rfl (fun _ _ _ hq => r_loadB1 ag31 rfl rfl hq rfl (i := 1) rfl rfl (r_nil (qq rfl))) ?_
 refine q_stp rfl rfl rfl rfl (fun _ _ _ _ => r_bin rfl rfl rfl rfl rfl (r_nil (qq rfl))) ?_
 refine q_stp rfl rfl rfl rfl (fun _ _ _ _ => r_move rfl rfl rfl (r_nil (qq rfl))) ?_
 obtain ⟨v1, hb1, hm⟩ := bind_some hm
 refine q_mid 11 (fun a => Has 31 a [(0, .pointer (some ⟨brx1, 0, none⟩)), (2, .pointer (some ⟨b1, 0, none⟩)), (19, .bool v1)]) ?_ ?_
 ·intro a hax1
  refine qr_apply hax1 ?_
  refine q_end ?_
  rintro wx3 ⟨Fx1, hF1, hx2⟩
  refine q_then ?_
  rcases cond_some hm with ⟨hb2, hm⟩ | ⟨hb2, hm⟩
  ·refine c_lit 19 rfl hb2 ?_
   refine c_true rfl (c_seq (c_region ?_))
   refine r_build (v := .agg #[.int .i64 4, vs [], .int .i64 0, .int .i64 0]) rfl rfl rfl (fun _ => by kernel_rfl) ?_
   refine r_store sz62 rfl hx2 rfl rfl rfl rfl (i := 0) rfl rfl rfl rfl ?_
   intro wx4 hx3
   refine r_nil (q_then (c_ret (q_then_ret ?_)))
   refine b_retC rfl ag62 sz62 rfl hx3 rfl (i := 0) rfl ?_
   obtain rfl := Option.some.inj hm
   exact ⟨_, _, _, _, rfl, hx3.pick [1] (by decide) rfl, as1, ns1, cs1, rfl, rfl, rfl, (hs1.mono hF1)⟩
  ·refine c_lit 19 rfl hb2 ?_
   refine c_false rfl (c_skip (q_then (c_seq ?_)))
   refine c_regionH (SH Fx1 [.box brx1 59 [.slice as1 ns1 cs1, .int .i64 rx1.at_, .int .i64 rx1.e]]) 11 rfl (by kernel_rfl) hx2 ?_
   intro wx5 hx4
   refine d_tk 0 rfl (by kernel_rfl) rfl rfl rfl rfl (hx4.sh (Frz.refl _) [1] (by decide) rfl) (fun _ _ _ _ _ => r_move rfl rfl rfl (r_nil (qq rfl))) ?_
   refine d_nilC 1 rfl (by kernel_rfl) (by kernel_rfl) (by kernel_rfl) rfl rfl rfl (hx4.sh (Frz.refl _) [1] (by decide) rfl) ?_
   refine d_tk 2 rfl (by kernel_rfl) rfl rfl rfl rfl (hx4.sh (Frz.refl _) [1] (by decide) rfl) (fun _ _ _ _ _ => r_fieldAddr fa59_0 rfl rfl rfl (r_nil (qq rfl))) ?_
   refine d_tk 3 rfl (by kernel_rfl) rfl rfl rfl rfl (hx4.sh (Frz.refl _) [1] (by decide) rfl) (fun _ _ _ _ hq => r_loadB1 ag48 rfl rfl hq rfl (i := 0) rfl rfl (r_nil (qq rfl))) ?_
   refine d_tk 4 rfl (by kernel_rfl) rfl rfl rfl rfl (hx4.sh (Frz.refl _) [1] (by decide) rfl) (fun _ _ _ _ _ => r_move rfl rfl rfl (r_nil (qq rfl))) ?_
   refine d_nilC 5 rfl (by kernel_rfl) (by kernel_rfl) (by kernel_rfl) rfl rfl rfl (hx4.sh (Frz.refl _) [1] (by decide) rfl) ?_
   refine d_tk 6 rfl (by kernel_rfl) rfl rfl rfl rfl (hx4.sh (Frz.refl _) [1] (by decide) rfl) (fun _ _ _ _ _ => r_fieldAddr fa59_1 rfl rfl rfl (r_nil (qq rfl))) ?_
   refine d_tk 7 rfl (by kernel_rfl) rfl rfl rfl rfl (hx4.sh (Frz.refl _) [1] (by decide) rfl) (fun _ _ _ _ hq => r_loadB1 ag3 rfl rfl hq rfl (i := 0) rfl rfl (r_nil (qq rfl))) ?_
   obtain ⟨ex1, he1, hm⟩ := bind_some hm
   obtain ⟨b2, o1, cs1, hf1, hr1, hrun1⟩ := findex_ex (P := Tryd.prog) (r := rp_Token) u48 sz62 (hs1.mono hF1) he1
   have hc1 : cs1 = [.int .i64 ex1.Kind, vs ex1.Text, .int .i64 ex1.N, .int .i64 ex1.Pos] := hr1
   subst hc1
   refine d_findex 8 rfl (by kernel_rfl) (by kernel_rfl) (by kernel_rfl) rfl rfl rfl rfl hrun1 (hx4.sh (Frz.refl _) [1] (by decide) rfl) ?_
   refine d_tk 9 rfl (by kernel_rfl) rfl rfl rfl rfl (hx4.sh (Frz.refl _) [1] (by decide) rfl) (fun _ _ _ hleq hq => r_loadFW ag62 sz62 rfl rfl hq (hf1.mono hleq) rfl rfl (r_nil (qq rfl))) ?_
   refine d_step 10 rfl (by kernel_rfl) ?_
   refine r_store sz62 rfl hx4 rfl rfl rfl rfl (i := 0) rfl rfl rfl rfl ?_
   intro wx6 hx5
   refine d_next (hx5.sh (Frz.refl _) [1] (by decide) rfl) ?_
   refine d_done (by kernel_rfl) ?_
   refine q_then (c_ret ?_)
   refine b_retC rfl ag62 sz62 rfl hx5 rfl (i := 0) rfl ?_
   obtain rfl := Option.some.inj hm
   exact ⟨_, _, _, _, rfl, hx5.pick [1] (by decide) rfl, as1, ns1, cs1, rfl, rfl, rfl, (hs1.mono hF1)⟩
 ·clear hm
  rcases cond_some hb1 with ⟨hb3, hb1⟩ | ⟨hb3, hb1⟩
  ·refine q_lit 8 rfl hb3 ?_
   refine q_off rfl rfl rfl (q_off rfl rfl rfl (q_off rfl rfl rfl (q_off rfl rfl rfl (q_off rfl rfl rfl (q_off rfl rfl rfl (q_off rfl rfl rfl (q_off rfl rfl rfl (q_off rfl rfl rfl (q_off rfl rfl rfl ?_)))))))))
   refine q_stp rfl rfl rfl rfl (fun _ _ _ _ => r_pick_true rfl rfl rfl rfl (r_nil (qq rfl))) ?_
   refine q_nil (fun a ha => ?_)
   cases hb1
   exact ha.cut (l := [0, 2, 19]) rfl
  ·refine q_lit 8 rfl hb3 ?_
   refine q_stp rfl rfl rfl rfl (fun _ _ _ _ => r_move rfl rfl rfl (r_nil (qq rfl))) ?_
   refine q_nilC rfl rfl rfl ?_
   refine q_stp rfl rfl rfl rfl (fun _ _ _ _ => r_fieldAddr fa59_1 rfl rfl rfl (r_nil (qq rfl))) ?_
   refine q_stp rfl rfl rfl rfl (fun _ _ _ hq => r_loadB1 ag3 rfl rfl hq rfl (i := 1) rfl rfl (r_nil (qq rfl))) ?_
   refine q_stp rfl rfl rfl rfl (fun _ _ _ _ => r_move rfl rfl rfl (r_nil (qq rfl))) ?_
   refine q_nilC rfl rfl rfl ?_
   refine q_stp rfl rfl rfl rfl (fun _ _ _ _ => r_fieldAddr fa59_0 rfl rfl rfl (r_nil (qq rfl))) ?_
   refine q_stp rfl rfl rfl rfl (fun _ _ _ hq => r_loadB1 ag48 rfl rfl hq rfl (i := 1) rfl rfl (r_nil (qq rfl))) ?_
   refine q_stp rfl rfl rfl rfl (fun _ _ _ _ => r_lenS hs1.len u48 rfl rfl rfl (r_nil (qq rfl))) ?_
   refine q_stp rfl rfl rfl rfl (fun _ _ _ _ => r_bin rfl rfl rfl rfl rfl (r_nil (qq rfl))) ?_
   refine q_stp rfl rfl rfl rfl (fun _ _ _ _ => r_pick_false rfl rfl rfl rfl (r_nil (qq rfl))) ?_
   refine q_nil (fun a ha => ?_)
   cases hb1
   exact ha.cut (l := [0, 2, 19]) rfl


theorem sz31 : SizeIs Tryd.prog 31 1 := fun _ => by kernel_rfl

def tariff_reader_fail (_n : Nat) (rx1 : reader) (ex1 : Int) : Option reader :=
 bif rx1.e == 0 then
  some (⟨rx1.l, rx1.at_, ex1⟩ : reader)
 else
  some rx1

set_option maxHeartbeats 1000000 in
set_option maxRecDepth 1000000 in
theorem tariff_reader_fail_ok (n : Nat) (rx1 : reader) (ex1 : Int) (r : reader) (hm : tariff_reader_fail n rx1 ex1 = some r) {w : World} {F : Frz} (hs : Sat F w) {as1 : Option Addr} {ns1 : Nat} {cs1 : Nat} {brx1 : Nat} (hs1 : SlR rp_Token F as1 ns1 cs1 rx1.l) (hbrx1 : (OE.box brx1 59 [.slice as1 ns1 cs1, .int .i64 rx1.at_, .int .i64 rx1.e]).ok w) (hfrx1 : F brx1 = none) :
  Calls Tryd.prog 31 #[.pointer (some ⟨brx1, 0, none⟩), .int .i64 ex1] w fun e w' => ∃ v F' cs' O', e = .returned v ∧ HS F w [brx1] F' (.box brx1 59 cs' :: O') w' ∧ (∃ (al_0 : Option Addr) (nl_0 : Nat) (cl_0 : Nat), v = .tuple #[] ∧ cs' = [.slice al_0 nl_0 cl_0, .int .i64 r.at_, .int .i64 r.e] ∧ O' = [] ∧ SlR rp_Token F' al_0 nl_0 cl_0 r.l) := by
 unfold tariff_reader_fail at hm
 have h := HS.lend hs hbrx1 hfrx1
 refine calls_of 13 Tryd.func31 rfl rfl rfl ?_
 refine c_seq (c_region (r_move rfl rfl rfl ?_))
 refine r_nilC rfl rfl rfl ?_
 refine r_fieldAddr fa59_2 rfl rfl rfl ?_
 refine r_loadB1 ag31 rfl rfl h rfl (i := 0) rfl rfl ?_
 refine r_bin rfl rfl rfl rfl rfl ?_
 refine r_nil (q_then ?_)
 rcases cond_some hm with ⟨hb1, hm⟩ | ⟨hb1, hm⟩
 ·refine c_lit 8 rfl hb1 ?_
  refine c_true rfl (c_region (r_move rfl rfl rfl (r_move rfl rfl rfl ?_)))
  refine r_nilC rfl rfl rfl ?_
  refine r_fieldAddr fa59_2 rfl rfl rfl ?_
  refine r_store sz31 rfl h rfl rfl rfl rfl (i := 0) rfl rfl rfl rfl ?_
  intro wx1 hx1
  refine r_nil ?_
  refine b_end0 rfl ?_
  obtain rfl := Option.some.inj hm
  exact ⟨_, _, _, _, rfl, hx1.pick [0] (by decide) rfl, as1, ns1, cs1, rfl, rfl, rfl, hs1⟩
 ·refine c_lit 8 rfl hb1 ?_
  refine c_false rfl (c_skip ?_)
  refine b_end0 rfl ?_
  obtain rfl := Option.some.inj hm
  exact ⟨_, _, _, _, rfl, h.pick [0] (by decide) rfl, as1, ns1, cs1, rfl, rfl, rfl, hs1⟩


theorem ent46 : Ent Tryd.prog 46 := fun _ _ => by kernel_rfl

theorem fa62_1 : FieldIs Tryd.prog 62 1 1 := fun _ _ _ => by kernel_rfl

theorem ag9 : IsAgg Tryd.prog 9 false := fun _ => by kernel_rfl

theorem fa62_0 : FieldIs Tryd.prog 62 0 0 := fun _ _ _ => by kernel_rfl

def tariff_reader_is (n : Nat) (rx1 : reader) (s2 : Bs) : Option (reader × Bool) :=
 (tariff_reader_next n rx1).bind fun v1 =>
 (bif v1.2.Text == s2 then
  (bif v1.2.Kind == 0 then
   some true
  else
   some (v1.2.Kind == 3)).bind fun v3 =>
  some v3
 else
  some false).bind fun v2 =>
 some (v1.1, v2)

set_option maxHeartbeats 1000000 in
set_option maxRecDepth 1000000 in
theorem tariff_reader_is_ok (n : Nat) (rx1 : reader) (s2 : Bs) (r : (reader × Bool)) (hm : tariff_reader_is n rx1 s2 = some r) {w : World} {F : Frz} (hs : Sat F w) {as1 : Option Addr} {ns1 : Nat} {cs1 : Nat} {brx1 : Nat} (hs1 : SlR rp_Token F as1 ns1 cs1 rx1.l) (hbrx1 : (OE.box brx1 59 [.slice as1 ns1 cs1, .int .i64 rx1.at_, .int .i64 rx1.e]).ok w) (hfrx1 : F brx1 = none) :
  Calls Tryd.prog 29 #[.pointer (some ⟨brx1, 0, none⟩), vs s2] w fun e w' => ∃ v F' cs' O', e = .returned v ∧ HS F w [brx1] F' (.box brx1 59 cs' :: O') w' ∧ (∃ (al_0 : Option Addr) (nl_0 : Nat) (cl_0 : Nat), v = .bool r.2 ∧ cs' = [.slice al_0 nl_0 cl_0, .int .i64 r.1.at_, .int .i64 r.1.e] ∧ O' = [] ∧ SlR rp_Token F' al_0 nl_0 cl_0 r.1.l) := by
 unfold tariff_reader_is at hm
 have h := HS.lend hs hbrx1 hfrx1
 refine calls_of 22 Tryd.func29 rfl rfl rfl ?_
 refine c_seq (c_region (r_assign rfl rfl rfl (r_nil (q_then (c_seq (c_region (r_move rfl rfl rfl ?_)))))))
 obtain ⟨v1, hv1, hm⟩ := bind_some hm
 refine r_callL ent46 rfl rfl rfl rfl h (i := 0) rfl (tariff_reader_next_ok _ _ _ hv1 h.sat hs1 (h.get (i := 0) rfl) (h.lendable (i := 0) rfl)) ?_
 rintro _ Fx1 _ _ wx1 hF1 hx1 ⟨as3, ns3, cs3, rfl, rfl, rfl, hs3⟩
 refine r_alloc ze62 rfl rfl rfl hx1 ?_
 intro b1 wx2 hx2
 refine r_store sz62 rfl hx2 rfl rfl rfl rfl (i := 0) rfl rfl rfl rfl ?_
 intro wx3 hx3
 refine r_nil (q_then (c_seq (c_region ?_)))
 refine r_fieldAddr fa62_1 rfl rfl rfl ?_
 refine r_loadB1 ag9 rfl rfl hx3 rfl (i := 0) rfl rfl ?_
 refine r_move rfl rfl rfl ?_
 refine r_str rfl rfl rfl rfl rfl ?_
 refine r_move rfl rfl rfl ?_
 obtain ⟨v2, hb1, hm⟩ := bind_some hm
 refine r_mid 9 (fun a w' => wx3 = w' ∧ Has 22 a [(21, .bool v2)]) ?_ ?_
 ·rintro a wx4 ⟨rfl, hax1⟩
  refine rw_apply hax1 ?_
  refine r_assign rfl rfl rfl (r_nil (q_then (c_ret ?_)))
  refine b_ret1 rfl rfl ?_
  obtain rfl := Option.some.inj hm
  exact ⟨_, _, _, _, rfl, hx3.pick [1] (by decide) rfl, as3, ns3, cs3, rfl, rfl, rfl, hs3⟩
 ·clear hm
  rcases cond_some hb1 with ⟨hb2, hb1⟩ | ⟨hb2, hb1⟩
  ·refine r_lit 12 rfl hb2 ?_
   refine r_fieldAddr fa62_0 rfl rfl rfl ?_
   refine r_loadB1 ag3 rfl rfl hx3 rfl (i := 0) rfl rfl ?_
   refine r_bin rfl rfl rfl rfl rfl ?_
   refine r_move rfl rfl rfl ?_
   obtain ⟨v3, hb3, hb1⟩ := bind_some hb1
   refine r_mid 4 (fun a w' => wx3 = w' ∧ Has 22 a [(12, .bool true), (20, .bool v3)]) ?_ ?_
   ·rintro a wx5 ⟨rfl, hax2⟩
    refine rw_apply hax2 ?_
    refine r_pick_true rfl rfl rfl rfl (r_nil ?_)
    refine q_next (fun a ha => ?_)
    cases hb1
    exact ⟨rfl, ha.cut (l := [21]) rfl⟩
   ·clear hb1
    rcases cond_some hb3 with ⟨hb4, hb3⟩ | ⟨hb4, hb3⟩
    ·refine r_lit 16 rfl hb4 ?_
     refine r_off rfl (by decide) rfl (r_off rfl (by decide) rfl (r_off rfl (by decide) rfl (r_pick_true rfl rfl rfl rfl (r_nil ?_))))
     refine q_next (fun a ha => ?_)
     cases hb3
     exact ⟨rfl, ha.cut (l := [12, 20]) rfl⟩
    ·refine r_lit 16 rfl hb4 ?_
     refine r_fieldAddr fa62_0 rfl rfl rfl ?_
     refine r_loadB1 ag3 rfl rfl hx3 rfl (i := 0) rfl rfl ?_
     refine r_bin rfl rfl rfl rfl rfl ?_
     refine r_pick_false rfl rfl rfl rfl (r_nil ?_)
     refine q_next (fun a ha => ?_)
     cases hb3
     exact ⟨rfl, ha.cut (l := [12, 20]) rfl⟩
  ·refine r_lit 12 rfl hb2 ?_
   refine r_off rfl (by decide) rfl (r_off rfl (by decide) rfl (r_off rfl (by decide) rfl (r_off rfl (by decide) rfl (r_off rfl (by decide) rfl (r_off rfl (by decide) rfl (r_off rfl (by decide) rfl (r_off rfl (by decide) rfl (r_pick_false rfl rfl rfl rfl (r_nil ?_)))))))))
   refine q_next (fun a ha => ?_)
   cases hb1
   exact ⟨rfl, ha.cut (l := [21]) rfl⟩


theorem ent29 : Ent Tryd.prog 29 := fun _ _ => by kernel_rfl

def tariff_reader_take (n : Nat) (rx1 : reader) (s2 : Bs) : Option (reader × Bool) :=
 (tariff_reader_is n rx1 s2).bind fun v1 =>
 (bif v1.2 then
  some (iadd .i64 v1.1.at_ 1)
 else
  some v1.1.at_).bind fun f1 =>
 some ((⟨v1.1.l, f1, v1.1.e⟩ : reader), v1.2)

set_option maxHeartbeats 1000000 in
set_option maxRecDepth 1000000 in
theorem tariff_reader_take_ok (n : Nat) (rx1 : reader) (s2 : Bs) (r : (reader × Bool)) (hm : tariff_reader_take n rx1 s2 = some r) {w : World} {F : Frz} (hs : Sat F w) {as1 : Option Addr} {ns1 : Nat} {cs1 : Nat} {brx1 : Nat} (hs1 : SlR rp_Token F as1 ns1 cs1 rx1.l) (hbrx1 : (OE.box brx1 59 [.slice as1 ns1 cs1, .int .i64 rx1.at_, .int .i64 rx1.e]).ok w) (hfrx1 : F brx1 = none) :
  Calls Tryd.prog 32 #[.pointer (some ⟨brx1, 0, none⟩), vs s2] w fun e w' => ∃ v F' cs' O', e = .returned v ∧ HS F w [brx1] F' (.box brx1 59 cs' :: O') w' ∧ (∃ (al_0 : Option Addr) (nl_0 : Nat) (cl_0 : Nat), v = .bool r.2 ∧ cs' = [.slice al_0 nl_0 cl_0, .int .i64 r.1.at_, .int .i64 r.1.e] ∧ O' = [] ∧ SlR rp_Token F' al_0 nl_0 cl_0 r.1.l) := by
 unfold tariff_reader_take at hm
 have h := HS.lend hs hbrx1 hfrx1
 refine calls_of 18 Tryd.func32 rfl rfl rfl ?_
 refine c_seq (c_region (r_assign rfl rfl rfl (r_nil (q_then (c_seq (c_region (r_move rfl rfl rfl (r_move rfl rfl rfl ?_))))))))
 obtain ⟨v1, hv1, hm⟩ := bind_some hm
 refine r_callL ent29 rfl rfl rfl rfl h (i := 0) rfl (tariff_reader_is_ok _ _ _ _ hv1 h.sat hs1 (h.get (i := 0) rfl) (h.lendable (i := 0) rfl)) ?_
 rintro _ Fx1 _ _ wx1 hF1 hx1 ⟨as3, ns3, cs3, rfl, rfl, rfl, hs3⟩
 refine r_assign rfl rfl rfl (r_nil (q_then (c_seq (c_seq (c_region (r_move rfl rfl rfl (r_nil (q_then ?_))))))))
 obtain ⟨f1, hb1, hm⟩ := bind_some hm
 refine c_midT (fun a w' => ∃ (Fx2 : Frz), Frz.le Fx1 Fx2 ∧ HS F w [brx1] Fx2 [.box brx1 59 [.slice as3 ns3 cs3, .int .i64 f1, .int .i64 v1.1.e]] w' ∧ Has 18 a [(5, .bool v1.2)]) ?_ ?_
 ·rintro a wx2 ⟨Fx2, hF2, hx2, hax1⟩
  refine cw_apply hax1 ?_
  refine c_seq (c_region (r_move rfl rfl rfl (r_assign rfl rfl rfl (r_nil (q_then (c_ret ?_))))))
  refine b_ret1 rfl rfl ?_
  obtain rfl := Option.some.inj hm
  exact ⟨_, _, _, _, rfl, hx2.pick [0] (by decide) rfl, as3, ns3, cs3, rfl, rfl, rfl, (hs3.mono hF2)⟩
 ·clear hm
  rcases cond_some hb1 with ⟨hb2, hb1⟩ | ⟨hb2, hb1⟩
  ·refine c_lit 9 rfl hb2 ?_
   refine c_true rfl (c_region (r_move rfl rfl rfl ?_))
   refine r_nilC rfl rfl rfl ?_
   refine r_fieldAddr fa59_1 rfl rfl rfl ?_
   refine r_loadB1 ag3 rfl rfl hx1 rfl (i := 0) rfl rfl ?_
   refine r_bin rfl rfl rfl rfl rfl ?_
   refine r_nilC rfl rfl rfl ?_
   refine r_fieldAddr fa59_1 rfl rfl rfl ?_
   refine r_store sz3 rfl hx1 rfl rfl rfl rfl (i := 0) rfl rfl rfl rfl ?_
   intro wx3 hx3
   refine r_nil ?_
   refine q_next (fun a ha => ?_)
   cases hb1
   exact ⟨_, Frz.refl _, hx3.pick [0] (by decide) rfl, ha.cut (l := [5]) rfl⟩
  ·refine c_lit 9 rfl hb2 ?_
   refine c_false rfl (c_skip ?_)
   refine q_next (fun a ha => ?_)
   cases hb1
   exact ⟨_, Frz.refl _, hx1.pick [0] (by decide) rfl, ha.cut (l := [5]) rfl⟩


theorem u36 : Tryd.prog.underlying 36 = some (.slice 9) := by kernel_rfl

theorem sz9 : SizeIs Tryd.prog 9 1 := fun _ => by kernel_rfl

theorem ent32 : Ent Tryd.prog 32 := fun _ _ => by kernel_rfl

theorem ent31 : Ent Tryd.prog 31 := fun _ _ => by kernel_rfl

def tariff_reader_need_L1 (n : Nat) (l1 : (List Bs)) (kont1 : (List Token) → Int → Int → Option reader) : Nat → Int → (List Token) → Int → Int → Option reader
 | 0, _, _, _, _ => none
 | mx1 + 1, i1, f1, f2, f3 =>
  bif decide (i1 < (l1.length : Int)) then
   (ix l1 i1).bind fun ex1 =>
   (tariff_reader_take n (⟨f1, f2, f3⟩ : reader) ex1).bind fun v1 =>
   bif !v1.2 then
    (tariff_reader_fail n v1.1 12).bind fun v2 =>
    tariff_reader_need_L1 n l1 kont1 mx1 (iadd .i64 i1 1) v2.l v2.at_ v2.e
   else
    tariff_reader_need_L1 n l1 kont1 mx1 (iadd .i64 i1 1) v1.1.l v1.1.at_ v1.1.e
  else
   kont1 f1 f2 f3

theorem tariff_reader_need_L1_s (n : Nat) (l1 : (List Bs)) (kont1 : (List Token) → Int → Int → Option reader) (mx1 : Nat) (i1 : Int) (f1 : (List Token)) (f2 : Int) (f3 : Int) : tariff_reader_need_L1 n l1 kont1 (mx1 + 1) i1 f1 f2 f3 =
  bif decide (i1 < (l1.length : Int)) then
   (ix l1 i1).bind fun ex1 =>
   (tariff_reader_take n (⟨f1, f2, f3⟩ : reader) ex1).bind fun v1 =>
   bif !v1.2 then
    (tariff_reader_fail n v1.1 12).bind fun v2 =>
    tariff_reader_need_L1 n l1 kont1 mx1 (iadd .i64 i1 1) v2.l v2.at_ v2.e
   else
    tariff_reader_need_L1 n l1 kont1 mx1 (iadd .i64 i1 1) v1.1.l v1.1.at_ v1.1.e
  else
   kont1 f1 f2 f3 := rfl

def tariff_reader_need (n : Nat) (rx1 : reader) (l1 : (List Bs)) : Option reader :=
 tariff_reader_need_L1 n l1 (fun (f4 : (List Token)) (f5 : Int) (f6 : Int) =>
  some (⟨f4, f5, f6⟩ : reader)) n 0 rx1.l rx1.at_ rx1.e

set_option maxHeartbeats 1000000 in
set_option maxRecDepth 1000000 in
theorem tariff_reader_need_ok (n : Nat) (rx1 : reader) (l1 : (List Bs)) (r : reader) (hm : tariff_reader_need n rx1 l1 = some r) {w : World} {F : Frz} (hs : Sat F w) {as1 : Option Addr} {ns1 : Nat} {cs1 : Nat} {brx1 : Nat} {as2 : Option Addr} {ns2 : Nat} {cs2 : Nat} (hs1 : SlR rp_Token F as1 ns1 cs1 rx1.l) (hbrx1 : (OE.box brx1 59 [.slice as1 ns1 cs1, .int .i64 rx1.at_, .int .i64 rx1.e]).ok w) (hfrx1 : F brx1 = none) (hs2 : SlR Rp.str F as2 ns2 cs2 l1) :
  Calls Tryd.prog 26 #[.pointer (some ⟨brx1, 0, none⟩), .slice as2 ns2 cs2] w fun e w' => ∃ v F' cs' O', e = .returned v ∧ HS F w [brx1] F' (.box brx1 59 cs' :: O') w' ∧ (∃ (al_0 : Option Addr) (nl_0 : Nat) (cl_0 : Nat), v = .tuple #[] ∧ cs' = [.slice al_0 nl_0 cl_0, .int .i64 r.at_, .int .i64 r.e] ∧ O' = [] ∧ SlR rp_Token F' al_0 nl_0 cl_0 r.l) := by
 unfold tariff_reader_need at hm
 have h := HS.lend hs hbrx1 hfrx1
 refine calls_of 19 Tryd.func26 rfl rfl rfl ?_
 refine c_seq (c_region (r_move rfl rfl rfl ?_))
 refine r_lenS hs2.len u36 rfl rfl rfl ?_
 refine r_move rfl rfl rfl (r_nil (q_then (c_block ?_)))
 intro a hax3
 obtain ⟨kont1, hkont1⟩ : ∃ kont1 : (List Token) → Int → Int → Option reader, kont1 = (fun (f4 : (List Token)) (f5 : Int) (f6 : Int) =>
       some (⟨f4, f5, f6⟩ : reader)) := ⟨_, rfl⟩
 replace hm : (fun m (s : Int × (List Token) × Int × Int) => tariff_reader_need_L1 n l1 kont1 m s.1 s.2.1 s.2.2.1 s.2.2.2) n (0, rx1.l, rx1.at_, rx1.e) = some r := by rw [hkont1]; exact hm
 refine loopX (id := 0) (fun m (s : Int × (List Token) × Int × Int) => tariff_reader_need_L1 n l1 kont1 m s.1 s.2.1 s.2.2.1 s.2.2.2) (fun (y : (List Token) × Int × Int) => kont1 y.1 y.2.1 y.2.2) r (fun (s : Int × (List Token) × Int × Int) a w' => ∃ (Fx1 : Frz) (as3 : Option Addr) (ns3 : Nat) (cs3 : Nat), Frz.le F Fx1 ∧ HS F w [brx1] Fx1 [.box brx1 59 [.slice as3 ns3 cs3, .int .i64 s.2.2.1, .int .i64 s.2.2.2]] w' ∧ (SlR rp_Token Fx1 as3 ns3 cs3 s.2.1) ∧ Has 19 a [(0, .pointer (some ⟨brx1, 0, none⟩)), (6, .slice as2 ns2 cs2), (7, .int .i64 (l1.length : Int)), (8, .int .i64 s.1)]) (fun (y : (List Token) × Int × Int) a w' => ∃ (Fx2 : Frz) (as4 : Option Addr) (ns4 : Nat) (cs4 : Nat), Frz.le F Fx2 ∧ HS F w [brx1] Fx2 [.box brx1 59 [.slice as4 ns4 cs4, .int .i64 y.2.1, .int .i64 y.2.2]] w' ∧ (SlR rp_Token Fx2 as4 ns4 cs4 y.1) ∧ Has 19 a []) (fun _ => rfl) ?_ ?_ hm ⟨_, as1, ns1, cs1, Frz.refl _, h.pick [0] (by decide) rfl, hs1, hax3.cut (l := [0, 6, 7, 8]) rfl⟩
 ·clear hm; rintro ⟨f4, f5, f6⟩ a wx1 hm ⟨Fx2, as4, ns4, cs4, hF2, hx2, hs4, hax1⟩
  rw [hkont1] at hm
  replace hm := hm
  refine qw_apply (e := .exit 0) hax1 ?_
  refine q_block_hit ?_
  refine b_end0 rfl ?_
  obtain rfl := Option.some.inj hm
  exact ⟨_, _, _, _, rfl, hx2.pick [0] (by decide) rfl, as4, ns4, cs4, rfl, rfl, rfl, hs4⟩
 ·clear hm hkont1; intro hk1 mx1 K ihx1
  rintro ⟨i1, f1, f2, f3⟩ a wx2 hm ⟨Fx1, as3, ns3, cs3, hF1, hx1, hs3, hax2⟩
  simp only [tariff_reader_need_L1_s] at hm
  refine cw_apply hax2 ?_
  refine c_seq (c_region ?_)
  refine r_bin rfl rfl rfl rfl rfl ?_
  refine r_nil (q_then (c_seq ?_))
  rcases cond_some hm with ⟨hb1, hm⟩ | ⟨hb1, hm⟩
  ·refine c_lit 9 rfl hb1 ?_
   refine c_true rfl (c_skip (q_then (c_seq (c_block (c_seq (c_region ?_))))))
   obtain ⟨ex1, he1, hm⟩ := bind_some hm
   refine r_findex (r := Rp.str) u36 sz9 rfl rfl rfl rfl (hs2.mono hF1) he1 ?_
   intro b1 o1 cs1 hf1 hr1
   have hc1 : cs1 = [vs ex1] := hr1
   subst hc1
   refine r_loadF1 (j := 0) ag9 rfl rfl hx1 hf1 rfl rfl ?_
   refine r_assign rfl rfl rfl (r_nil (q_then (c_seq (c_region (r_move rfl rfl rfl (r_move rfl rfl rfl ?_))))))
   obtain ⟨v1, hv1, hm⟩ := bind_some hm
   refine r_callL ent32 rfl rfl rfl rfl hx1 (i := 0) rfl (tariff_reader_take_ok _ _ _ _ hv1 hx1.sat hs3 (hx1.get (i := 0) rfl) (hx1.lendable (i := 0) rfl)) ?_
   rintro _ Fx3 _ _ wx3 hF3 hx3 ⟨as5, ns5, cs5, rfl, rfl, rfl, hs5⟩
   refine r_not rfl rfl rfl (r_nil (q_then ?_))
   rcases cond_some hm with ⟨hb2, hm⟩ | ⟨hb2, hm⟩
   ·refine c_lit 15 rfl hb2 ?_
    refine c_true rfl (c_region (r_move rfl rfl rfl ?_))
    obtain ⟨v2, hv2, hm⟩ := bind_some hm
    refine r_callL ent31 rfl rfl rfl rfl hx3 (i := 0) rfl (tariff_reader_fail_ok _ _ _ _ hv2 hx3.sat hs5 (hx3.get (i := 0) rfl) (hx3.lendable (i := 0) rfl)) ?_
    rintro _ Fx4 _ _ wx4 hF4 hx4 ⟨as6, ns6, cs6, rfl, rfl, rfl, hs6⟩
    refine r_nil (q_block (q_then (c_region ?_)))
    refine r_bin rfl rfl rfl rfl rfl ?_
    refine r_move rfl rfl rfl (r_nil ?_)
    refine q_next (fun a ha => ihx1 ((iadd .i64 i1 1), v2.l, v2.at_, v2.e) a _ hm ?_)
    exact ⟨_, as6, ns6, cs6, ((hF1.trans hF3).trans hF4), hx4.pick [0] (by decide) rfl, hs6, ha.cut (l := [0, 6, 7, 8]) rfl⟩
   ·refine c_lit 15 rfl hb2 ?_
    refine c_false rfl (c_skip (q_block (q_then (c_region ?_))))
    refine r_bin rfl rfl rfl rfl rfl ?_
    refine r_move rfl rfl rfl (r_nil ?_)
    refine q_next (fun a ha => ihx1 ((iadd .i64 i1 1), v1.1.l, v1.1.at_, v1.1.e) a _ hm ?_)
    exact ⟨_, as5, ns5, cs5, (hF1.trans hF3), hx3.pick [0] (by decide) rfl, hs5, ha.cut (l := [0, 6, 7, 8]) rfl⟩
  ·refine c_lit 9 rfl hb1 ?_
   refine c_false rfl (c_exit (q_then_exit (q_then_exit ?_)))
   refine fun a ha => hk1 (f1, f2, f3) a _ hm ?_
   exact ⟨_, as3, ns3, cs3, hF1, hx1.pick [0] (by decide) rfl, hs3, ha.cut (l := []) rfl⟩


def tariff_reader_one (n : Nat) (rx1 : reader) (kind1 : Int) : Option (reader × Token) :=
 (tariff_reader_next n rx1).bind fun v1 =>
 bif v1.2.Kind != kind1 then
  (tariff_reader_fail n v1.1 12).bind fun v2 =>
  some (v2, (⟨0, [], 0, 0⟩ : Token))
 else
  some ((⟨v1.1.l, iadd .i64 v1.1.at_ 1, v1.1.e⟩ : reader), v1.2)

set_option maxHeartbeats 1000000 in
set_option maxRecDepth 1000000 in
theorem tariff_reader_one_ok (n : Nat) (rx1 : reader) (kind1 : Int) (r : (reader × Token)) (hm : tariff_reader_one n rx1 kind1 = some r) {w : World} {F : Frz} (hs : Sat F w) {as1 : Option Addr} {ns1 : Nat} {cs1 : Nat} {brx1 : Nat} (hs1 : SlR rp_Token F as1 ns1 cs1 rx1.l) (hbrx1 : (OE.box brx1 59 [.slice as1 ns1 cs1, .int .i64 rx1.at_, .int .i64 rx1.e]).ok w) (hfrx1 : F brx1 = none) :
  Calls Tryd.prog 27 #[.pointer (some ⟨brx1, 0, none⟩), .int .i64 kind1] w fun e w' => ∃ v F' cs' O', e = .returned v ∧ HS F w [brx1] F' (.box brx1 59 cs' :: O') w' ∧ (∃ (al_0 : Option Addr) (nl_0 : Nat) (cl_0 : Nat), v = .agg #[.int .i64 r.2.Kind, vs r.2.Text, .int .i64 r.2.N, .int .i64 r.2.Pos] ∧ cs' = [.slice al_0 nl_0 cl_0, .int .i64 r.1.at_, .int .i64 r.1.e] ∧ O' = [] ∧ SlR rp_Token F' al_0 nl_0 cl_0 r.1.l) := by
 unfold tariff_reader_one at hm
 have h := HS.lend hs hbrx1 hfrx1
 refine calls_of 23 Tryd.func27 rfl rfl rfl ?_
 refine c_seq (c_region ?_)
 refine r_alloc ze62 rfl rfl rfl h ?_
 intro b1 wx1 hx1
 refine r_nil (q_then (c_seq (c_region (r_move rfl rfl rfl ?_))))
 obtain ⟨v1, hv1, hm⟩ := bind_some hm
 refine r_callL ent46 rfl rfl rfl rfl hx1 (i := 1) rfl (tariff_reader_next_ok _ _ _ hv1 hx1.sat hs1 (hx1.get (i := 1) rfl) (hx1.lendable (i := 1) rfl)) ?_
 rintro _ Fx1 _ _ wx2 hF1 hx2 ⟨as2, ns2, cs2, rfl, rfl, rfl, hs2⟩
 refine r_alloc ze62 rfl rfl rfl hx2 ?_
 intro b2 wx3 hx3
 refine r_store sz62 rfl hx3 rfl rfl rfl rfl (i := 0) rfl rfl rfl rfl ?_
 intro wx4 hx4
 refine r_nil (q_then (c_seq (c_seq (c_region ?_))))
 refine r_fieldAddr fa62_0 rfl rfl rfl ?_
 refine r_loadB1 ag3 rfl rfl hx4 rfl (i := 0) rfl rfl ?_
 refine r_move rfl rfl rfl ?_
 refine r_bin rfl rfl rfl rfl rfl ?_
 refine r_nil (q_then ?_)
 rcases cond_some hm with ⟨hb1, hm⟩ | ⟨hb1, hm⟩
 ·refine c_lit 11 rfl hb1 ?_
  refine c_true rfl (c_seq (c_region (r_move rfl rfl rfl ?_)))
  obtain ⟨v2, hv2, hm⟩ := bind_some hm
  refine r_callL ent31 rfl rfl rfl rfl hx4 (i := 2) rfl (tariff_reader_fail_ok _ _ _ _ hv2 hx4.sat hs2 (hx4.get (i := 2) rfl) (hx4.lendable (i := 2) rfl)) ?_
  rintro _ Fx2 _ _ wx5 hF2 hx5 ⟨as3, ns3, cs3, rfl, rfl, rfl, hs3⟩
  refine r_nil (q_then (c_seq (c_region ?_)))
  refine r_build (v := .agg #[.int .i64 0, vs [], .int .i64 0, .int .i64 0]) rfl rfl rfl (fun _ => by kernel_rfl) ?_
  refine r_store sz62 rfl hx5 rfl rfl rfl rfl (i := 1) rfl rfl rfl rfl ?_
  intro wx6 hx6
  refine r_nil (q_then (c_ret (q_then_ret ?_)))
  refine b_retC rfl ag62 sz62 rfl hx6 rfl (i := 1) rfl ?_
  obtain rfl := Option.some.inj hm
  exact ⟨_, _, _, _, rfl, hx6.pick [2] (by decide) rfl, as3, ns3, cs3, rfl, rfl, rfl, hs3⟩
 ·refine c_lit 11 rfl hb1 ?_
  refine c_false rfl (c_skip (q_then (c_seq (c_region (r_move rfl rfl rfl ?_)))))
  refine r_nilC rfl rfl rfl ?_
  refine r_fieldAddr fa59_1 rfl rfl rfl ?_
  refine r_loadB1 ag3 rfl rfl hx4 rfl (i := 2) rfl rfl ?_
  refine r_bin rfl rfl rfl rfl rfl ?_
  refine r_nilC rfl rfl rfl ?_
  refine r_fieldAddr fa59_1 rfl rfl rfl ?_
  refine r_store sz3 rfl hx4 rfl rfl rfl rfl (i := 2) rfl rfl rfl rfl ?_
  intro wx7 hx7
  refine r_nil (q_then (c_seq (c_region ?_)))
  refine r_loadBW ag62 sz62 rfl rfl hx7 rfl (i := 0) rfl rfl ?_
  refine r_store sz62 rfl hx7 rfl rfl rfl rfl (i := 1) rfl rfl rfl rfl ?_
  intro wx8 hx8
  refine r_nil (q_then (c_ret ?_))
  refine b_retC rfl ag62 sz62 rfl hx8 rfl (i := 1) rfl ?_
  obtain rfl := Option.some.inj hm
  exact ⟨_, _, _, _, rfl, hx8.pick [2] (by decide) rfl, as2, ns2, cs2, rfl, rfl, rfl, hs2⟩


end Go.Proofs.YtpihabofmnnbbaaDoor.M
