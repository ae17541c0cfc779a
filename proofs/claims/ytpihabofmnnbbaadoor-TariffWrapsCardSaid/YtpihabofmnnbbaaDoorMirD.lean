/-
  THE MIRRORS of the tariff's and the lexer's functions, of the references and the laws, and that each call returns what its mirror says. Printed by gen.py.
-/
import Derived.Test.YtpihabofmnnbbaaDoorRows
import Derived.Test.YtpihabofmnnbbaaDoorRtZ
import Derived.Test.YtpihabofmnnbbaaDoorExpr
import Derived.Test.YtpihabofmnnbbaaDoorExtT
import Derived.Test.YtpihabofmnnbbaaDoorMirC
namespace Go.Proofs.YtpihabofmnnbbaaDoor.M
open Go Go.RowKit Rt

theorem key9 : KeyIs Tryd.prog 9 (K := Bs) vs .string := KeyIs.str (by kernel_rfl)

theorem um76 : Tryd.prog.underlying 76 = some (.map 9 3) := by kernel_rfl

def tariff_operators (_n : Nat)  : Option (List (Bs × Int)) :=
 some (mput (mput (mput (mput (mput (mput (mput (mput ([] : (List (Bs × Int))) [43] 5) [45] 6) [42] 7) [47] 8) [60] 12) [61] 13) [97, 110, 100] 15) [111, 114] 16)

set_option maxHeartbeats 1000000 in
set_option maxRecDepth 1000000 in
theorem tariff_operators_ok (n : Nat)  (r : (List (Bs × Int))) (hm : tariff_operators n  = some r) {w : World} {F : Frz} (hs : Sat F w)  :
  Calls Tryd.prog 44 #[] w fun e w' => ∃ v F' O', e = .returned v ∧ HS F w [] F' O' w' ∧ (∃ (b0_0 : Nat) (es0_0 : List MapEntry) (cl0_0 : Nat), v = .map (some b0_0) ∧ O' = [.mp b0_0 es0_0 cl0_0] ∧ MpR vs (Value.int .i64) es0_0 r) := by
 unfold tariff_operators at hm
 have h := HS.init hs
 refine calls_of 3 Tryd.func44 rfl rfl rfl ?_
 refine c_seq (c_region (r_assign rfl rfl rfl (r_nil (q_then (c_seq (c_region ?_))))))
 refine r_makeMap rfl rfl h ?_
 intro b1 wx1 hx1
 refine r_mapPut (l := ([] : (List (Bs × Int)))) (k := [43]) (v := 5) (i := 0) (.inl rfl) key9 um76 rfl hx1 rfl rfl rfl rfl (show MpR vs (Value.int .i64) [] ([] : (List (Bs × Int))) from trivial) ?_
 intro wx2 es1 cl1 hx2 hr1
 refine r_mapPut (l := (mput ([] : (List (Bs × Int))) [43] 5)) (k := [45]) (v := 6) (i := 0) (.inl rfl) key9 um76 rfl hx2 rfl rfl rfl rfl hr1 ?_
 intro wx3 es2 cl2 hx3 hr2
 refine r_mapPut (l := (mput (mput ([] : (List (Bs × Int))) [43] 5) [45] 6)) (k := [42]) (v := 7) (i := 0) (.inl rfl) key9 um76 rfl hx3 rfl rfl rfl rfl hr2 ?_
 intro wx4 es3 cl3 hx4 hr3
 refine r_mapPut (l := (mput (mput (mput ([] : (List (Bs × Int))) [43] 5) [45] 6) [42] 7)) (k := [47]) (v := 8) (i := 0) (.inl rfl) key9 um76 rfl hx4 rfl rfl rfl rfl hr3 ?_
 intro wx5 es4 cl4 hx5 hr4
 refine r_mapPut (l := (mput (mput (mput (mput ([] : (List (Bs × Int))) [43] 5) [45] 6) [42] 7) [47] 8)) (k := [60]) (v := 12) (i := 0) (.inl rfl) key9 um76 rfl hx5 rfl rfl rfl rfl hr4 ?_
 intro wx6 es5 cl5 hx6 hr5
 refine r_mapPut (l := (mput (mput (mput (mput (mput ([] : (List (Bs × Int))) [43] 5) [45] 6) [42] 7) [47] 8) [60] 12)) (k := [61]) (v := 13) (i := 0) (.inl rfl) key9 um76 rfl hx6 rfl rfl rfl rfl hr5 ?_
 intro wx7 es6 cl6 hx7 hr6
 refine r_mapPut (l := (mput (mput (mput (mput (mput (mput ([] : (List (Bs × Int))) [43] 5) [45] 6) [42] 7) [47] 8) [60] 12) [61] 13)) (k := [97, 110, 100]) (v := 15) (i := 0) (.inl rfl) key9 um76 rfl hx7 rfl rfl rfl rfl hr6 ?_
 intro wx8 es7 cl7 hx8 hr7
 refine r_mapPut (l := (mput (mput (mput (mput (mput (mput (mput ([] : (List (Bs × Int))) [43] 5) [45] 6) [42] 7) [47] 8) [60] 12) [61] 13) [97, 110, 100] 15)) (k := [111, 114]) (v := 16) (i := 0) (.inl rfl) key9 um76 rfl hx8 rfl rfl rfl rfl hr7 ?_
 intro wx9 es8 cl8 hx9 hr8
 refine r_move rfl rfl rfl (r_assign rfl rfl rfl (r_nil (q_then (c_ret ?_))))
 refine b_ret1 rfl rfl ?_
 obtain rfl := Option.some.inj hm
 exact ⟨_, _, _, rfl, hx9.pick [0] (by decide) rfl, b1, es8, cl8, rfl, rfl, hr8⟩


end Go.Proofs.YtpihabofmnnbbaaDoor.M
