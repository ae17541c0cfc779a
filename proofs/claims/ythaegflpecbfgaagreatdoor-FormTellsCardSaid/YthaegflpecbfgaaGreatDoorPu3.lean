/- Several texts in one, for FormTells.card: what the theorem leans on. -/
import Derived.Test.YthaegflpecbfgaaGreatDoorRows
import Derived.Test.YthaegflpecbfgaaGreatDoorPu2
set_option maxHeartbeats 1000000
set_option maxRecDepth 1000000
set_option linter.unusedVariables false
set_option linter.unusedSimpArgs false
namespace Go.Proofs.YthaegflpecbfgaaGreatDoor
namespace M
open Go Go.RowKit Rt
set_option linter.unusedVariables false
def ref37_zeros_L1(n:Nat)(nx1:Int)(kq1:(List Frac)->Option (List Frac)):Nat->Int->(List Frac)->Option (List Frac) |0,_,_=>none |mx1+1,i1,l1=> bif decide (i1<nx1)then (a2v n 0).bind fun v1=> (app 64 l1 [v1]).bind fun l3=> ref37_zeros_L1 n nx1 kq1 mx1 (iadd .i64 i1 1) l3 else kq1 l1
theorem ref37_zeros_L1_s:type_of% @ref37_zeros_L1.eq_2:= @ref37_zeros_L1.eq_2
def a6a(n:Nat)(nx1:Int):Option (List Frac):= ref37_zeros_L1 n nx1 (fun(l2:List Frac)=> some l2) n 0 []
def a2x(n:Nat)(c1:Frac)(nx1:Int):Option Form:= (a6a n nx1).bind fun v1=> some (⟨[[(⟨c1,v1⟩:Afn)]]⟩:Form)
def b1i(n:Nat)(k1:Int)(nx1:Int):Option Form:= (a2v n 0).bind fun v1=> (a2x n v1 nx1).bind fun v2=> (ix v2.Pieces 0).bind fun ex1=> (ix ex1 0).bind fun ex2=> (a2v n 1).bind fun v3=> (ix ex2.Coefs k1).bind fun _=> (setw v2.Pieces k1 v3).bind fun p1=> some (⟨p1⟩:Form)
def ref37_add_L1(n:Nat)(ax1:Afn)(b1:Afn)(kq1:(List Frac)->Option Afn):Nat->Int->(List Frac)->Option Afn |0,_,_=>none |mx1+1,i1,l1=> (bif decide (i1<(ax1.Coefs.length:Int))then some (decide (i1<(b1.Coefs.length:Int))) else some false).bind fun v2=> bif v2 then ((ix ax1.Coefs i1).bind fun ex1=> (ix b1.Coefs i1).bind fun ex2=> (a7m n ex1 ex2).bind fun v3=> some (v3.1.P.Sign,v3.1.P.Digits,v3.1.Q.Sign,v3.1.Q.Digits)).bind fun(f1,f2,f3,f4)=> (app 64 l1 [(⟨(⟨f1,f2⟩:Big),(⟨f3,f4⟩:Big)⟩:Frac)]).bind fun l3=> ref37_add_L1 n ax1 b1 kq1 mx1 (iadd .i64 i1 1) l3 else kq1 l1
theorem ref37_add_L1_s:type_of% @ref37_add_L1.eq_2:= @ref37_add_L1.eq_2
def b6y(n:Nat)(ax1:Afn)(b1:Afn):Option Afn:= (a7m n ax1.Const b1.Const).bind fun v1=> ref37_add_L1 n ax1 b1 (fun(l2:List Frac)=> some (⟨v1.1,l2⟩:Afn)) n 0 ([]:List Frac)
def ref37_times_L1(n:Nat)(ax1:Afn)(f1:Frac)(kq1:(List Frac)->Option Afn):Nat->Int->(List Frac)->Option Afn |0,_,_=>none |mx1+1,i1,l1=> bif decide (i1<(ax1.Coefs.length:Int))then ((ix ax1.Coefs i1).bind fun ex1=> (a8s n ex1 f1).bind fun v2=> some (v2.1.P.Sign,v2.1.P.Digits,v2.1.Q.Sign,v2.1.Q.Digits)).bind fun(f2,f3,f4,f5)=> (app 64 l1 [(⟨(⟨f2,f3⟩:Big),(⟨f4,f5⟩:Big)⟩:Frac)]).bind fun l3=> ref37_times_L1 n ax1 f1 kq1 mx1 (iadd .i64 i1 1) l3 else kq1 l1
theorem ref37_times_L1_s:type_of% @ref37_times_L1.eq_2:= @ref37_times_L1.eq_2
def a5x(n:Nat)(ax1:Afn)(f1:Frac):Option Afn:= (a8s n ax1.Const f1).bind fun v1=> ref37_times_L1 n ax1 f1 (fun(l2:List Frac)=> some (⟨v1.1,l2⟩:Afn)) n 0 ([]:List Frac)
def ref37_Size_L1(n:Nat)(f1:Form)(kq1:Int->Option Int):Nat->Int->Int->Option Int |0,_,_=>none |mx1+1,nx1,i1=> bif decide (i1<(f1.Pieces.length:Int))then (ix f1.Pieces i1).bind fun ex1=> ref37_Size_L1 n f1 kq1 mx1 (iadd .i64 nx1 (ex1.length:Int)) (iadd .i64 i1 1) else kq1 nx1
theorem ref37_Size_L1_s:type_of% @ref37_Size_L1.eq_2:= @ref37_Size_L1.eq_2
def a3r(n:Nat)(f1:Form):Option Int:= ref37_Size_L1 n f1 (fun(nx2:Int)=> some nx2) n 0 0
def ref37_scaled_L2(n:Nat)(i1:Int)(f3:Int)(f4:(List Int))(f5:Int)(f6:(List Int))(f7:(List (List Afn)))(kont2:(List Afn)->Option Form):Nat->Int->(List Afn)->Option Form |0,_,_=>none |mx2+1,k1,l3=> (ix f7 i1).bind fun ex1=> bif decide (k1<(ex1.length:Int))then (ix f7 i1).bind fun ex2=> (ix ex2 k1).bind fun ex3=> (a5x n ex3 (⟨(⟨f3,f4⟩:Big),(⟨f5,f6⟩:Big)⟩:Frac)).bind fun v1=> (app 88 l3 [v1]).bind fun l6=> ref37_scaled_L2 n i1 f3 f4 f5 f6 f7 kont2 mx2 (iadd .i64 k1 1) l6 else kont2 l3
theorem ref37_scaled_L2_s:type_of% @ref37_scaled_L2.eq_2:= @ref37_scaled_L2.eq_2
def ref37_scaled_L1(n:Nat)(kq1:(List (List Afn))->(List (List Afn))->Option Form):Nat->Int->(List (List Afn))->(List (List Afn))->Int->(List Int)->Int->(List Int)->(List (List Afn))->Option Form |0,_,_,_,_,_,_,_,_=>none |mx1+1,i1,l1,f2,f3,f4,f5,f6,f7=> bif decide (i1<(f7.length:Int))then ref37_scaled_L2 n i1 f3 f4 f5 f6 f7 (fun(l4:List Afn)=> (app 24 l1 [l4]).bind fun l5=> ref37_scaled_L1 n kq1 mx1 (iadd .i64 i1 1) l5 f2 f3 f4 f5 f6 f7) n 0 [] else kq1 l1 f2
theorem ref37_scaled_L1_s:type_of% @ref37_scaled_L1.eq_2:= @ref37_scaled_L1.eq_2
def a6n(n:Nat)(f1:Form)(byx1:Frac):Option Form:= ref37_scaled_L1 n (fun(l2:List (List Afn))(f8:(List (List Afn)))=> some (⟨l2⟩:Form)) n 0 ([]:List (List Afn)) [] byx1.P.Sign byx1.P.Digits byx1.Q.Sign byx1.Q.Digits f1.Pieces
def ref37_opposite_L3(n:Nat)(f3:(List (List Afn)))(kont2:(List Afn)->Option (Form×Bool)):Nat->Int->Int->(List Afn)->Option (Form×Bool) |0,_,_,_=>none |mx2+1,rest1,i2,l4=> bif decide (0<=i2)then (ix f3 i2).bind fun ex1=> (ix f3 i2).bind fun ex2=> (rem rest1 (ex1.length:Int)).bind fun q1=> (ix ex2 q1).bind fun ex3=> (a2v n (-1)).bind fun v1=> (a5x n ex3 v1).bind fun v2=> (ix l4 i2).bind fun _=> (lset l4 i2 v2).bind fun l7=> (quo .i64 rest1 (ex1.length:Int)).bind fun q2=> ref37_opposite_L3 n f3 kont2 mx2 q2 (isub .i64 i2 1) l7 else kont2 l4
theorem ref37_opposite_L3_s:type_of% @ref37_opposite_L3.eq_2:= @ref37_opposite_L3.eq_2
def ref37_opposite_L2(n:Nat)(choices2:Int)(kq1:(List (List Afn))->(List (List Afn))->Option (Form×Bool)):Nat->Int->(List (List Afn))->(List (List Afn))->(List (List Afn))->Option (Form×Bool) |0,_,_,_,_=>none |mx1+1,nx1,l1,f2,f3=> bif decide (nx1<choices2)then (mks 88 (⟨(⟨(⟨0,[]⟩:Big),(⟨0,[]⟩:Big)⟩:Frac),[]⟩:Afn) (f3.length:Int)).bind fun l3=> ref37_opposite_L3 n f3 (fun(l5:List Afn)=> (app 24 l1 [l5]).bind fun l6=> ref37_opposite_L2 n choices2 kq1 mx1 (iadd .i64 nx1 1) l6 f2 f3) n nx1 (isub .i64 (f3.length:Int) 1) l3 else kq1 l1 f2
theorem ref37_opposite_L2_s:type_of% @ref37_opposite_L2.eq_2:= @ref37_opposite_L2.eq_2
def ref37_opposite_L1(n:Nat)(f1:Form)(kont3:Int->Option (Form×Bool)):Nat->Int->Int->Option (Form×Bool) |0,_,_=>none |mx3+1,choices1,i1=> bif decide (i1<(f1.Pieces.length:Int))then (ix f1.Pieces i1).bind fun ex5=> bif decide (200<(imul .i64 (imul .i64 choices1 (ex5.length:Int)) (f1.Pieces.length:Int)))then some ((⟨[]⟩:Form),false) else ref37_opposite_L1 n f1 kont3 mx3 (imul .i64 choices1 (ex5.length:Int)) (iadd .i64 i1 1) else kont3 choices1
theorem ref37_opposite_L1_s:type_of% @ref37_opposite_L1.eq_2:= @ref37_opposite_L1.eq_2
def a3d(n:Nat)(f1:Form):Option (Form×Bool):= ref37_opposite_L1 n f1 (fun(choices2:Int)=> ref37_opposite_L2 n choices2 (fun(l2:List (List Afn))(f4:(List (List Afn)))=> some ((⟨l2⟩:Form),true)) n 0 ([]:List (List Afn)) [] f1.Pieces) n 1 0
def ref37_joined_L4(n:Nat)(i1:Int)(k1:Int)(p1:Int)(f12:(List (List Afn)))(f13:(List (List Afn)))(kont4:(List Afn)->Option (Form×Bool)):Nat->Int->(List Afn)->Option (Form×Bool) |0,_,_=>none |mx4+1,q1,l11=> (ix f12 k1).bind fun ex2=> bif decide (q1<(ex2.length:Int))then (ix f13 i1).bind fun ex3=> (ix ex3 p1).bind fun ex4=> (ix f12 k1).bind fun ex5=> (ix ex5 q1).bind fun ex6=> (b6y n ex4 ex6).bind fun v4=> (app 88 l11 [v4]).bind fun l13=> ref37_joined_L4 n i1 k1 p1 f12 f13 kont4 mx4 (iadd .i64 q1 1) l13 else kont4 l11
theorem ref37_joined_L4_s:type_of% @ref37_joined_L4.eq_2:= @ref37_joined_L4.eq_2
def ref37_joined_L3(n:Nat)(sum1:Bool)(i1:Int)(k1:Int)(kont3:(List Afn)->(List (List Afn))->(List (List Afn))->(List (List Afn))->(List (List Afn))->Option (Form×Bool)):Nat->Int->(List Afn)->(List (List Afn))->(List (List Afn))->(List (List Afn))->(List (List Afn))->Option (Form×Bool) |0,_,_,_,_,_,_=>none |mx3+1,p1,l6,l7,f11,f12,f13=> (ix f13 i1).bind fun ex1=> (bif decide (p1<(ex1.length:Int))then some sum1 else some false).bind fun v3=> bif v3 then ref37_joined_L4 n i1 k1 p1 f12 f13 (fun(l12:List Afn)=> ref37_joined_L3 n sum1 i1 k1 kont3 mx3 (iadd .i64 p1 1) l12 l7 f11 f12 f13) n 0 l6 else kont3 l6 l7 f11 f12 f13
theorem ref37_joined_L3_s:type_of% @ref37_joined_L3.eq_2:= @ref37_joined_L3.eq_2
def ref37_joined_L2(n:Nat)(sum1:Bool)(i1:Int)(kont2:(List (List Afn))->(List (List Afn))->(List (List Afn))->(List (List Afn))->Option (Form×Bool)):Nat->Int->(List (List Afn))->(List (List Afn))->(List (List Afn))->(List (List Afn))->Option (Form×Bool) |0,_,_,_,_,_=>none |mx2+1,k1,l3,f5,f6,f7=> bif decide (k1<(f6.length:Int))then (bif !sum1 then (ix f7 i1).bind fun ex7=> (ix f6 k1).bind fun ex8=> (app 88 [] ex7).bind fun l14=> (app 88 l14 ex8).bind fun l15=> some l15 else some []).bind fun l5=> ref37_joined_L3 n sum1 i1 k1 (fun(l8:List Afn)(l9:List (List Afn))(f14:(List (List Afn)))(f15:(List (List Afn)))(f16:(List (List Afn)))=> (app 24 l9 [l8]).bind fun l10=> ref37_joined_L2 n sum1 i1 kont2 mx2 (iadd .i64 k1 1) l10 f14 f15 f16) n 0 l5 l3 f5 f6 f7 else kont2 l3 f5 f6 f7
theorem ref37_joined_L2_s:type_of% @ref37_joined_L2.eq_2:= @ref37_joined_L2.eq_2
def ref37_joined_L1(n:Nat)(sum1:Bool)(kq1:(List (List Afn))->(List (List Afn))->Option (Form×Bool)):Nat->Int->(List (List Afn))->(List (List Afn))->(List (List Afn))->(List (List Afn))->Option (Form×Bool) |0,_,_,_,_,_=>none |mx1+1,i1,l1,f1,f2,f3=> bif decide (i1<(f3.length:Int))then ref37_joined_L2 n sum1 i1 (fun(l4:List (List Afn))(f8:(List (List Afn)))(f9:(List (List Afn)))(f10:(List (List Afn)))=> ref37_joined_L1 n sum1 kq1 mx1 (iadd .i64 i1 1) l4 f8 f9 f10) n 0 l1 f1 f2 f3 else kq1 l1 f1
theorem ref37_joined_L1_s:type_of% @ref37_joined_L1.eq_2:= @ref37_joined_L1.eq_2
def a6o(n:Nat)(ax1:Form)(b1:Form)(sum1:Bool):Option (Form×Bool):= (a3r n ax1).bind fun v1=> (a3r n b1).bind fun v2=> (bif sum1 then (a3r n ax1).bind fun v5=> (a3r n b1).bind fun v6=> some (imul .i64 v5 v6) else some (iadd .i64 (imul .i64 v1 (b1.Pieces.length:Int)) (imul .i64 v2 (ax1.Pieces.length:Int)))).bind fun size1=> bif decide (200<size1)then some ((⟨[]⟩:Form),false) else ref37_joined_L1 n sum1 (fun(l2:List (List Afn))(f4:(List (List Afn)))=> some ((⟨l2⟩:Form),true)) n 0 ([]:List (List Afn)) [] b1.Pieces ax1.Pieces
mutual
def ref37_made:Nat->Expr->(List Bs)->Facts->Option (Form×Int) |0,_,_,_=>none |n+1,x1,names1,f1=> (b0s n x1 names1).bind fun v1=> bif v1.1==1 then (ref36_Eval n x1 names1 f1 []).bind fun v2=> (a2x n v2.N (names1.length:Int)).bind fun v3=> some (v3,0) else bif x1.Op==4 then (a3x n names1 x1.Name).bind fun v4=> (b1i n v4 (names1.length:Int)).bind fun v5=> some (v5,0) else bif x1.Op==11 then (ix x1.Args 0).bind fun ex1=> (ref36_Eval n ex1 names1 f1 []).bind fun v6=> (bif v6.Is then some 1 else some 2).bind fun k1=> ((ix x1.Args k1).bind fun ex3=> (ref37_made n ex3 names1 f1).bind fun v7=> some (v7.1.Pieces,v7.2)).bind fun(f2,ex2)=> some ((⟨f2⟩:Form),ex2) else (bif x1.Op==7 then some true else some (x1.Op==8)).bind fun v8=> bif v8 then (ref37_product n x1 names1 f1).bind fun v9=> some (v9.1,v9.2) else (ref37_pair n x1 names1 f1).bind fun v10=> some (v10.1,v10.2)
def ref37_product:Nat->Expr->(List Bs)->Facts->Option (Form×Int) |0,_,_,_=>none |n+1,x1,names1,f1=> (ix x1.Args 0).bind fun ex1=> (ix x1.Args 1).bind fun ex2=> (b0s n ex1 names1).bind fun v1=> (bif v1.1==1 then (ix x1.Args 1).bind fun ex3=> (ix x1.Args 0).bind fun ex4=> some (ex4.Op,ex4.N,ex4.Name,ex4.Args,ex3.Op,ex3.N,ex3.Name,ex3.Args) else some (ex2.Op,ex2.N,ex2.Name,ex2.Args,ex1.Op,ex1.N,ex1.Name,ex1.Args)).bind fun(f2,f3,f4,f5,f6,f7,f8,f9)=> (ref37_made n (⟨f6,f7,f8,f9⟩:Expr) names1 f1).bind fun v2=> bif v2.2 !=0 then some ((⟨[]⟩:Form),v2.2) else (ref36_Eval n (⟨f2,f3,f4,f5⟩:Expr) names1 f1 []).bind fun v3=> (bif x1.Op==8 then (a2v n 1).bind fun v11=> (b4c n v11 v3.N).bind fun v12=> some (v12.1.P.Sign,v12.1.P.Digits,v12.1.Q.Sign,v12.1.Q.Digits) else some (v3.N.P.Sign,v3.N.P.Digits,v3.N.Q.Sign,v3.N.Q.Digits)).bind fun(f10,f11,f12,f13)=> (a7d n (⟨(⟨f10,f11⟩:Big),(⟨f12,f13⟩:Big)⟩:Frac)).bind fun v4=> bif v4==0 then (a2x n (⟨(⟨f10,f11⟩:Big),(⟨f12,f13⟩:Big)⟩:Frac) (names1.length:Int)).bind fun v5=> some (v5,0) else (a7d n (⟨(⟨f10,f11⟩:Big),(⟨f12,f13⟩:Big)⟩:Frac)).bind fun v6=> bif decide (0<v6)then (a6n n v2.1 (⟨(⟨f10,f11⟩:Big),(⟨f12,f13⟩:Big)⟩:Frac)).bind fun v7=> some (v7,0) else (a3d n v2.1).bind fun v8=> bif !v8.2 then some ((⟨[]⟩:Form),6) else (b4b n (⟨(⟨f10,f11⟩:Big),(⟨f12,f13⟩:Big)⟩:Frac)).bind fun v9=> (a6n n v8.1 v9).bind fun v10=> some (v10,0)
def ref37_pair:Nat->Expr->(List Bs)->Facts->Option (Form×Int) |0,_,_,_=>none |n+1,x1,names1,f1=> ((ix x1.Args 0).bind fun ex3=> (ref37_made n ex3 names1 f1).bind fun v7=> some (v7.1.Pieces,v7.2)).bind fun(f2,ex1)=> bif ex1 !=0 then some ((⟨[]⟩:Form),ex1) else ((ix x1.Args 1).bind fun ex2=> (ref37_made n ex2 names1 f1).bind fun v6=> some (v6.1.Pieces,v6.2)).bind fun(f3,g1)=> bif g1 !=0 then some ((⟨[]⟩:Form),g1) else (bif x1.Op==6 then (a3d n (⟨f3⟩:Form)).bind fun v5=> some (v5.2,v5.1.Pieces) else some (true,f3)).bind fun(ok1,f4)=> ((app 24 [] f2).bind fun l1=> (app 24 l1 f4).bind fun l2=> some l2).bind fun f5=> (bif x1.Op !=9 then some ok1 else some false).bind fun v1=> (bif v1 then (a6o n (⟨f2⟩:Form) (⟨f4⟩:Form) (x1.Op !=10)).bind fun v4=> some (v4.2,v4.1.Pieces) else some (ok1,f5)).bind fun(ok2,f6)=> (bif !ok2 then some true else (a3r n (⟨f6⟩:Form)).bind fun v3=> some (decide (200<v3))).bind fun v2=> bif v2 then some ((⟨[]⟩:Form),6) else some ((⟨f6⟩:Form),0) end
theorem ref37_made_s:type_of% @ref37_made.eq_2:= @ref37_made.eq_2
theorem ref37_product_s:type_of% @ref37_product.eq_2:= @ref37_product.eq_2
theorem ref37_pair_s:type_of% @ref37_pair.eq_2:= @ref37_pair.eq_2
def a8u(n:Nat)(t1:Tariff)(names1:(List Bs))(f1:Facts):Option (Form×Int):= (b5c n t1 names1).bind fun v1=> bif v1 !=0 then some ((⟨[]⟩:Form),v1) else (b2d n f1 (names1.length:Int)).bind fun v2=> bif !v2 then some ((⟨[]⟩:Form),1) else (ref37_made n t1.Fee names1 f1).bind fun v3=> some (v3.1,v3.2)
def ref37_Value_L1(n:Nat)(ax1:Afn)(weights1:(List Frac))(kq1:Int->(List Int)->Int->(List Int)->Option (Frac×Bool)):Nat->Int->Int->(List Int)->Int->(List Int)->Option (Frac×Bool) |0,_,_,_,_,_=>none |mx1+1,i1,f1,f2,f3,f4=> bif decide (i1<(weights1.length:Int))then (ix weights1 i1).bind fun ex1=> (a0y n ex1).bind fun v3=> (bif !v3 then some true else (ix ax1.Coefs i1).bind fun ex4=> (a0y n ex4).bind fun v7=> some (!v7)).bind fun v4=> bif v4 then some ((⟨(⟨0,[]⟩:Big),(⟨0,[]⟩:Big)⟩:Frac),false) else ((ix ax1.Coefs i1).bind fun ex2=> (ix weights1 i1).bind fun ex3=> (a8s n ex2 ex3).bind fun v6=> some (v6.1.P.Sign,v6.1.P.Digits,v6.1.Q.Sign,v6.1.Q.Digits)).bind fun(f9,f10,f11,f12)=> (a7m n (⟨(⟨f1,f2⟩:Big),(⟨f3,f4⟩:Big)⟩:Frac) (⟨(⟨f9,f10⟩:Big),(⟨f11,f12⟩:Big)⟩:Frac)).bind fun v5=> ref37_Value_L1 n ax1 weights1 kq1 mx1 (iadd .i64 i1 1) v5.1.P.Sign v5.1.P.Digits v5.1.Q.Sign v5.1.Q.Digits else kq1 f1 f2 f3 f4
theorem ref37_Value_L1_s:type_of% @ref37_Value_L1.eq_2:= @ref37_Value_L1.eq_2
def b0h(n:Nat)(ax1:Afn)(weights1:(List Frac)):Option (Frac×Bool):= (a0y n ax1.Const).bind fun v1=> (bif !v1 then some true else some ((ax1.Coefs.length:Int) !=(weights1.length:Int))).bind fun v2=> bif v2 then some ((⟨(⟨0,[]⟩:Big),(⟨0,[]⟩:Big)⟩:Frac),false) else ref37_Value_L1 n ax1 weights1 (fun(f5:Int)(f6:(List Int))(f7:Int)(f8:(List Int))=> some ((⟨(⟨f5,f6⟩:Big),(⟨f7,f8⟩:Big)⟩:Frac),true)) n 0 ax1.Const.P.Sign ax1.Const.P.Digits ax1.Const.Q.Sign ax1.Const.Q.Digits
def ref37_Greatest_L1(n:Nat)(l1:(List Afn))(weights1:(List Frac))(kq1:Int->(List Int)->Int->(List Int)->Option (Frac×Bool)):Nat->Int->Int->(List Int)->Int->(List Int)->Option (Frac×Bool) |0,_,_,_,_,_=>none |mx1+1,i1,f1,f2,f3,f4=> bif decide (i1<(l1.length:Int))then (ix l1 i1).bind fun ex1=> (b0h n ex1 weights1).bind fun v1=> bif !v1.2 then some ((⟨(⟨0,[]⟩:Big),(⟨0,[]⟩:Big)⟩:Frac),false) else (bif i1==0 then some true else (a2f n v1.1 (⟨(⟨f1,f2⟩:Big),(⟨f3,f4⟩:Big)⟩:Frac)).bind fun v3=> some (decide (0<v3))).bind fun v2=> bif v2 then ref37_Greatest_L1 n l1 weights1 kq1 mx1 (iadd .i64 i1 1) v1.1.P.Sign v1.1.P.Digits v1.1.Q.Sign v1.1.Q.Digits else ref37_Greatest_L1 n l1 weights1 kq1 mx1 (iadd .i64 i1 1) f1 f2 f3 f4 else kq1 f1 f2 f3 f4
theorem ref37_Greatest_L1_s:type_of% @ref37_Greatest_L1.eq_2:= @ref37_Greatest_L1.eq_2
def a7c(n:Nat)(l1:(List Afn))(weights1:(List Frac)):Option (Frac×Bool):= ref37_Greatest_L1 n l1 weights1 (fun(f5:Int)(f6:(List Int))(f7:Int)(f8:(List Int))=> some ((⟨(⟨f5,f6⟩:Big),(⟨f7,f8⟩:Big)⟩:Frac),decide (0<(l1.length:Int)))) n 0 0 [] 0 []
def ref37_At_L1(n:Nat)(f1:Form)(weights1:(List Frac))(kq1:Int->(List Int)->Int->(List Int)->Option (Frac×Bool)):Nat->Int->Int->(List Int)->Int->(List Int)->Option (Frac×Bool) |0,_,_,_,_,_=>none |mx1+1,i1,f2,f3,f4,f5=> bif decide (i1<(f1.Pieces.length:Int))then (ix f1.Pieces i1).bind fun ex1=> (a7c n ex1 weights1).bind fun v1=> bif !v1.2 then some ((⟨(⟨0,[]⟩:Big),(⟨0,[]⟩:Big)⟩:Frac),false) else (bif i1==0 then some true else (a2f n v1.1 (⟨(⟨f2,f3⟩:Big),(⟨f4,f5⟩:Big)⟩:Frac)).bind fun v3=> some (decide (v3<0))).bind fun v2=> bif v2 then ref37_At_L1 n f1 weights1 kq1 mx1 (iadd .i64 i1 1) v1.1.P.Sign v1.1.P.Digits v1.1.Q.Sign v1.1.Q.Digits else ref37_At_L1 n f1 weights1 kq1 mx1 (iadd .i64 i1 1) f2 f3 f4 f5 else kq1 f2 f3 f4 f5
theorem ref37_At_L1_s:type_of% @ref37_At_L1.eq_2:= @ref37_At_L1.eq_2
def c0b(n:Nat)(f1:Form)(weights1:(List Frac)):Option (Frac×Bool):= ref37_At_L1 n f1 weights1 (fun(f6:Int)(f7:(List Int))(f8:Int)(f9:(List Int))=> some ((⟨(⟨f6,f7⟩:Big),(⟨f8,f9⟩:Big)⟩:Frac),decide (0<(f1.Pieces.length:Int)))) n 0 0 [] 0 []
theorem ent16:Ent Tryz.prog 16:=fun _ _=>by kernel_rfl
def ref37_Same_L3(n:Nat)(ex5:Afn)(ex7:Afn)(kont3:Option Bool):Nat->Int->Option Bool |0,_=>none |mx3+1,j1=> bif decide (j1<(ex5.Coefs.length:Int))then (ix ex5.Coefs j1).bind fun ex8=> (ix ex7.Coefs j1).bind fun ex9=> (a4c n ex8 ex9).bind fun v3=> bif !v3 then some false else ref37_Same_L3 n ex5 ex7 kont3 mx3 (iadd .i64 j1 1) else kont3
theorem ref37_Same_L3_s:type_of% @ref37_Same_L3.eq_2:= @ref37_Same_L3.eq_2
def ref37_Same_L2(n:Nat)(i1:Int)(kont2:(List (List Afn))->(List (List Afn))->Option Bool):Nat->Int->(List (List Afn))->(List (List Afn))->Option Bool |0,_,_,_=>none |mx2+1,k1,f3,f4=> (ix f4 i1).bind fun ex3=> bif decide (k1<(ex3.length:Int))then (ix f4 i1).bind fun ex4=> (ix ex4 k1).bind fun ex5=> (ix f3 i1).bind fun ex6=> (ix ex6 k1).bind fun ex7=> (a4c n ex5.Const ex7.Const).bind fun v1=> (bif !v1 then some true else some ((ex5.Coefs.length:Int) !=(ex7.Coefs.length:Int))).bind fun v2=> bif v2 then some false else ref37_Same_L3 n ex5 ex7 ( ref37_Same_L2 n i1 kont2 mx2 (iadd .i64 k1 1) f3 f4) n 0 else kont2 f3 f4
theorem ref37_Same_L2_s:type_of% @ref37_Same_L2.eq_2:= @ref37_Same_L2.eq_2
def ref37_Same_L1(n:Nat)(kq1:Option Bool):Nat->Int->(List (List Afn))->(List (List Afn))->Option Bool |0,_,_,_=>none |mx1+1,i1,f1,f2=> bif decide (i1<(f2.length:Int))then (ix f2 i1).bind fun ex1=> (ix f1 i1).bind fun ex2=> bif(ex1.length:Int) !=(ex2.length:Int)then some false else ref37_Same_L2 n i1 (fun(f5:(List (List Afn)))(f6:(List (List Afn)))=> ref37_Same_L1 n kq1 mx1 (iadd .i64 i1 1) f5 f6) n 0 f1 f2 else kq1
theorem ref37_Same_L1_s:type_of% @ref37_Same_L1.eq_2:= @ref37_Same_L1.eq_2
def b4k(n:Nat)(ax1:Form)(b1:Form):Option Bool:= bif(ax1.Pieces.length:Int) !=(b1.Pieces.length:Int)then some false else ref37_Same_L1 n ( some true) n 0 b1.Pieces ax1.Pieces
def b6c(n:Nat)(t1:Tariff)(names1:(List Bs))(f1:Facts)(weights1:(List Frac)):Option Bool:= (b6m n t1 names1 f1 weights1).bind fun v1=> (bif v1 then (a7q n t1.Fee 30 12).bind fun v3=> some v3 else some false).bind fun v2=> some v2
def ref37_FewForm_L3(n:Nat)(ex3:Afn)(kont3:Option Bool):Nat->Int->Option Bool |0,_=>none |mx3+1,j1=> bif decide (j1<(ex3.Coefs.length:Int))then (ix ex3.Coefs j1).bind fun ex4=> (a8p n ex4 3).bind fun v3=> bif !v3 then some false else ref37_FewForm_L3 n ex3 kont3 mx3 (iadd .i64 j1 1) else kont3
theorem ref37_FewForm_L3_s:type_of% @ref37_FewForm_L3.eq_2:= @ref37_FewForm_L3.eq_2
def ref37_FewForm_L2(n:Nat)(i1:Int)(kont2:(List (List Afn))->Option Bool):Nat->Int->(List (List Afn))->Option Bool |0,_,_=>none |mx2+1,k1,f3=> (ix f3 i1).bind fun ex1=> bif decide (k1<(ex1.length:Int))then (ix f3 i1).bind fun ex2=> (ix ex2 k1).bind fun ex3=> (bif decide (8<(ex3.Coefs.length:Int))then some true else (a8p n ex3.Const 3).bind fun v4=> some (!v4)).bind fun v2=> bif v2 then some false else ref37_FewForm_L3 n ex3 ( ref37_FewForm_L2 n i1 kont2 mx2 (iadd .i64 k1 1) f3) n 0 else kont2 f3
theorem ref37_FewForm_L2_s:type_of% @ref37_FewForm_L2.eq_2:= @ref37_FewForm_L2.eq_2
def ref37_FewForm_L1(n:Nat)(kq1:Option Bool):Nat->Int->(List (List Afn))->Option Bool |0,_,_=>none |mx1+1,i1,f2=> bif decide (i1<(f2.length:Int))then ref37_FewForm_L2 n i1 (fun(f4:(List (List Afn)))=> ref37_FewForm_L1 n kq1 mx1 (iadd .i64 i1 1) f4) n 0 f2 else kq1
theorem ref37_FewForm_L1_s:type_of% @ref37_FewForm_L1.eq_2:= @ref37_FewForm_L1.eq_2
def b0e(n:Nat)(f1:Form):Option Bool:= (bif decide (30<(f1.Pieces.length:Int))then some true else (a3r n f1).bind fun v5=> some (decide (60<v5))).bind fun v1=> bif v1 then some false else ref37_FewForm_L1 n ( some true) n 0 f1.Pieces
set_option linter.unusedVariables false
def b5k(n:Nat)(l1:(List Int))(kq1:(List Frac)->Option (List Frac)):Nat->Int->(List Frac)->Option (List Frac) |0,_,_=>none |mx1+1,i1,l2=> bif decide (i1<(l1.length:Int))then (ix l1 i1).bind fun ex1=> (a2v n ex1).bind fun v1=> (app 64 l2 [v1]).bind fun l4=> b5k n l1 kq1 mx1 (iadd .i64 i1 1) l4 else kq1 l2
def b4i(n:Nat)(l1:(List Int)):Option (List Frac):= b5k n l1 (fun(l3:List Frac)=> some l3) n 0 []
def b4p(n:Nat)(s1:Bs):Option (Form×Int):= (scat [116,97,114,105,102,102,32,97,32,123,32,102,101,101,32,61,32] s1).bind fun t1=> (scat t1 [32,59,32,125]).bind fun t2=> (b6a n t2).bind fun v1=> bif v1.2.2 !=0 then some ((⟨[]⟩:Form),v1.2.2) else (a6k n v1.1 [[112,97,112,101,114],[103,108,97,115,115]] (⟨[4,0],3,1⟩:Facts)).bind fun v2=> some (v2.1,v2.2)
def b9c(n:Nat)(want1:(List (List Int)))(i1:Int)(l1:(List Frac))(kont2:Option Bool):Nat->Int->Option Bool |0,_=>none |mx2+1,k1=> bif decide (k1<(l1.length:Int))then (ix l1 k1).bind fun ex5=> (ix want1 i1).bind fun ex6=> (ix ex6 k1).bind fun ex7=> (a2v n ex7).bind fun v1=> (a4c n ex5 v1).bind fun v2=> bif !v2 then some false else b9c n want1 i1 l1 kont2 mx2 (iadd .i64 k1 1) else kont2
def b9t(n:Nat)(want1:(List (List Int)))(kq1:Option Bool):Nat->Int->(List (List Afn))->Option Bool |0,_,_=>none |mx1+1,i1,f2=> bif decide (i1<(want1.length:Int))then (ix f2 i1).bind fun ex1=> bif(ex1.length:Int) !=1 then some false else (ix f2 i1).bind fun ex2=> (ix ex2 0).bind fun ex3=> (app 64 [ex3.Const] ex3.Coefs).bind fun l1=> (ix want1 i1).bind fun ex4=> bif(l1.length:Int) !=(ex4.length:Int)then some false else b9c n want1 i1 l1 ( b9t n want1 kq1 mx1 (iadd .i64 i1 1) f2) n 0 else kq1
def c1o(n:Nat)(f1:Form)(want1:(List (List Int))):Option Bool:= bif(f1.Pieces.length:Int) !=(want1.length:Int)then some false else b9t n want1 ( some true) n 0 f1.Pieces
theorem ent33:Ent Tryz.prog 33:=fun _ _=>by kernel_rfl
theorem ent13:Ent Tryz.prog 13:=fun _ _=>by kernel_rfl
theorem ent34:Ent Tryz.prog 34:=fun _ _=>by kernel_rfl
theorem ent25:Ent Tryz.prog 25:=fun _ _=>by kernel_rfl
def b3v(n:Nat):Option Bool:= (b4p n [53,32,43,32,40,50,32,42,32,112,101,114,115,111,110,115,41]).bind fun v1=> (b4p n [109,105,110,40,119,101,105,103,104,116,40,112,97,112,101,114,41,44,32,49,48,41,32,45,32,109,97,120,40,119,101,105,103,104,116,40,103,108,97,115,115,41,44,32,49,41]).bind fun v2=> (b4p n [109,97,120,40,109,105,110,40,119,101,105,103,104,116,40,112,97,112,101,114,41,44,32,55,41,44,32,119,101,105,103,104,116,40,103,108,97,115,115,41,41]).bind fun v3=> ((b4i n [12,3]).bind fun v26=> (a9s n v2.1 v26).bind fun v27=> some (v27.1.P.Sign,v27.1.P.Digits,v27.1.Q.Sign,v27.1.Q.Digits,v27.2)).bind fun(f1,f2,f3,f4,one1)=> ((b4i n [12,3]).bind fun v24=> (a9s n v3.1 v24).bind fun v25=> some (v25.1.P.Sign,v25.1.P.Digits,v25.1.Q.Sign,v25.1.Q.Digits,v25.2)).bind fun(f5,f6,f7,f8,two1)=> (a9s n (⟨[]⟩:Form) []).bind fun v4=> (b4p n [119,101,105,103,104,116,40,116,105,110,41]).bind fun v5=> (bif v1.2 !=0 then some true else some (v2.2 !=0)).bind fun v6=> (bif v6 then some true else some (v3.2 !=0)).bind fun v7=> (bif v7 then some true else some (v5.2 !=11)).bind fun v8=> (bif v8 then some true else some (!one1)).bind fun v9=> (bif v9 then some true else some (!two1)).bind fun v10=> (bif v10 then some true else some v4.2).bind fun v11=> (bif v11 then some true else some ((v3.1.Pieces.length:Int) !=2)).bind fun v12=> bif v12 then some false else ((c1o n v1.1 [[11,0,0]]).bind fun v14=> (bif v14 then (c1o n v2.1 [[0,1,(-1)],[(-1),1,0],[10,0,(-1)],[9,0,0]]).bind fun v23=> some v23 else some false).bind fun v15=> (bif v15 then (ix v3.1.Pieces 1).bind fun ex1=> some ((ex1.length:Int)==2) else some false).bind fun v16=> (bif v16 then (a2v n 7).bind fun v21=> (a4c n (⟨(⟨f1,f2⟩:Big),(⟨f3,f4⟩:Big)⟩:Frac) v21).bind fun v22=> some v22 else some false).bind fun v17=> (bif v17 then (a2v n 7).bind fun v19=> (a4c n (⟨(⟨f5,f6⟩:Big),(⟨f7,f8⟩:Big)⟩:Frac) v19).bind fun v20=> some v20 else some false).bind fun v18=> some v18).bind fun v13=> some v13
end M
namespace Wrap
open Go Go.ChangeShapes Go.WideShapes Go.ChangeAt Go.RowKit Rt
theorem e0c(W:World):b3p Tryz.prog W 9 Rp.str (fun s=>s.length<=maxLen):=d9w Tryz.underlying9
theorem cells9:Tryz.prog.cellsOf 9=1:=by kernel_rfl
theorem c6m(W:World):b3p Tryz.prog W 3 (Rp.int .i64) (fun z=>IntKind.i64.min<=z/\z<=IntKind.i64.max):=d8r Tryz.underlying3
theorem cells3:Tryz.prog.cellsOf 3=1:=by kernel_rfl
theorem cells22:Tryz.prog.cellsOf 22=1:=by kernel_rfl
theorem cells24:Tryz.prog.cellsOf 24=4:=by kernel_rfl
inductive WfX:M.Expr->Prop
 |mk {o n:Int} {s:Rt.Bs} {l:List M.Expr}:(IntKind.i64.min<=o/\o<=IntKind.i64.max)->(IntKind.i64.min<=n/\n<=IntKind.i64.max)->s.length<=maxLen->l.length<=maxLen->(∀y,y∈l->WfX y)->WfX ⟨o,n,s,l⟩
def ok24(x:M.Expr):Prop:=WfX x
set_option maxRecDepth 100000 in
theorem e5c(W:World){H:Type}(enc:TypeId×Value->H):∀(fuel:Nat)(cs:List Value)(x:DataW H×List MemPlace),DataW.trod enc Tryz.prog W 0 (fun _=>true) true fuel 24 cs=some x->∃y,M.rp_Expr.R (all W) cs y/\WfX y:=by
 intro fuel;induction fuel using Nat.strongRecOn with
 |ind fuel ih=>
  intro cs x h;obtain⟨xs,n,hfu,_,hl,hn,hf⟩:=DataW.trod_struct Tryz.underlying24 h;obtain⟨y0,r0,o0⟩:=a6d hn hf (i:=0) rfl (c6m W);obtain⟨y1,r1,o1⟩:=a6d hn hf (i:=1) rfl (c6m W);obtain⟨y2,r2,o2⟩:=a6d hn hf (i:=2) rfl (e0c W);have h3:DataW.trod enc Tryz.prog W 0 (fun _=>true) true n 22 ((cs.drop 3).take (Tryz.prog.cellsOf 22))=xs[3]?:=hf 3 _ rfl;have h3l:3<xs.length:=by rw [hn];decide
  rw [List.getElem?_eq_getElem h3l]at h3;obtain⟨l,⟨a,m,c,e3',s3⟩,o3,o4⟩:=e5d Tryz.underlying22 (r:=M.rp_Expr) (ok:=WfX) (by rw [cells24];rfl) (by decide) h3 (fun j cs' x' hj hx=>ih j (by omega) cs' x' hx);have e0:(cs.drop 0).take (Tryz.prog.cellsOf 3)= [.int .i64 y0]:=r0;have e1:(cs.drop 1).take (Tryz.prog.cellsOf 3)= [.int .i64 y1]:=r1;have e2:(cs.drop 2).take (Tryz.prog.cellsOf 9)= [vs y2]:=r2;have e3:(cs.drop 3).take (Tryz.prog.cellsOf 22)= [.slice a m c]:=e3';rw [cells3]at e0 e1;rw [cells9]at e2;rw [cells22]at e3;rw [cells24]at hl;refine⟨⟨y0,y1,y2,l⟩,M.expr_iff.2 ⟨a,m,c,?_,s3⟩,WfX.mk o0 o1 o2 o3 o4⟩;show cs=_;have hd:cs.drop 4= []:=List.drop_of_length_le (by omega);have h0:cs=cs.drop 0:=(List.drop_zero).symm;rw [h0];rw [show cs.drop 0=(cs.drop 0).take 1++cs.drop 1 from a5k cs 0 1,e0];rw [show cs.drop 1=(cs.drop 1).take 1++cs.drop 2 from a5k cs 1 1,e1];rw [show cs.drop 2=(cs.drop 2).take 1++cs.drop 3 from a5k cs 2 1,e2];rw [show cs.drop 3=(cs.drop 3).take 1++cs.drop 4 from a5k cs 3 1,e3];rw [hd];rfl
theorem e9s(W:World):b3p Tryz.prog W 24 M.rp_Expr ok24:=fun enc fuel cs x h=>e5c W enc fuel cs x h
theorem cells26:Tryz.prog.cellsOf 26=6:=by kernel_rfl
def ok26(x:M.Tariff):Prop:=x.Name.length<=maxLen/\ok24 x.Fee/\(IntKind.i64.min<=x.Cap/\x.Cap<=IntKind.i64.max)
set_option maxRecDepth 100000 in
theorem f0r(W:World):b3p Tryz.prog W 26 M.rp_Tariff ok26:=by
 intro H enc fuel cs x h;obtain⟨xs,n,_,_,hl,hn,hf⟩:=DataW.trod_struct Tryz.underlying26 h;obtain⟨y0,r0,o0⟩:=a6d hn hf (i:=0) rfl (e0c W);have e0':=r0;have e0:(cs.drop 0).take (Tryz.prog.cellsOf 9)= [vs y0]:=e0';rw [cells9]at e0;obtain⟨y1,r1,o1⟩:=a6d hn hf (i:=1) rfl (e9s W);obtain⟨a1_3,n1_3,c1_3,e1',s1_3⟩:=(M.expr_iff.1 r1)
 have e1:(cs.drop 1).take (Tryz.prog.cellsOf 24)= [.int .i64 y1.Op,.int .i64 y1.N,vs y1.Name,.slice a1_3 n1_3 c1_3]:=e1';rw [cells24]at e1;obtain⟨y2,r2,o2⟩:=a6d hn hf (i:=2) rfl (c6m W);have e2':=r2;have e2:(cs.drop 5).take (Tryz.prog.cellsOf 3)= [.int .i64 y2]:=e2';rw [cells3]at e2;rw [cells26]at hl;refine⟨⟨y0,y1,y2⟩,⟨a1_3,n1_3,c1_3,?_,s1_3⟩,o0,o1,o2⟩;show cs=_;have hd:cs.drop 6= []:=List.drop_of_length_le (by omega);have h0:cs=cs.drop 0:=(List.drop_zero).symm;rw [h0];rw [show cs.drop 0=(cs.drop 0).take 1++cs.drop 1 from a5k cs 0 1,e0];rw [show cs.drop 1=(cs.drop 1).take 4++cs.drop 5 from a5k cs 1 4,e1];rw [show cs.drop 5=(cs.drop 5).take 1++cs.drop 6 from a5k cs 5 1,e2];rw [hd];rfl
def ok27(l:List Bs):Prop:=l.length<=maxLen/\∀x∈l,x.length<=maxLen
theorem f1l(W:World):b3p Tryz.prog W 27 (Rp.sl Rp.str) ok27:=b2i Tryz.underlying27 (r:=Rp.str) (by rw [cells9];rfl) (by decide) (e0c W)
def ok28(l:List Int):Prop:=l.length<=maxLen/\∀x∈l,(IntKind.i64.min<=x/\x<=IntKind.i64.max)
theorem e0q(W:World):b3p Tryz.prog W 28 (Rp.sl (Rp.int .i64)) ok28:=b2i Tryz.underlying28 (r:=(Rp.int .i64)) (by rw [cells3];rfl) (by decide) (c6m W)
theorem cells28:Tryz.prog.cellsOf 28=1:=by kernel_rfl
theorem cells30:Tryz.prog.cellsOf 30=3:=by kernel_rfl
def ok30(x:M.Facts):Prop:=ok28 x.Lifts/\(IntKind.i64.min<=x.Persons/\x.Persons<=IntKind.i64.max)/\(IntKind.i64.min<=x.Flats/\x.Flats<=IntKind.i64.max)
set_option maxRecDepth 100000 in
theorem f1i(W:World):b3p Tryz.prog W 30 M.rp_Facts ok30:=by
 intro H enc fuel cs x h;obtain⟨xs,n,_,_,hl,hn,hf⟩:=DataW.trod_struct Tryz.underlying30 h;obtain⟨y0,r0,o0⟩:=a6d hn hf (i:=0) rfl (e0q W);obtain⟨a0_0,n0_0,c0_0,e0',s0_0⟩:=r0;have e0:(cs.drop 0).take (Tryz.prog.cellsOf 28)= [.slice a0_0 n0_0 c0_0]:=e0';rw [cells28]at e0;obtain⟨y1,r1,o1⟩:=a6d hn hf (i:=1) rfl (c6m W);have e1':=r1;have e1:(cs.drop 1).take (Tryz.prog.cellsOf 3)= [.int .i64 y1]:=e1';rw [cells3]at e1;obtain⟨y2,r2,o2⟩:=a6d hn hf (i:=2) rfl (c6m W);have e2':=r2;have e2:(cs.drop 2).take (Tryz.prog.cellsOf 3)= [.int .i64 y2]:=e2';rw [cells3]at e2;rw [cells30]at hl;refine⟨⟨y0,y1,y2⟩,⟨a0_0,n0_0,c0_0,?_,s0_0⟩,o0,o1,o2⟩;show cs=_;have hd:cs.drop 3= []:=List.drop_of_length_le (by omega);have h0:cs=cs.drop 0:=(List.drop_zero).symm;rw [h0];rw [show cs.drop 0=(cs.drop 0).take 1++cs.drop 1 from a5k cs 0 1,e0];rw [show cs.drop 1=(cs.drop 1).take 1++cs.drop 2 from a5k cs 1 1,e1];rw [show cs.drop 2=(cs.drop 2).take 1++cs.drop 3 from a5k cs 2 1,e2];rw [hd];rfl
theorem cells42:Tryz.prog.cellsOf 42=2:=by kernel_rfl
def ok42(x:M.Big):Prop:=(IntKind.i64.min<=x.Sign/\x.Sign<=IntKind.i64.max)/\ok28 x.Digits
set_option maxRecDepth 100000 in
theorem e2a(W:World):b3p Tryz.prog W 42 M.rp_Big ok42:=by
 intro H enc fuel cs x h;obtain⟨xs,n,_,_,hl,hn,hf⟩:=DataW.trod_struct Tryz.underlying42 h;obtain⟨y0,r0,o0⟩:=a6d hn hf (i:=0) rfl (c6m W);have e0':=r0;have e0:(cs.drop 0).take (Tryz.prog.cellsOf 3)= [.int .i64 y0]:=e0';rw [cells3]at e0;obtain⟨y1,r1,o1⟩:=a6d hn hf (i:=1) rfl (e0q W);obtain⟨a1_0,n1_0,c1_0,e1',s1_0⟩:=r1;have e1:(cs.drop 1).take (Tryz.prog.cellsOf 28)= [.slice a1_0 n1_0 c1_0]:=e1';rw [cells28]at e1;rw [cells42]at hl;refine⟨⟨y0,y1⟩,⟨a1_0,n1_0,c1_0,?_,s1_0⟩,o0,o1⟩;show cs=_;have hd:cs.drop 2= []:=List.drop_of_length_le (by omega);have h0:cs=cs.drop 0:=(List.drop_zero).symm;rw [h0];rw [show cs.drop 0=(cs.drop 0).take 1++cs.drop 1 from a5k cs 0 1,e0];rw [show cs.drop 1=(cs.drop 1).take 1++cs.drop 2 from a5k cs 1 1,e1];rw [hd];rfl
theorem cells44:Tryz.prog.cellsOf 44=4:=by kernel_rfl
def ok44(x:M.Frac):Prop:=ok42 x.P/\ok42 x.Q
set_option maxRecDepth 100000 in
theorem d8s(W:World):b3p Tryz.prog W 44 M.rp_Frac ok44:=by
 intro H enc fuel cs x h;obtain⟨xs,n,_,_,hl,hn,hf⟩:=DataW.trod_struct Tryz.underlying44 h;obtain⟨y0,r0,o0⟩:=a6d hn hf (i:=0) rfl (e2a W);obtain⟨a0_1,n0_1,c0_1,e0',s0_1⟩:=r0;have e0:(cs.drop 0).take (Tryz.prog.cellsOf 42)= [.int .i64 y0.Sign,.slice a0_1 n0_1 c0_1]:=e0';rw [cells42]at e0;obtain⟨y1,r1,o1⟩:=a6d hn hf (i:=1) rfl (e2a W);obtain⟨a1_1,n1_1,c1_1,e1',s1_1⟩:=r1;have e1:(cs.drop 2).take (Tryz.prog.cellsOf 42)= [.int .i64 y1.Sign,.slice a1_1 n1_1 c1_1]:=e1';rw [cells42]at e1;rw [cells44]at hl;refine⟨⟨y0,y1⟩,⟨a0_1,n0_1,c0_1,a1_1,n1_1,c1_1,?_,s0_1,s1_1⟩,o0,o1⟩;show cs=_;have hd:cs.drop 4= []:=List.drop_of_length_le (by omega);have h0:cs=cs.drop 0:=(List.drop_zero).symm;rw [h0];rw [show cs.drop 0=(cs.drop 0).take 2++cs.drop 2 from a5k cs 0 2,e0];rw [show cs.drop 2=(cs.drop 2).take 2++cs.drop 4 from a5k cs 2 2,e1];rw [hd];rfl
def ok31(l:List M.Frac):Prop:=l.length<=maxLen/\∀x∈l,ok44 x
theorem e0t(W:World):b3p Tryz.prog W 31 (Rp.sl M.rp_Frac) ok31:=b2i Tryz.underlying31 (r:=M.rp_Frac) (by rw [cells44];rfl) (by decide) (d8s W)
theorem cells31:Tryz.prog.cellsOf 31=1:=by kernel_rfl
theorem cells62:Tryz.prog.cellsOf 62=5:=by kernel_rfl
def ok62(x:M.Afn):Prop:=ok44 x.Const/\ok31 x.Coefs
set_option maxRecDepth 100000 in
theorem f0c(W:World):b3p Tryz.prog W 62 M.rp_Affine ok62:=by
 intro H enc fuel cs x h;obtain⟨xs,n,_,_,hl,hn,hf⟩:=DataW.trod_struct Tryz.underlying62 h;obtain⟨y0,r0,o0⟩:=a6d hn hf (i:=0) rfl (d8s W);obtain⟨a0_1,n0_1,c0_1,a0_3,n0_3,c0_3,e0',s0_1,s0_3⟩:=r0;have e0:(cs.drop 0).take (Tryz.prog.cellsOf 44)= [.int .i64 y0.P.Sign,.slice a0_1 n0_1 c0_1,.int .i64 y0.Q.Sign,.slice a0_3 n0_3 c0_3]:=e0';rw [cells44]at e0;obtain⟨y1,r1,o1⟩:=a6d hn hf (i:=1) rfl (e0t W);obtain⟨a1_0,n1_0,c1_0,e1',s1_0⟩:=r1;have e1:(cs.drop 4).take (Tryz.prog.cellsOf 31)= [.slice a1_0 n1_0 c1_0]:=e1';rw [cells31]at e1;rw [cells62]at hl;refine⟨⟨y0,y1⟩,⟨a0_1,n0_1,c0_1,a0_3,n0_3,c0_3,a1_0,n1_0,c1_0,?_,s0_1,s0_3,s1_0⟩,o0,o1⟩;show cs=_;have hd:cs.drop 5= []:=List.drop_of_length_le (by omega);have h0:cs=cs.drop 0:=(List.drop_zero).symm;rw [h0];rw [show cs.drop 0=(cs.drop 0).take 4++cs.drop 4 from a5k cs 0 4,e0];rw [show cs.drop 4=(cs.drop 4).take 1++cs.drop 5 from a5k cs 4 1,e1];rw [hd];rfl
def ok57(l:List M.Afn):Prop:=l.length<=maxLen/\∀x∈l,ok62 x
theorem f2o(W:World):b3p Tryz.prog W 57 (Rp.sl M.rp_Affine) ok57:=b2i Tryz.underlying57 (r:=M.rp_Affine) (by rw [cells62];rfl) (by decide) (f0c W)
theorem cells57:Tryz.prog.cellsOf 57=1:=by kernel_rfl
def ok32(l:List (List M.Afn)):Prop:=l.length<=maxLen/\∀x∈l,ok57 x
theorem f0u(W:World):b3p Tryz.prog W 32 (Rp.sl (Rp.sl M.rp_Affine)) ok32:=b2i Tryz.underlying32 (r:=(Rp.sl M.rp_Affine)) (by rw [cells57];rfl) (by decide) (f2o W)
theorem cells32:Tryz.prog.cellsOf 32=1:=by kernel_rfl
theorem cells34:Tryz.prog.cellsOf 34=1:=by kernel_rfl
def ok34(x:M.Form):Prop:=ok32 x.Pieces
set_option maxRecDepth 100000 in
theorem e9z(W:World):b3p Tryz.prog W 34 M.rp_Form ok34:=by
 intro H enc fuel cs x h;obtain⟨xs,n,_,_,hl,hn,hf⟩:=DataW.trod_struct Tryz.underlying34 h;obtain⟨y0,r0,o0⟩:=a6d hn hf (i:=0) rfl (f0u W);obtain⟨a0_0,n0_0,c0_0,e0',s0_0⟩:=r0;have e0:(cs.drop 0).take (Tryz.prog.cellsOf 32)= [.slice a0_0 n0_0 c0_0]:=e0';rw [cells32]at e0;rw [cells34]at hl;refine⟨⟨y0⟩,⟨a0_0,n0_0,c0_0,?_,s0_0⟩,o0⟩;show cs=_;have hd:cs.drop 1= []:=List.drop_of_length_le (by omega);have h0:cs=cs.drop 0:=(List.drop_zero).symm;rw [h0];rw [show cs.drop 0=(cs.drop 0).take 1++cs.drop 1 from a5k cs 0 1,e0];rw [hd];rfl
def tabs:List (String×DataW Unit):= [("kerbside/lexer.signs",Rows.laid_kerbside_lexer_signs)]
theorem cells211:Tryz.prog.cellsOf 211=13:=by kernel_rfl
theorem cells5:Tryz.prog.cellsOf 5=1:=by kernel_rfl
theorem gTab0:Tryz.prog.globalNamed "kerbside/lexer.signs" =some 0:=by kernel_rfl
theorem gTabType0:(Tryz.prog.globals[0]?).map (·.type)=some 211:=by kernel_rfl
theorem f3a{W:World}(h:laidMetH Tryz.prog tabs W):FX (all W) 0 [.int .u8 40,.int .u8 41,.int .u8 44,.int .u8 59,.int .u8 58,.int .u8 61,.int .u8 60,.int .u8 43,.int .u8 45,.int .u8 42,.int .u8 47,.int .u8 123,.int .u8 125]:=by
 have h1:laidMet Tryz.prog tabs W:=h;have h2:laidMet Tryz.prog (("kerbside/lexer.signs",Lib.tabData .u8 [40,41,44,59,58,61,60,43,45,42,47,123,125])::_) W:=h1;exact e3p gTab0 (Lib.tabIs_of_head gTab0 gTabType0 Tryz.underlying211 Tryz.underlying5 cells5 cells211 h2)
def laidCells:DataW Unit->List Value
 | .lit (.int k z)=> [.int k z]
 | .agg xs=>xs.flatMap fun| .lit (.int k z)=> [.int k z]| .agg [.lit (.int k z),.lit (.int k' z')]=> [.int k z,.int k' z']|_=> []
 |_=> []
def f5w(h:Array Obj)(g:Nat)(d:DataW Unit):Array Obj:=h.modify g fun
 | .cells _ t frozen=> .cells (laidCells d).toArray t frozen
 |o=>o
noncomputable def c5z(os:Os):World:=
 {World.holding Tryz.prog os ⟨#[], #[],[]⟩with heap:=(f5w (World.holding Tryz.prog os ⟨#[], #[],[]⟩).heap 0 Rows.laid_kerbside_lexer_signs)}
theorem e6o(os:Os)(args:Array Value):laidMet Tryz.prog tabs ((c5z os).forCall (fun _ _=>0) ⟨#[],args,[]⟩).memory:=
 laidMet_of_run' 8 (by kernel_rfl) (by kernel_rfl)
end Wrap
namespace Rt
open Go Go.RowKit
set_option linter.unusedVariables false
set_option linter.unusedSimpArgs false
inductive AV(ty:Nat->Type)where
 |int (k:IntKind) (x:Int)
 |bool (b:Bool)
 |ob (b:Bool)
 |lb (c b:Bool)
 |str (l:Bs)
 |val (v:Value)
 |agg (l:List (AV ty))
 |tup (l:List (AV ty))
 |sl (c:Nat) (xs:List (ty c))
 |bx (i o:Nat)
 |el (c:Nat) (x:ty c) (o:Nat)
 |row (i:Nat)
 |rel (i c:Nat) (x:ty c) (j o:Nat)
 |any
 |clo (f:FuncId) (l:List (AV ty))
 |fb (l:List (AV ty)) (o:Nat)
 |sb (i c k:Nat)
 |rw (i lo hi:Nat)
inductive AO(ty:Nat->Type)where
 |box (T:TypeId) (cs:List (AV ty))
 |row (e q c:Nat) (xs:List (ty c))
 |gone
 |kbox (i:Nat) (T:TypeId) (cs:List (AV ty))
 |krow (i:Nat) (e q c:Nat) (xs:List (ty c))
 |mark
structure Snap where
 K:Nat->OE
 F:Frz
def Snap.nil:Snap:=⟨fun _=> .row 0 0 none 0 0 [],fun _=>none⟩
abbrev AE(ty:Nat->Type):=List (Nat×AV ty)
section
variable{ty:Nat->Type}(rp:∀c,Rp (ty c))(R:List OE)(F:Frz)
mutual
def Conc:AV ty->Value->Prop | .int k x,v=>v= .int k x | .bool b,v=>v= .bool b | .ob b,v=>v= .bool b | .lb c b,v=>v= .bool c/\b=c | .str l,v=>v=vs l | .val u,v=>v=u | .agg l,v=>∃cs:List Value,v= .agg cs.toArray/\ConcL l cs | .tup l,v=>∃cs:List Value,v= .tuple cs.toArray/\ConcL l cs | .sl c xs,v=>∃a m n,v= .slice a m n/\SlR (rp c) F a m n xs | .bx i o,v=>∃b T cs,R[i]?=some (.box b T cs)/\v= .pointer (some ⟨b,o,none⟩) | .el c x o,v=>∃b p cs,FC F b p cs/\(rp c).R F cs x/\v= .pointer (some ⟨b,p+o,none⟩) | .row i,v=>∃e q a m n xs,R[i]?=some (.row e q a m n xs)/\v= .slice a m n | .rel i c x j o,v=>∃e b m n us cs,R[i]?=some (.row e (rp c).k (some ⟨b,0,none⟩) m n us)/\cs<+:us.drop (j*(rp c).k)/\(rp c).R F cs x/\v= .pointer (some ⟨b,j*(rp c).k+o,none⟩) | .any,_=>True | .clo f l,v=>∃cs:List Value,v= .func (.func f) #[] cs.toArray/\ConcL l cs | .fb l o,v=>∃(b:Nat)(cs:List Value),v= .pointer (some ⟨b,o,none⟩)/\FC F b 0 cs/\ConcL l cs | .sb i c k,v=>∃b T cs,R[i]?=some (.box b T cs)/\v= .slice (some ⟨b,0,none⟩) k k | .rw i lo hi,v=>∃e q b m n xs,R[i]?=some (.row e q (some ⟨b,0,none⟩) m n xs)/\lo<=hi/\hi<=m/\lo<=n/\v= .slice (some ⟨b,lo*q,none⟩) (hi-lo) (n-lo)
def ConcL:List (AV ty)->List Value->Prop | [],cs=>cs= [] |x::l,cs=>∃v r,cs=v::r/\Conc x v/\ConcL l r end
end
mutual
def AV.sub{ty:Nat->Type}(i:Nat)(r:AV ty):AV ty->AV ty | .agg l=> .agg (AV.subL i r l) | .tup l=> .tup (AV.subL i r l) | .row j=>bif Nat.beq j i then r else .row j | .rel j c x p o=>bif Nat.beq j i then .any else .rel j c x p o | .int k x=> .int k x | .bool b=> .bool b | .ob b=> .ob b | .lb c b=> .lb c b | .str l=> .str l | .val v=> .val v | .sl c xs=> .sl c xs | .bx j o=> .bx j o | .el c x o=> .el c x o | .any=> .any | .clo f l=> .clo f (AV.subL i r l) | .fb l o=> .fb (AV.subL i r l) o | .sb j c k=> .sb j c k | .rw j lo hi=>bif Nat.beq j i then .any else .rw j lo hi
def AV.subL{ty:Nat->Type}(i:Nat)(r:AV ty):List (AV ty)->List (AV ty) | []=> [] |x::l=>AV.sub i r x::AV.subL i r l end
section
variable{ty:Nat->Type}{rp:∀c,Rp (ty c)}{R R':List OE}{F F':Frz}
structure Turn(rp:∀c,Rp (ty c))(i:Nat)(r:AV ty)(R:List OE)(F:Frz)(R':List OE)(F':Frz):Prop where
 le:F.le F'
 box:∀(j b:Nat)T(cs:List Value),R[j]?=some (.box b T cs)->∃cs':List Value,R'[j]?=some (.box b T cs')
 row:∀(j:Nat)e q a m n(xs:List Value),j≠i->R[j]?=some (.row e q a m n xs)->R'[j]?=some (.row e q a m n xs)
 at':∀v,Conc rp R F (.row i) v->Conc rp R' F' r v
mutual
theorem Conc.sub{i:Nat}{r:AV ty}(t:Turn rp i r R F R' F'):∀{x:AV ty}{v:Value},Conc rp R F x v->Conc rp R' F' (AV.sub i r x) v
 | .int k x,v,h=>h
 | .bool b,v,h=>h
 | .ob b,v,h=>h
 | .lb c b,v,h=>h
 | .str l,v,h=>h
 | .val u,v,h=>h
 | .agg l,v,⟨cs,h1,h2⟩=>⟨cs,h1,ConcL.sub t h2⟩
 | .tup l,v,⟨cs,h1,h2⟩=>⟨cs,h1,ConcL.sub t h2⟩
 | .sl c xs,v,⟨a,m,n,h1,h2⟩=>⟨a,m,n,h1,h2.mono t.le⟩
 | .bx j o,v,⟨b,T,cs,h1,h2⟩=>by
  obtain⟨cs',h3⟩:=t.box j b T cs h1;exact⟨b,T,cs',h3,h2⟩
 | .el c x o,v,⟨b,p,cs,h1,h2,h3⟩=>⟨b,p,cs,h1.mono t.le,(rp c).mono t.le h2,h3⟩
 | .row j,v,h=>by
  unfold AV.sub;cases hb:Nat.beq j i with
  |true=>obtain rfl:=Nat.eq_of_beq_eq_true hb;exact t.at' v h
  |false=>
   obtain⟨e,q,a,m,n,xs,h1,h2⟩:=h;exact⟨e,q,a,m,n,xs,t.row j e q a m n xs (Nat.ne_of_beq_eq_false hb) h1,h2⟩
 | .rel j c x p o,v,h=>by
  unfold AV.sub;cases hb:Nat.beq j i with
  |true=>trivial
  |false=>
   obtain⟨e,b,m,n,us,cs,h1,h2,h3,h4⟩:=h;exact⟨e,b,m,n,us,cs,t.row j e _ _ m n us (Nat.ne_of_beq_eq_false hb) h1,h2,(rp c).mono t.le h3,h4⟩
 | .any,v,_=>trivial
 | .clo f l,v,⟨cs,h1,h2⟩=>⟨cs,h1,ConcL.sub t h2⟩
 | .fb l o,v,⟨b,cs,h1,h2,h3⟩=>⟨b,cs,h1,h2.mono t.le,ConcL.sub t h3⟩
 | .sb j c k,v,⟨b,T,cs,h1,h2⟩=>by
  obtain⟨cs',h3⟩:=t.box j b T cs h1;exact⟨b,T,cs',h3,h2⟩
 | .rw j lo hi,v,h=>by
  unfold AV.sub;cases hb:Nat.beq j i with
  |true=>trivial
  |false=>
   obtain⟨e,q,b,m,n,xs,h1,h2⟩:=h;exact⟨e,q,b,m,n,xs,t.row j e q _ m n xs (Nat.ne_of_beq_eq_false hb) h1,h2⟩
theorem ConcL.sub{i:Nat}{r:AV ty}(t:Turn rp i r R F R' F'):∀{l:List (AV ty)}{cs:List Value},ConcL rp R F l cs->ConcL rp R' F' (AV.subL i r l) cs
 | [],_,h=>h
 |_::_,_,⟨v,k,h1,h2,h3⟩=>⟨v,k,h1,Conc.sub t h2,ConcL.sub t h3⟩
 end
structure Keep(R:List OE)(F:Frz)(R':List OE)(F':Frz):Prop where
 le:F.le F'
 box:∀(j b:Nat)T(cs:List Value),R[j]?=some (.box b T cs)->∃cs':List Value,R'[j]?=some (.box b T cs')
 row:∀(j:Nat)e q a m n(xs:List Value),R[j]?=some (.row e q a m n xs)->R'[j]?=some (.row e q a m n xs)
mutual
theorem Conc.mono(t:Keep R F R' F'):∀{x:AV ty}{v:Value},Conc rp R F x v->Conc rp R' F' x v
 | .int k x,v,h=>h
 | .bool b,v,h=>h
 | .ob b,v,h=>h
 | .lb c b,v,h=>h
 | .str l,v,h=>h
 | .val u,v,h=>h
 | .agg l,v,⟨cs,h1,h2⟩=>⟨cs,h1,ConcL.mono t h2⟩
 | .tup l,v,⟨cs,h1,h2⟩=>⟨cs,h1,ConcL.mono t h2⟩
 | .sl c xs,v,⟨a,m,n,h1,h2⟩=>⟨a,m,n,h1,h2.mono t.le⟩
 | .bx j o,v,⟨b,T,cs,h1,h2⟩=>by
  obtain⟨cs',h3⟩:=t.box j b T cs h1;exact⟨b,T,cs',h3,h2⟩
 | .el c x o,v,⟨b,p,cs,h1,h2,h3⟩=>⟨b,p,cs,h1.mono t.le,(rp c).mono t.le h2,h3⟩
 | .row j,v,⟨e,q,a,m,n,xs,h1,h2⟩=>⟨e,q,a,m,n,xs,t.row j e q a m n xs h1,h2⟩
 | .rel j c x p o,v,⟨e,b,m,n,us,cs,h1,h2,h3,h4⟩=>⟨e,b,m,n,us,cs,t.row j e _ _ m n us h1,h2,(rp c).mono t.le h3,h4⟩
 | .any,v,_=>trivial
 | .clo f l,v,⟨cs,h1,h2⟩=>⟨cs,h1,ConcL.mono t h2⟩
 | .fb l o,v,⟨b,cs,h1,h2,h3⟩=>⟨b,cs,h1,h2.mono t.le,ConcL.mono t h3⟩
 | .sb j c k,v,⟨b,T,cs,h1,h2⟩=>by
  obtain⟨cs',h3⟩:=t.box j b T cs h1;exact⟨b,T,cs',h3,h2⟩
 | .rw j lo hi,v,⟨e,q,b,m,n,xs,h1,h2⟩=>⟨e,q,b,m,n,xs,t.row j e q _ m n xs h1,h2⟩
theorem ConcL.mono(t:Keep R F R' F'):∀{l:List (AV ty)}{cs:List Value},ConcL rp R F l cs->ConcL rp R' F' l cs
 | [],_,h=>h
 |_::_,_,⟨v,k,h1,h2,h3⟩=>⟨v,k,h1,Conc.mono t h2,ConcL.mono t h3⟩
 end
theorem Keep.refl:Keep R F R F:=⟨Frz.refl F,fun _ _ _ cs h=>⟨cs,h⟩,fun _ _ _ _ _ _ _ h=>h⟩
theorem Keep.frz(h:F.le F'):Keep R F R F':=⟨h,fun _ _ _ cs h=>⟨cs,h⟩,fun _ _ _ _ _ _ _ h=>h⟩
theorem Keep.more{l:List OE}(h:F.le F'):Keep R F (R++l) F':=by
 refine⟨h,fun j b T cs h=>⟨cs,?_⟩,fun j e q a m n xs h=> ?_⟩<;>
  (rw [List.getElem?_append_left (List.getElem?_eq_some_iff.1 h).1];exact h)
theorem ConcL.len:∀{l:List (AV ty)}{cs:List Value},ConcL rp R F l cs->cs.length=l.length
 | [],_,h=>by simp only [ConcL]at h;subst h;rfl
 |_::_,_,⟨v,k,h1,h2,h3⟩=>by subst h1;simp [ConcL.len h3]
theorem ConcL.get:∀{l:List (AV ty)}{cs:List Value}{j:Nat}{x:AV ty},ConcL rp R F l cs->l[j]?=some x->∃v,cs[j]?=some v/\Conc rp R F x v
 | [],_,_,_,_,h=>by simp at h
 |y::l,_,0,x,⟨v,k,h1,h2,h3⟩,h=>by simp at h;subst h;subst h1;exact⟨v,by simp,h2⟩
 |y::l,_,j+1,x,⟨v,k,h1,h2,h3⟩,h=>by subst h1;obtain⟨u,h4,h5⟩:=ConcL.get h3 (by simpa using h);exact⟨u,by simpa using h4,h5⟩
theorem ConcL.drop:∀(j:Nat){l:List (AV ty)}{cs:List Value},ConcL rp R F l cs->ConcL rp R F (l.drop j) (cs.drop j)
 |0,_,_,h=>h
 |j+1,[],_,h=>by simp only [ConcL]at h;subst h;simp [ConcL]
 |j+1,_::_,_,⟨v,k,h1,h2,h3⟩=>by subst h1;exact ConcL.drop j h3
theorem ConcL.take:∀(j:Nat){l:List (AV ty)}{cs:List Value},ConcL rp R F l cs->ConcL rp R F (l.take j) (cs.take j)
 |0,_,_,h=>by simp [ConcL]
 |j+1,[],_,h=>by simp only [ConcL]at h;subst h;simp [ConcL]
 |j+1,_::_,_,⟨v,k,h1,h2,h3⟩=>by subst h1;exact⟨v,_,rfl,h2,ConcL.take j h3⟩
theorem ConcL.app:∀{l l2:List (AV ty)}{cs cs2:List Value},ConcL rp R F l cs->ConcL rp R F l2 cs2->ConcL rp R F (l++l2) (cs++cs2)
 | [],_,_,_,h,h2=>by simp only [ConcL]at h;subst h;exact h2
 |_::_,_,_,_,⟨v,k,h1,h2,h3⟩,h4=>by subst h1;exact⟨v,_,rfl,h2,ConcL.app h3 h4⟩
def ConcE(rp:∀c,Rp (ty c))(R:List OE)(F:Frz):AE ty->Env->Prop | [],m=>m= [] |p::l,m=>∃v r,m=(p.1,v)::r/\Conc rp R F p.2 v/\ConcE rp R F l r
def subE(i:Nat)(r:AV ty):AE ty->AE ty | []=> [] |p::l=>(p.1,AV.sub i r p.2)::subE i r l
theorem ConcE.sub{i:Nat}{r:AV ty}(t:Turn rp i r R F R' F'):∀{l:AE ty}{m:Env},ConcE rp R F l m->ConcE rp R' F' (subE i r l) m
 | [],_,h=>h
 |_::_,_,⟨v,k,h1,h2,h3⟩=>⟨v,k,h1,Conc.sub t h2,ConcE.sub t h3⟩
theorem ConcE.mono(t:Keep R F R' F'):∀{l:AE ty}{m:Env},ConcE rp R F l m->ConcE rp R' F' l m
 | [],_,h=>h
 |_::_,_,⟨v,k,h1,h2,h3⟩=>⟨v,k,h1,Conc.mono t h2,ConcE.mono t h3⟩
theorem ConcE.get:∀{l:AE ty}{m:Env}{t:Nat}{x:AV ty},ConcE rp R F l m->l.lookup t=some x->∃v,m.lookup t=some v/\Conc rp R F x v
 | [],_,_,_,_,h=>by simp at h
 |p::l,_,t,x,⟨v,k,h1,h2,h3⟩,h=>by
  subst h1;rw [List.lookup_cons]at h⊢;cases hb:(t==p.1)with
  |true=>rw [hb]at h;cases h;exact⟨v,by simp,h2⟩
  |false=>rw [hb]at h;simpa using ConcE.get h3 h
theorem ConcE.put{l:AE ty}{m:Env}{t:Nat}{x:AV ty}{v:Value}(h:ConcE rp R F l m)(hx:Conc rp R F x v):ConcE rp R F ((t,x)::l) ((t,v)::m):=⟨v,m,rfl,hx,h⟩
def ofC:Value->AV ty | .int k x=> .int k x | .bool b=> .bool b | .string s=> .str s.data.toList |v=> .val v
def ofV:Value->AV ty | .agg cs=> .agg (cs.toList.map ofC) |v=>ofC v
theorem e5n(v:Value):Conc rp R F (ofC v) v:=by
 cases v<;>first|rfl|exact d8h _
theorem concL_ofC:∀l:List Value,ConcL rp R F (l.map ofC) l
 | []=>rfl
 |v::l=>⟨v,l,rfl,e5n v,concL_ofC l⟩
theorem e5m(v:Value):Conc rp R F (ofV v) v:=by
 cases v with
 |agg cs=>exact⟨cs.toList,by simp,concL_ofC _⟩
 |string s=>exact d8h s
 |_=>rfl
def opA(env:AE ty):Operand->Option (AV ty) | .tmp t=>env.lookup t | .const v=>some (ofV v) | .func f=>some (.val (.func (.func f) #[] #[])) | .global g=>some (.val (.pointer (some ⟨g,0,none⟩)))
theorem a0r{env:AE ty}{m:Env}(h:ConcE rp R F env m){x:Operand}{y:AV ty}(hx:opA env x=some y):∃v,opv m x=some v/\Conc rp R F y v:=by
 cases x with
 |tmp t=>exact h.get hx
 |const u=>simp only [opA,Option.some.injEq]at hx;subst hx;exact⟨u,rfl,e5m u⟩
 |func f=>simp only [opA,Option.some.injEq]at hx;subst hx;exact⟨_,rfl,rfl⟩
 |global g=>simp only [opA,Option.some.injEq]at hx;subst hx;exact⟨_,rfl,rfl⟩
def opL(e:AE ty):List Operand->Option (List (AV ty))
 | []=>some []
 |x::l=>match opA e x with
  |some v=>match opL e l with
   |some r=>some (v::r)
   |none=>none
  |none=>none
theorem d4z{env:AE ty}{m:Env}(hE:ConcE rp R F env m):∀{l:List Operand}{r:List (AV ty)},opL env l=some r->∃us,opvs m l=some us/\ConcL rp R F r us
 | [],r,h=>by simp only [opL,Option.some.injEq]at h;subst h;exact⟨[],rfl,rfl⟩
 |x::l,r,h=>by
  simp only [opL]at h;split at h
  ·rename_i v hx;split at h
   ·rename_i r' hl;cases h;obtain⟨u,h1,h2⟩:=a0r hE hx;obtain⟨us,h3,h4⟩:=d4z hE hl;exact⟨u::us,by simp [opvs,h1,h3],u,us,rfl,h2,h4⟩
   cases h
  cases h
def litOf:AV ty->Option Bool | .bool c=>some c | .lb c _=>some c |_=>none
theorem b7u{x:AV ty}{v:Value}{c:Bool}(h:litOf x=some c)(hc:Conc rp R F x v):v= .bool c:=by
 cases x<;>simp only [litOf,reduceCtorEq,Option.some.injEq]at h<;>simp only [Conc]at hc
 ·rw [hc,h]
 rw [hc.1,h]
def noBool:AV ty->Bool | .val (.bool _)=>false | .val _=>true |_=>false
theorem e1x{x:AV ty}{v:Value}(h:noBool x=true)(hc:Conc rp R F x v):∀b,v≠ .bool b:=by
 intro b e;cases x<;>simp only [noBool,reduceCtorEq]at h;simp only [Conc]at hc;subst hc;subst e;simp [noBool]at h
def a9a(ops:Array Oper)(env:AE ty):Option (Nat×Bool)->Bool
 |none=>true
 |some (j,b)=>match(ops[j]?).bind (·.dst)with
  |some t=>match env.lookup t with
   |some x=>match litOf x with
    |some c=>c==b
    |none=>false
   |none=>false
  |none=>false
def c8m(ops:Array Oper)(env:AE ty):Option (Nat×Bool)->Bool
 |none=>false
 |some (j,b)=>match(ops[j]?).bind (·.dst)with
  |some t=>match env.lookup t with
   |some x=>match litOf x with
    |some c=>c !=b
    |none=>noBool x
   |none=>false
  |none=>false
theorem a2g{ops:Array Oper}{env:AE ty}{m:Env}(h:ConcE rp R F env m){g:Option (Nat×Bool)}(hg:a9a ops env g=true):isOn ops m g=true:=by
 cases g with
 |none=>rfl
 |some p=>
  obtain⟨j,b⟩:=p;simp only [a9a]at hg;simp only [isOn];cases hd:(ops[j]?).bind (·.dst)with
  |none=>rw [hd]at hg;exact hg
  |some t=>
   rw [hd]at hg;dsimp only at hg⊢;cases hc0:env.lookup t with
   |none=>rw [hc0]at hg;cases hg
   |some x=>
   rw [hc0]at hg;dsimp only at hg;split at hg
   ·rename_i c hc;obtain⟨v,h1,h2⟩:=h.get hc0;have h2:=b7u hc h2;subst h2;rw [h1];exact hg
   cases hg
theorem c5u{ops:Array Oper}{env:AE ty}{m:Env}(h:ConcE rp R F env m){g:Option (Nat×Bool)}(hg:c8m ops env g=true):c9r ops m g=true:=by
 cases g with
 |none=>exact hg
 |some p=>
  obtain⟨j,b⟩:=p;simp only [c8m]at hg;simp only [c9r];cases hd:(ops[j]?).bind (·.dst)with
  |none=>rw [hd]at hg;exact hg
  |some t=>
   rw [hd]at hg;dsimp only at hg⊢;cases hc0:env.lookup t with
   |none=>rw [hc0]at hg;cases hg
   |some x=>
   rw [hc0]at hg;dsimp only at hg;split at hg
   ·rename_i c hc;obtain⟨v,h1,h2⟩:=h.get hc0;have h2:=b7u hc h2;subst h2;rw [h1];exact hg
   obtain⟨v,h1,h2⟩:=h.get hc0;have h2:=e1x hg h2;rw [h1];cases v<;>first|rfl|exact absurd rfl (h2 _)
def RelO(rp:∀c,Rp (ty c))(K:Snap)(R:List OE)(F:Frz):AO ty->OE->Prop | .box T cs,e=>∃b us,e= .box b T us/\ConcL rp R F cs us | .row el q c xs,e=>∃a m n us,e= .row el q a m n us/\RowN (rp c) F m us xs | .gone,_=>True | .kbox i T cs,e=>e=K.K i/\∃b us,e= .box b T us/\ConcL rp R F cs us | .krow i el q c xs,e=>e=K.K i/\∃a m n us,e= .row el q a m n us/\RowN (rp c) F m us xs | .mark,e=>K.F.le F/\∃el q a m n us,e= .row el q a m n us
def RelH(rp:∀c,Rp (ty c))(K:Snap)(R:List OE)(F:Frz)(H:List (AO ty))(S:List OE):Prop:=H.length=S.length/\∀(i:Nat)(o:AO ty),H[i]?=some o->∃e:OE,S[i]?=some e/\RelO rp K R F o e
def AO.sub(i:Nat)(r:AV ty):AO ty->AO ty | .box T cs=> .box T (AV.subL i r cs) | .row e q c xs=> .row e q c xs | .gone=> .gone | .kbox j T cs=> .kbox j T (AV.subL i r cs) | .krow j e q c xs=> .krow j e q c xs | .mark=> .mark
def subH(i:Nat)(r:AV ty):List (AO ty)->List (AO ty) | []=> [] |o::l=>o.sub i r::subH i r l
variable{K:Snap}
theorem RelO.sub{i:Nat}{r:AV ty}(t:Turn rp i r R F R' F'){o:AO ty}{e:OE}(h:RelO rp K R F o e):RelO rp K R' F' (o.sub i r) e:=by
 cases o with
 |box T cs=>obtain⟨b,us,h1,h2⟩:=h;exact⟨b,us,h1,h2.sub t⟩
 |row el q c xs=>obtain⟨a,m,n,us,h1,h2⟩:=h;exact⟨a,m,n,us,h1,h2.mono t.le⟩
 |gone=>trivial
 |kbox j T cs=>obtain⟨h0,b,us,h1,h2⟩:=h;exact⟨h0,b,us,h1,h2.sub t⟩
 |krow j el q c xs=>obtain⟨h0,a,m,n,us,h1,h2⟩:=h;exact⟨h0,a,m,n,us,h1,h2.mono t.le⟩
 |mark=>exact⟨h.1.trans t.le,h.2⟩
theorem RelO.mono(t:Keep R F R' F'){o:AO ty}{e:OE}(h:RelO rp K R F o e):RelO rp K R' F' o e:=by
 cases o with
 |box T cs=>obtain⟨b,us,h1,h2⟩:=h;exact⟨b,us,h1,h2.mono t⟩
 |row el q c xs=>obtain⟨a,m,n,us,h1,h2⟩:=h;exact⟨a,m,n,us,h1,h2.mono t.le⟩
 |gone=>trivial
 |kbox j T cs=>obtain⟨h0,b,us,h1,h2⟩:=h;exact⟨h0,b,us,h1,h2.mono t⟩
 |krow j el q c xs=>obtain⟨h0,a,m,n,us,h1,h2⟩:=h;exact⟨h0,a,m,n,us,h1,h2.mono t.le⟩
 |mark=>exact⟨h.1.trans t.le,h.2⟩
theorem d0x(i:Nat)(r:AV ty):∀H:List (AO ty),subH i r H=H.map (AO.sub i r)
 | []=>rfl
 |o::l=>by rw [subH,d0x i r l];rfl
theorem RelH.mono{H:List (AO ty)}{S:List OE}(t:Keep R F R' F')(h:RelH rp K R F H S):RelH rp K R' F' H S:=
 ⟨h.1,fun i o ho=>by obtain⟨e,h1,h2⟩:=h.2 i o ho;exact⟨e,h1,h2.mono t⟩⟩
theorem RelH.sub{i:Nat}{r:AV ty}{H:List (AO ty)}{S:List OE}(t:Turn rp i r R F R' F')(h:RelH rp K R F H S):RelH rp K R' F' (subH i r H) S:=by
 refine⟨by rw [d0x];simpa using h.1,fun j o ho=> ?_⟩;rw [d0x,List.getElem?_map]at ho;obtain⟨o',h1,rfl⟩:=Option.map_eq_some_iff.1 ho;obtain⟨e,h2,h3⟩:=h.2 j o' h1;exact⟨e,h2,h3.sub t⟩
theorem RelH.set{H:List (AO ty)}{S:List OE}(h:RelH rp K R F H S)(i:Nat){o:AO ty}{e:OE}(ho:RelO rp K R F o e):RelH rp K R F (H.set i o) (S.set i e):=by
 refine⟨by simpa using h.1,fun j o' hj=> ?_⟩;rw [List.getElem?_set]at hj⊢
 by_cases hij:i=j
 ·subst hij;simp only [if_true]at hj⊢;split at hj
  ·rename_i hlt;cases hj;rw [if_pos (by rw [<-h.1];exact hlt)];exact⟨e,rfl,ho⟩
  cases hj
 rw [if_neg hij]at hj⊢;exact h.2 j o' hj
theorem RelH.add{H:List (AO ty)}{S:List OE}(h:RelH rp K R F H S){o:AO ty}{e:OE}(ho:RelO rp K R F o e):RelH rp K R F (H++ [o]) (S++ [e]):=by
 refine⟨by simp [h.1],fun j o' hj=> ?_⟩;rw [List.getElem?_append]at hj⊢;rw [h.1]at hj;split at hj
 ·rename_i hlt;rw [if_pos hlt];exact h.2 j o' hj
 rename_i hlt;rw [if_neg hlt];cases hk:j-S.length with
 |zero=>rw [hk]at hj;cases hj;exact⟨e,rfl,ho⟩
 |succ k=>rw [hk]at hj;simp at hj
end
theorem HS.perm{F0 F:Frz}{w0 w:World}{X:List Nat}{O O':List OE}(h:HS F0 w0 X F O w)(hp:O.Perm O'):HS F0 w0 X F O' w:=
 ⟨h.sat,h.le,h.new,fun e he=>h.own e (hp.mem_iff.2 he),fun e he=>h.sep e (hp.mem_iff.2 he),
  h.dis.perm hp (fun h b h1 h2=>h b h2 h1),h.os,h.tape,h.output,h.size,h.old⟩
theorem HS.addEnd{F0 F:Frz}{w0 w:World}{X:List Nat}{O:List OE}{e:OE}(h:HS F0 w0 X F (e::O) w):HS F0 w0 X F (O++ [e]) w:=
 h.perm (List.perm_append_comm (l₁:= [e]) (l₂:=O))
set_option linter.unusedVariables false
set_option linter.unusedSimpArgs false
def feld(P:Program)(t:TypeId)(j:Nat):Option (TypeId×Nat):=match P.underlying t with
 |some (.struct fs)=>(fs[j]?).map fun f=>(f.type,f.offset)
 |_=>none
structure Tbl(P:Program)where
 ty:Nat->Type
 rp:∀c,Rp (ty c)
 en:∀c,ty c->List (AV ty)
 dec:∀c,List (AV ty)->Option (ty c)
 enOk:∀(R:List OE){F:Frz}{c:Nat}{cs:List Value}{x:ty c},(rp c).R F cs x->ConcL rp R F (en c x) cs
 decOk:∀{R:List OE}{F:Frz}{c:Nat}{l:List (AV ty)}{cs:List Value}{x:ty c},dec c l=some x->ConcL rp R F l cs->(rp c).R F cs x
 und:TypeId->Option TypeDesc
 undOk:∀{t D},und t=some D->P.underlying t=some D
 agg:TypeId->Option Bool
 aggOk:∀{t b},agg t=some b->b3x P t b
 size:TypeId->Option Nat
 sizeOk:∀{t k},size t=some k->SizeIs P t k
 fld:TypeId->Nat->Option Nat
 fldOk:∀{t j o},fld t j=some o->d4v P t j o
 fel:TypeId->Nat->Option (TypeId×Nat)
 felOk:∀{t j e o},fel t j=some (e,o)->feld P t j=some (e,o)
 zero:TypeId->Option Value
 zeroOk:∀{t z},zero t=some z->c5o P t z
 cod:TypeId->Nat
 elt:Nat->TypeId
 bld:TypeId->Option (List (Nat×Nat))
 app:TypeId->Option (TypeId×Nat×Nat)
 appOk:∀{t el q b},app t=some (el,q,b)->AppIs P t el q b
 mix:P.follows .mixedOrders=true
 gl:Frz->Prop
 glMono:∀{F F':Frz},F.le F'->gl F->gl F'
 bldOk:∀{t ps},bld t=some ps->∃fs:List Field,P.underlying t=some (.struct fs.toArray)/\fs.map (·.offset)=ps.map (·.1)/\∀(i:Nat)f p,fs[i]?=some f->ps[i]?=some p->SizeIs P f.type p.2
def d1n{α:Type}:Nat->List α->Option (List α)
 |0,_=>some []
 |_+1,[]=>none
 |m+1,x::l=>match d1n m l with
  |some r=>some (x::r)
  |none=>none
theorem b7v{α:Type}:∀{m:Nat}{l r:List α},d1n m l=some r->l.take m=r/\r.length=m
 |0,l,r,h=>by simp only [d1n,Option.some.injEq]at h;subst h;simp
 |m+1,[],r,h=>by simp [d1n]at h
 |m+1,x::l,r,h=>by
  simp only [d1n]at h;split at h
  ·rename_i r' h';cases h;obtain⟨h1,h2⟩:=b7v h';exact⟨by simp [h1],by simp [h2]⟩
  cases h
def intA{ty:Nat->Type}(op:BinOp)(k:IntKind)(x y:Int):Option (AV ty):=
 match op with
 | .add=>some (.int k (iadd k x y))
 | .sub=>some (.int k (isub k x y))
 | .mul=>some (.int k (imul k x y))
 | .and=>some (.int k (iand k x y))
 | .or=>some (.int k (ior k x y))
 | .xor=>some (.int k (ixor k x y))
 | .eql=>some (.ob (x==y))
 | .neq=>some (.ob (x !=y))
 | .lss=>some (.ob (decide (x<y)))
 | .leq=>some (.ob (decide (x<=y)))
 | .gtr=>some (.ob (decide (y<x)))
 | .geq=>some (.ob (decide (y<=x)))
 |_=>none
def strA{ty:Nat->Type}(op:BinOp)(a b:Bs):Option (AV ty):=
 match op with
 | .eql=>some (.ob (a==b))
 | .neq=>some (.ob (!(a==b)))
 | .lss=>some (.ob (Op.bytesLess a b))
 | .leq=>some (.ob (Op.bytesLess a b||a==b))
 | .gtr=>some (.ob (!(Op.bytesLess a b||a==b)))
 | .geq=>some (.ob (!(Op.bytesLess a b)))
 |_=>none
def d1p{ty:Nat->Type}:AV ty->Option Bool | .bool b=>some b | .ob b=>some b | .lb c _=>some c |_=>none
theorem c5d{ty:Nat->Type}{rp:∀c,Rp (ty c)}{R:List OE}{F:Frz}{x:AV ty}{v:Value}{b:Bool}(h:d1p x=some b)(hc:Conc rp R F x v):v= .bool b:=by
 cases x<;>simp only [d1p,reduceCtorEq,Option.some.injEq]at h<;>simp only [Conc]at hc
 ·rw [hc,h]
 ·rw [hc,h]
 rw [hc.1,h]
def f3n{ty:Nat->Type}(D:Option TypeDesc)(op:BinOp)(a b:Bool):Option (AV ty):=
 match D,op with
 |some .bool,.eql=>some (.ob (a==b))
 |some .bool,.neq=>some (.ob (!(a==b)))
 |_,_=>none
section
variable{P:Program}(T:Tbl P)
def c3h(t:TypeId)(cs:List (AV T.ty)):Option (AV T.ty):=
 match T.agg t with
 |some false=>cs.head?
 |some true=>match T.size t with
  |some m=>match d1n m cs with
   |some r=>some (.agg r)
   |none=>none
  |none=>none
 |none=>none
inductive Ld where
 |all
 |mix
 |kept
def bxA{ty:Nat->Type}(ld:Ld):Option (AO ty)->Option (List (AV ty))
 |some (.box _ cs)=>match ld with
  | .all=>some cs
  |_=>none
 |some (.kbox _ _ cs)=>some cs
 |_=>none
def e8q{ty:Nat->Type}(ld:Ld):Option (AO ty)->Bool
 |some (.row _ _ _ _)=>match ld with
  | .all=>true
  |_=>false
 |some (.krow _ _ _ _ _)=>true
 |_=>false
def d9d{ty:Nat->Type}:Option (AO ty)->Option Nat |some (.row _ _ _ xs)=>some xs.length |some (.krow _ _ _ _ xs)=>some xs.length |_=>none
def b9z(ld:Ld)(env:AE T.ty)(H:List (AO T.ty)):Op->Option (AV T.ty)
 | .move x=>opA env x
 | .assign x=>opA env x
 | .pick c a b=>match opA env c with
   |some x=>match litOf x with
    |some true=>opA env a
    |some false=>opA env b
    |none=>none
   |none=>none
 | .binOp op t x y _=>match opA env x,opA env y with
   |some (.int k a),some (.int k' b)=>match decide (k'=k)with
    |true=>intA op k a b
    |false=>none
   |some (.str a),some (.str b)=>strA op a b
   |some x,some y=>match d1p x,d1p y with
    |some a,some b=>f3n (T.und t) op a b
    |_,_=>none
   |_,_=>none
 | .unOp op _ x=>match op,opA env x with
   | .not,some (.bool b)=>some (.bool (!b))
   | .not,some (.ob b)=>some (.ob (!b))
   | .not,some (.lb c _)=>some (.bool (!c))
   | .neg,some (.int k m)=>some (.int k (k.wrap (0-m)))
   |_,_=>none
 | .convert s t x=>match opA env x,T.und s,T.und t with
   |some (.int _ m),some _,some (.int j)=>some (.int j (j.wrap m))
   |_,_,_=>none
 | .extract x i=>match opA env x with
   |some (.tup l)=>l[i]?
   |_=>none
 | .fieldAddr t x j=>match T.fld t j,opA env x with
   |some o,some (.bx i p)=>some (.bx i (p+o))
   |some o,some (.el c y p)=>some (.el c y (p+o))
   |some o,some (.rel i c y k p)=>some (.rel i c y k (p+o))
   |some o,some (.fb l p)=>some (.fb l (p+o))
   |_,_=>none
 | .field t x j=>match T.fel t j,opA env x with
   |some (e,o),some (.agg l)=>c3h T e (l.drop o)
   |_,_=>none
 | .load t x=>match opA env x with
   |some (.bx i o)=>match bxA ld H[i]? with
    |some cs=>c3h T t (cs.drop o)
    |none=>none
   |some (.el c y o)=>match ld with
    | .kept=>none
    |_=>c3h T t ((T.en c y).drop o)
   |some (.rel i c y _ o)=>match e8q ld H[i]? with
    |true=>c3h T t ((T.en c y).drop o)
    |false=>none
   |some (.fb l o)=>match ld with
    | .kept=>none
    |_=>c3h T t (l.drop o)
   |_=>none
 | .nilCheck x=>match opA env x with
   |some (.bx i o)=>some (.bx i o)
   |some (.el c y o)=>some (.el c y o)
   |some (.rel i c y k o)=>some (.rel i c y k o)
   |some (.fb l o)=>some (.fb l o)
   |_=>none
 | .makeFunc (.func f) tys caps=>match tys.toList,opL env caps.toList with
   | [],some l=>some (.clo f l)
   |_,_=>none
 | .indexAddr t x y=>match opA env x with
   |some (.sb i _ k)=>match opA env y,T.und t with
    |some (.int _ (.ofNat j)),some (.slice el)=>match T.size el,Nat.blt j k with
     |some q,true=>some (.bx i (j*q))
     |_,_=>none
    |_,_=>none
   |_=>none
 | .call ⟨.builtin .len,args,ts⟩=>match args.toList,ts.toList with
   | [x],[t]=>match opA env x,T.und t with
     |some (.str l),some .string=>some (.int .i64 l.length)
     |some (.sl _ xs),some (.slice _)=>some (.int .i64 xs.length)
     |some (.row i),some (.slice _)=>match d9d H[i]? with
      |some k=>some (.int .i64 k)
      |none=>none
     |some (.val (.slice none 0 0)),some (.slice _)=>some (.int .i64 0)
     |some (.sb _ _ k),some (.slice _)=>some (.int .i64 k)
     |_,_=>none
   |_,_=>none
 | .call ⟨.builtin .min,args,_⟩=>match args.toList with
   | [x,y]=>match opA env x,opA env y with
     |some (.int k a),some (.int k' b)=>match decide (k'=k)with
      |true=>some (.int k (imin a b))
      |false=>none
     |_,_=>none
   |_=>none
 | .call ⟨.builtin .max,args,_⟩=>match args.toList with
   | [x,y]=>match opA env x,opA env y with
     |some (.int k a),some (.int k' b)=>match decide (k'=k)with
      |true=>some (.int k (imax a b))
      |false=>none
     |_,_=>none
   |_=>none
 |_=>none
end
section
variable{P:Program}{T:Tbl P}{R:List OE}{F:Frz}{env:AE T.ty}{menv:Env}{H:List (AO T.ty)}
def c6b(P:Program)(W:World->Prop)(menv:Env)(o:Oper)(v:Value):Prop:= ∀(w:World),W w->∀(n:Nat)(a:Act),Has n a menv->(execOp a.eval o).run P w= .ok (.value v) w
def AO.isK{ty:Nat->Type}:AO ty->Bool | .kbox _ _ _=>true | .krow _ _ _ _ _=>true |_=>false
structure WOk{ty:Nat->Type}(ld:Ld)(H:List (AO ty))(R:List OE)(F:Frz)(W:World->Prop):Prop where
 own:ld= .all->∀w,W w->∀(i:Nat)e,R[i]?=some e->e.ok w
 kept:∀w,W w->∀(i:Nat)o e,H[i]?=some o->o.isK=true->R[i]?=some e->e.ok w
 fz:ld≠ .kept->∀w,W w->∃F',F.le F'/\Sat F' w
theorem f4n{ty:Nat->Type}{rp:∀c,Rp (ty c)}{K:Snap}{R:List OE}{F:Frz}{W:World->Prop}{ld:Ld}{H:List (AO ty)}{i:Nat}{cs:List (AV ty)}(h:bxA ld H[i]?=some cs)(hH:RelH rp K R F H R)(hW:WOk ld H R F W):
 ∃b t us,R[i]?=some (.box b t us)/\ConcL rp R F cs us/\∀w,W w->(OE.box b t us).ok w:=by
 unfold bxA at h;split at h
 ·rename_i t cs' hi;split at h
  ·cases h;obtain⟨e,h1,b,us,rfl,h2⟩:=hH.2 i _ hi;exact⟨b,t,us,h1,h2,fun w hw=>hW.own rfl w hw i _ h1⟩
  cases h
 ·rename_i t cs' hi;cases h;obtain⟨e,h1,h0,b,us,rfl,h2⟩:=hH.2 i _ hi;exact⟨b,_,us,h1,h2,fun w hw=>hW.kept w hw i _ _ hi rfl h1⟩
 cases h
theorem d8y{w:World}{b:Nat}{t:TypeId}{cs:List Value}(h:(OE.box b t cs).ok w){j:Nat}{v:Value}(hj:cs[j]?=some v):w.cell? ⟨b,j,none⟩=some v:=by
 have h1:w.heap[b]?=some (.cells cs.toArray t (0,0)):=h;simp [World.cell?,h1,hj]
theorem e4l{ty:Nat->Type}{R:List OE}{F:Frz}{W:World->Prop}{ld:Ld}{H:List (AO ty)}{i:Nat}(h:e8q ld H[i]?=true)(hW:WOk ld H R F W){e:OE}(hR:R[i]?=some e):∀w,W w->e.ok w:=by
 unfold e8q at h;split at h
 ·split at h
  ·exact fun w hw=>hW.own rfl w hw i _ hR
  cases h
 ·rename_i hi;exact fun w hw=>hW.kept w hw i _ _ hi rfl hR
 cases h
theorem e2g{ty:Nat->Type}{rp:∀c,Rp (ty c)}{K:Snap}{R:List OE}{F:Frz}{H:List (AO ty)}{i k:Nat}(h:d9d H[i]?=some k)(hH:RelH rp K R F H R){e q:Nat}{a:Option Addr}{m n:Nat}{us:List Value}(hR:R[i]?=some (.row e q a m n us)):m=k:=by
 unfold d9d at h;split at h
 ·rename_i hi;cases h;obtain⟨en,h1,a',m',n',us',rfl,h2⟩:=hH.2 i _ hi;rw [hR]at h1;cases h1;exact h2.len.symm
 ·rename_i hi;cases h;obtain⟨en,h1,h0,a',m',n',us',rfl,h2⟩:=hH.2 i _ hi;rw [hR]at h1;cases h1;exact h2.len.symm
 cases h
variable{K:Snap}{ld:Ld}{W:World->Prop}
variable{dst:Option Tmp}{type:TypeId}{pos:String}{after:Array Edge}{guard:Option (Nat×Bool)}
theorem f3g(hE:ConcE T.rp R F env menv){op:BinOp}{t t':TypeId}{x y:Operand}{r:AV T.ty}(he:b9z T ld env H (.binOp op t x y t')=some r):∃v,Conc T.rp R F r v/\c6b P W menv ⟨dst,.binOp op t x y t',type,pos,after,guard⟩ v:=by
 simp only [b9z]at he;split at he
 ·rename_i k a k' b hx hy;obtain⟨u,hx1,hx2⟩:=a0r hE hx;obtain⟨z,hy1,hy2⟩:=a0r hE hy;simp only [Conc]at hx2 hy2;subst hx2;subst hy2;split at he
  ·rename_i hk;have hk:=of_decide_eq_true hk;subst hk;have:∃v,d6l op k' a b=some v/\Conc T.rp R F r v:=by
    cases op<;>simp only [intA,Option.some.injEq,reduceCtorEq]at he<;>subst he<;>exact⟨_,rfl,rfl⟩
   obtain⟨v,h1,h2⟩:=this;exact⟨v,h2,fun w _ _ _ ha=>by simp [execOp,ha.op hx1,ha.op hy1,a2w,c8h h1]⟩
  cases he
 ·rename_i a b hx hy;obtain⟨u,hx1,hx2⟩:=a0r hE hx;obtain⟨z,hy1,hy2⟩:=a0r hE hy;simp only [Conc]at hx2 hy2;subst hx2;subst hy2;have:∃v,d1d op a b=some v/\Conc T.rp R F r v:=by
   cases op<;>simp only [strA,Option.some.injEq,reduceCtorEq]at he<;>subst he<;>exact⟨_,rfl,rfl⟩
  obtain⟨v,h1,h2⟩:=this;refine⟨v,h2,fun w _ _ _ ha=> ?_⟩;have e:(eqGuard op t x y (vs a) (vs b)).run P w= .ok () w:=b1y;simp [execOp,ha.op hx1,ha.op hy1,e,c2i h1]
 ·rename_i x0 y0 _ _ hx hy;obtain⟨u,hx1,hx2⟩:=a0r hE hx;obtain⟨z,hy1,hy2⟩:=a0r hE hy;split at he
  ·rename_i a b ea eb;have hx2:=c5d ea hx2;have hy2:=c5d eb hy2;subst hx2;subst hy2;unfold f3n at he;split at he
   ·rename_i hu;cases he;refine⟨_,rfl,fun w _ _ _ ha=> ?_⟩;have e:=run_equal_bool (P:=P) w t a b (T.undOk hu);simp [execOp,ha.op hx1,ha.op hy1,b5v,binOp,e]
   ·rename_i hu;cases he;refine⟨_,rfl,fun w _ _ _ ha=> ?_⟩;have e:=run_equal_bool (P:=P) w t a b (T.undOk hu);simp [execOp,ha.op hx1,ha.op hy1,b5v,binOp,e]
   cases he
  cases he
 cases he
theorem c9f{t:TypeId}{cs:List (AV T.ty)}{r:AV T.ty}(h:c3h T t cs=some r){us:List Value}(hc:ConcL T.rp R F cs us){b o:Nat}{x:Operand}(hx:opv menv x=some (.pointer (some ⟨b,o,none⟩)))
 (hw:∀w,W w->∀j v,us[j]?=some v->w.cell? ⟨b,o+j,none⟩=some v):∃v,Conc T.rp R F r v/\c6b P W menv ⟨dst,.load t x,type,pos,after,guard⟩ v:=by
 unfold c3h at h;split at h
 ·rename_i hA;have hA:=T.aggOk hA;obtain⟨v,h1,h2⟩:=hc.get (j:=0) (x:=r) (by rw [<-h];exact(List.head?_eq_getElem? ..).symm);refine⟨v,h2,fun w hs n a ha=> ?_⟩;have h3:=hw w hs 0 v h1;simp [execOp,Instr.loadAt,Instr.sureAddr,ha.op hx,loadVar,hA w,show w.cell? ⟨b,o,none⟩=some v from h3]
 ·rename_i hA;have hA:=T.aggOk hA;split at h
  ·rename_i m hS;have hS:=T.sizeOk hS;split at h
   ·rename_i l hl;cases h;obtain⟨e1,e2⟩:=b7v hl;have h4:=ConcL.take m hc;rw [e1]at h4;have h5:(us.take m).length=m:=by rw [h4.len,e2]
    refine⟨_,⟨us.take m,rfl,h4⟩,fun w hs n a ha=> ?_⟩;have e:=run_loadCells_list (P:=P) w ⟨b,o,none⟩ (us.take m) (fun j v hj=>by
     rw [a8d];refine hw w hs j v ?_;rw [List.getElem?_take]at hj;split at hj
     ·exact hj
     cases hj)
    rw [h5]at e;simp [execOp,Instr.loadAt,Instr.sureAddr,ha.op hx,loadVar,hA w,hS w,e]
   cases h
  cases h
 cases h
theorem e5p{t:TypeId}{j:Nat}{e:TypeId}{o:Nat}{l:List (AV T.ty)}{r:AV T.ty}(hf:T.fel t j=some (e,o))(h:c3h T e (l.drop o)=some r){cs:List Value}(hc:ConcL T.rp R F l cs):∃v,Conc T.rp R F r v/\∀w,(Instr.field t (.agg cs.toArray) j).run P w= .ok v w:=by
 have hf:=T.felOk hf;unfold feld at hf;split at hf
 ·rename_i fs hu;obtain⟨f,h1,h2⟩:=Option.map_eq_some_iff.1 hf;cases h2;have hc:=ConcL.drop f.offset hc;unfold c3h at h;split at h
  ·rename_i hA;have hA:=T.aggOk hA;obtain⟨v,g1,g2⟩:=hc.get (j:=0) (x:=r) (by rw [<-h];exact(List.head?_eq_getElem? ..).symm);rw [List.getElem?_drop]at g1;exact⟨v,g2,fun w=>by simp [Instr.field,underlying,hu,h1,asAgg,part,hA w,show cs[f.offset]?=some v from g1]⟩
  ·rename_i hA;have hA:=T.aggOk hA;split at h
   ·rename_i m hS;have hS:=T.sizeOk hS;split at h
    ·rename_i l' hl;cases h;obtain⟨e1,e2⟩:=b7v hl;have h4:=ConcL.take m hc;rw [e1]at h4;refine⟨_,⟨_,rfl,h4⟩,fun w=> ?_⟩;simp [Instr.field,underlying,hu,h1,asAgg,part,hA w,hS w,List.drop_take]
    cases h
   cases h
  cases h
 cases hf
theorem e3j(hE:ConcE T.rp R F env menv)(hH:RelH T.rp K R F H R)(hW:WOk ld H R F W):∀{op:Op}{r:AV T.ty},b9z T ld env H op=some r->∃v,Conc T.rp R F r v/\c6b P W menv ⟨dst,op,type,pos,after,guard⟩ v:=by
 intro op r he;unfold b9z at he;split at he
 ·obtain⟨u,h1,h2⟩:=a0r hE he;exact⟨u,h2,fun w _ _ _ ha=>by simp [execOp,ha.op h1]⟩
 ·obtain⟨u,h1,h2⟩:=a0r hE he;exact⟨u,h2,fun w _ _ _ ha=>by simp [execOp,ha.op h1]⟩
 ·split at he
  ·rename_i hc;obtain⟨z,h3,h4⟩:=a0r hE hc;split at he
   ·rename_i hl;obtain⟨u,h1,h2⟩:=a0r hE he;have h4:=b7u hl h4;subst h4;exact⟨u,h2,fun w _ _ _ ha=>by simp [execOp,ha.op h1,ha.op h3,asBool]⟩
   ·rename_i hl;obtain⟨u,h1,h2⟩:=a0r hE he;have h4:=b7u hl h4;subst h4;exact⟨u,h2,fun w _ _ _ ha=>by simp [execOp,ha.op h1,ha.op h3,asBool]⟩
   cases he
  cases he
 ·exact f3g (H:=H) (ld:=ld) hE (by simpa only [b9z]using he)
 ·split at he
  ·rename_i hx;cases he;obtain⟨u,h1,h2⟩:=a0r hE hx;simp only [Conc]at h2;subst h2;exact⟨_,rfl,fun w _ _ _ ha=>by simp [execOp,ha.op h1,Op.unary]⟩
  ·rename_i hx;cases he;obtain⟨u,h1,h2⟩:=a0r hE hx;simp only [Conc]at h2;subst h2;exact⟨_,rfl,fun w _ _ _ ha=>by simp [execOp,ha.op h1,Op.unary]⟩
  ·rename_i hx;cases he;obtain⟨u,h1,h2⟩:=a0r hE hx;simp only [Conc]at h2;rw [h2.1]at h1;exact⟨_,rfl,fun w _ _ _ ha=>by simp [execOp,ha.op h1,Op.unary]⟩
  ·rename_i hx;cases he;obtain⟨u,h1,h2⟩:=a0r hE hx;simp only [Conc]at h2;subst h2;exact⟨_,rfl,fun w _ _ _ ha=>by simp [execOp,ha.op h1,Op.unary,Op.intArith]⟩
  cases he
 ·split at he
  ·rename_i hx hs ht;cases he;obtain⟨u,h1,h2⟩:=a0r hE hx;simp only [Conc]at h2;subst h2;exact⟨_,rfl,fun w _ _ _ ha=>by simp [execOp,ha.op h1,convert,underlying,T.undOk hs,T.undOk ht,Conv.intToInt]⟩
  cases he
 ·split at he
  ·rename_i hx;obtain⟨u,h1,cs,h2,h3⟩:=a0r hE hx;subst h2;obtain⟨v,h4,h5⟩:=h3.get he;exact⟨v,h5,fun w _ _ _ ha=>by simp [execOp,ha.op h1,Instr.extract,h4]⟩
  cases he
 ·split at he
  ·rename_i hf hx;cases he;obtain⟨u,h1,b,t',cs,h2,h3⟩:=a0r hE hx;subst h3;exact⟨_,⟨b,t',cs,h2,rfl⟩,fun w _ _ _ ha=>by simp [execOp,ha.op h1,T.fldOk hf b _ w]⟩
  ·rename_i hf hx;cases he;obtain⟨u,h1,b,p,cs,h2,h3,h4⟩:=a0r hE hx;subst h4;exact⟨_,⟨b,p,cs,h2,h3,rfl⟩,fun w _ _ _ ha=>by simp [execOp,ha.op h1,T.fldOk hf b _ w,Nat.add_assoc]⟩
  ·rename_i hf hx;cases he;obtain⟨u,h1,e,b,m,k,us,cs,h2,h3,h4,h5⟩:=a0r hE hx;subst h5;exact⟨_,⟨e,b,m,k,us,cs,h2,h3,h4,rfl⟩,fun w _ _ _ ha=>by simp [execOp,ha.op h1,T.fldOk hf b _ w,Nat.add_assoc]⟩
  ·rename_i hf hx;cases he;obtain⟨u,h1,b,cs,h2,h3⟩:=a0r hE hx;subst h2;exact⟨_,⟨b,cs,rfl,h3⟩,fun w _ _ _ ha=>by simp [execOp,ha.op h1,T.fldOk hf b _ w]⟩
  cases he
 ·split at he
  ·rename_i hf hx;obtain⟨u,h1,cs,h2,h3⟩:=a0r hE hx;subst h2;obtain⟨v,h4,h5⟩:=e5p hf he h3;exact⟨v,h4,fun w _ _ _ ha=>by simp [execOp,ha.op h1,h5 w]⟩
  cases he
 ·split at he
  ·rename_i i o hx;split at he
   ·rename_i cs hi;obtain⟨u,h1,b,t2,us0,h2,h3⟩:=a0r hE hx;subst h3;obtain⟨b2,t3,us,h4,h6,h7⟩:=f4n hi hH hW;rw [h2]at h4;cases h4;refine c9f he (ConcL.drop o h6) h1 fun w hs j v hj=> ?_;rw [List.getElem?_drop]at hj;exact d8y (h7 w hs) hj
   cases he
  ·rename_i c y o hx;split at he
   ·cases he
   rename_i hld;obtain⟨u,h1,b,p,cs,h2,h3,h4⟩:=a0r hE hx;subst h4;refine c9f he (ConcL.drop o (T.enOk R h3)) h1 fun w hs j v hj=> ?_;rw [List.getElem?_drop]at hj;rw [Nat.add_assoc];obtain⟨F',hl,hs⟩:=hW.fz (fun e=>hld e) w hs;exact(h2.mono hl).cell hs hj
  ·rename_i i c y k o hx;split at he
   ·rename_i hr;obtain⟨u,h1,e,b,m,n,us,cs,h2,⟨ys,h3⟩,h4,h5⟩:=a0r hE hx;subst h5;refine c9f he (ConcL.drop o (T.enOk R h4)) h1 fun w hs j v hj=> ?_;rw [List.getElem?_drop]at hj;have h6:=World.ownsRow.cells (e4l hr hW h2 w hs) (g:=b) rfl (k*(T.rp c).k+(o+j)) v;have h7:us[k*(T.rp c).k+(o+j)]?=some v:=by
     have:(us.drop (k*(T.rp c).k))[o+j]?=some v:=by rw [<-h3,List.getElem?_append_left (List.getElem?_eq_some_iff.1 hj).1];exact hj
     rwa [List.getElem?_drop]at this
    have h8:=h6 h7;rw [a8d]at h8;rw [Nat.add_assoc];simpa using h8
   cases he
  ·rename_i l o hx;split at he
   ·cases he
   rename_i hld;obtain⟨u,h1,b,cs,h2,h3,h4⟩:=a0r hE hx;subst h2;refine c9f he (ConcL.drop o h4) h1 fun w hs j v hj=> ?_;rw [List.getElem?_drop]at hj;obtain⟨F',hl,hs⟩:=hW.fz (fun e=>hld e) w hs;have h5:=(h3.mono hl).cell hs hj
   rwa [Nat.zero_add]at h5
  cases he
 ·split at he
  ·rename_i hx;cases he;obtain⟨u,h1,b,t',cs,h2,h3⟩:=a0r hE hx;subst h3;exact⟨_,⟨b,t',cs,h2,rfl⟩,fun w _ _ _ ha=>by simp [execOp,ha.op h1]⟩
  ·rename_i hx;cases he;obtain⟨u,h1,b,p,cs,h2,h3,h4⟩:=a0r hE hx;subst h4;exact⟨_,⟨b,p,cs,h2,h3,rfl⟩,fun w _ _ _ ha=>by simp [execOp,ha.op h1]⟩
  ·rename_i hx;cases he;obtain⟨u,h1,e,b,m,k,us,cs,h2,h3,h4,h5⟩:=a0r hE hx;subst h5;exact⟨_,⟨e,b,m,k,us,cs,h2,h3,h4,rfl⟩,fun w _ _ _ ha=>by simp [execOp,ha.op h1]⟩
  ·rename_i hx;cases he;obtain⟨u,h1,b,cs,h2,h3⟩:=a0r hE hx;subst h2;exact⟨_,⟨b,cs,rfl,h3⟩,fun w _ _ _ ha=>by simp [execOp,ha.op h1]⟩
  cases he
 ·rename_i f tys caps;split at he
  ·rename_i l ht hl;cases he;obtain⟨us,h1,h2⟩:=d4z hE hl;have ht:tys= #[]:=Array.toList_eq_nil_iff.1 ht;subst ht;obtain⟨caps⟩:=caps;exact⟨.func (.func f) #[] us.toArray,⟨us,rfl,h2⟩,fun w _ _ _ ha=>by simp [execOp,Instr.makeFunc,ha.opvs h1]⟩
  cases he
 ·split at he
  ·rename_i i c k hx;split at he
   ·rename_i ik j el hy hu;split at he
    ·rename_i q hS hlt;cases he;obtain⟨u,h1,b,t2,cs,h2,h3⟩:=a0r hE hx;obtain⟨y',h4,h5⟩:=a0r hE hy;simp only [Conc]at h5;subst h3;subst h5;have hlt:j<k:=by simpa using hlt
     refine⟨_,⟨b,t2,cs,h2,rfl⟩,fun w _ _ _ ha=> ?_⟩;have h6:=a9c (P:=P) (w:=w) (T.undOk hu) (T.sizeOk hS) (b:=b) (o:=0) (m:=k) (c:=k) (ik:=ik) (i:=(j:Int)) (Int.natCast_nonneg j) (Int.ofNat_lt.2 hlt);simp only [Int.toNat_natCast,Nat.zero_add]at h6;simp [execOp,ha.op h1,ha.op h4,h6]
    cases he
   cases he
  cases he
 ·rename_i args ts;split at he
  ·rename_i x t ea et;obtain⟨args⟩:=args;obtain⟨ts⟩:=ts;simp only at ea et;subst ea;subst et;split at he
   ·rename_i l hx hu;cases he;obtain⟨u,h1,h2⟩:=a0r hE hx;simp only [Conc]at h2;subst h2;refine⟨_,rfl,fun w _ _ _ ha=> ?_⟩;have:=d5f (P:=P) (ty:=type) (w:=w) (T.undOk hu) l;simp [execOp,resolve,invoke,builtin,ha.op h1,this]
   ·rename_i c xs e hx hu;cases he;obtain⟨u,h1,a',m,n,h2,h3⟩:=a0r hE hx;subst h2;refine⟨_,rfl,fun w _ _ _ ha=> ?_⟩;simp [execOp,resolve,invoke,builtin,ha.op h1,Builtin.len_,underlying,T.undOk hu,goInt,h3.len]
   ·rename_i i e hx hu;split at he
    ·rename_i kk hi;cases he;obtain⟨u,h1,e2,q2,a',m,n,us,h2,h3⟩:=a0r hE hx;subst h3;obtain rfl:=e2g hi hH h2;refine⟨_,rfl,fun w _ _ _ ha=> ?_⟩;simp [execOp,resolve,invoke,builtin,ha.op h1,Builtin.len_,underlying,T.undOk hu,goInt]
    cases he
   ·rename_i e hx hu;cases he;obtain⟨u,h1,h2⟩:=a0r hE hx;simp only [Conc]at h2;subst h2;refine⟨_,rfl,fun w _ _ _ ha=> ?_⟩;simp [execOp,resolve,invoke,builtin,ha.op h1,Builtin.len_,underlying,T.undOk hu,goInt]
   ·rename_i i c k e hx hu;cases he;obtain⟨u,h1,b,t2,cs,h2,h3⟩:=a0r hE hx;subst h3;refine⟨_,rfl,fun w _ _ _ ha=> ?_⟩;simp [execOp,resolve,invoke,builtin,ha.op h1,Builtin.len_,underlying,T.undOk hu,goInt]
   cases he
  cases he
 ·rename_i args ts;split at he
  ·rename_i x y ea;obtain⟨args⟩:=args;simp only at ea;subst ea;split at he
   ·rename_i k p k' q hx hy;obtain⟨u,h1,h2⟩:=a0r hE hx;obtain⟨z,h3,h4⟩:=a0r hE hy;simp only [Conc]at h2 h4;subst h2;subst h4;split at he
    ·rename_i hk;have hk:=of_decide_eq_true hk;subst hk;cases he;exact⟨_,rfl,fun w _ _ _ ha=>by simp [execOp,resolve,invoke,builtin,ha.op h1,ha.op h3,Builtin.min_,Builtin.min2,imin]⟩
    cases he
   cases he
  cases he
 ·rename_i args ts;split at he
  ·rename_i x y ea;obtain⟨args⟩:=args;simp only at ea;subst ea;split at he
   ·rename_i k p k' q hx hy;obtain⟨u,h1,h2⟩:=a0r hE hx;obtain⟨z,h3,h4⟩:=a0r hE hy;simp only [Conc]at h2 h4;subst h2;subst h4;split at he
    ·rename_i hk;have hk:=of_decide_eq_true hk;subst hk;cases he;exact⟨_,rfl,fun w _ _ _ ha=>by simp [execOp,resolve,invoke,builtin,ha.op h1,ha.op h3,Builtin.max_,Builtin.max2,imax]⟩
    cases he
   cases he
  cases he
 cases he
theorem c7x(hE:ConcE T.rp R F env menv)(hH:RelH T.rp K R F H R)(hW:WOk ld H R F W){o:Oper}{r:AV T.ty}(h:b9z T ld env H o.op=some r):∃v,Conc T.rp R F r v/\c6b P W menv o v:=
 e3j (dst:=o.dst) (type:=o.type) (pos:=o.pos) (after:=o.after) (guard:=o.guard) hE hH hW h
end
set_option linter.unusedVariables false
set_option linter.unusedSimpArgs false
def setA{α:Type}:Nat->List α->List α->Option (List α)
 |0,[],cs=>some cs
 |0,v::l,_::cs=>match setA 0 l cs with
  |some r=>some (v::r)
  |none=>none
 |o+1,l,c::cs=>match setA o l cs with
  |some r=>some (c::r)
  |none=>none
 |_,_,[]=>none
theorem c5m{α:Type}:∀{o:Nat}{l cs r:List α},setA o l cs=some r->o+l.length<=cs.length/\r=cs.take o++l++cs.drop (o+l.length)
 |0,[],cs,r,h=>by simp only [setA,Option.some.injEq]at h;subst h;simp
 |0,v::l,[],r,h=>by simp [setA]at h
 |0,v::l,c::cs,r,h=>by
  simp only [setA]at h;split at h
  ·rename_i r' h';cases h;obtain⟨h1,h2⟩:=c5m h';subst h2;simp only [List.length_cons,Nat.zero_add]at h1⊢;exact⟨by omega,by simp⟩
  cases h
 |o+1,l,[],r,h=>by cases l<;>simp [setA]at h
 |o+1,l,c::cs,r,h=>by
  cases hl:setA o l cs with
  |none=>cases l<;>simp [setA,hl]at h
  |some r'=>
   have h:r=c::r':=by cases l<;>simpa [setA,hl,eq_comm]using h
   obtain⟨h1,h2⟩:=c5m hl;subst h;subst h2;refine⟨by simp only [List.length_cons];omega,?_⟩;rw [show o+1+l.length=(o+l.length)+1 by omega];simp
def putA{α:Type}:Nat->α->List α->Option (List α)
 |0,v,_::l=>some (v::l)
 |i+1,v,x::l=>match putA i v l with
  |some r=>some (x::r)
  |none=>none
 |_,_,[]=>none
theorem b9n{α:Type}:∀{i:Nat}{v:α}{l r:List α},putA i v l=some r->r=l.set i v
 |0,v,[],r,h=>by simp [putA]at h
 |0,v,x::l,r,h=>by simp only [putA,Option.some.injEq]at h;subst h;rfl
 |i+1,v,[],r,h=>by simp [putA]at h
 |i+1,v,x::l,r,h=>by
  simp only [putA]at h;split at h
  ·rename_i r' h';cases h;rw [b9n h'];rfl
  cases h
def snoc{α:Type}(v:α):List α->List α | []=> [v] |x::l=>x::snoc v l
theorem b3m{α:Type}(v:α):∀l:List α,snoc v l=l++ [v]
 | []=>rfl
 |x::l=>by rw [snoc,b3m v l];rfl
def oneA{ty:Nat->Type}:AV ty->Bool | .agg _=>false | .tup _=>false | .any=>false | .val u=>u.oneCell' |_=>true
def d6p{ty:Nat->Type}:List (AV ty)->Bool
 | []=>true
 |x::l=>match oneA x with
  |true=>d6p l
  |false=>false
def c7v{ty:Nat->Type}:AV ty->Option (List (AV ty))
 | .agg l=>match d6p l with
   |true=>some l
   |false=>none
 |x=>match oneA x with
  |true=>some [x]
  |false=>none
theorem e2p{ty:Nat->Type}{rp:∀c,Rp (ty c)}{R:List OE}{F:Frz}{x:AV ty}{v:Value}(h:oneA x=true)(hc:Conc rp R F x v):v.oneCell'=true/\v.cells= #[v]:=by
 cases x<;>simp only [oneA,reduceCtorEq]at h<;>simp only [Conc]at hc
 case int=>subst hc;exact⟨rfl,rfl⟩
 case bool=>subst hc;exact⟨rfl,rfl⟩
 case ob=>subst hc;exact⟨rfl,rfl⟩
 case lb=>rw [hc.1];exact⟨rfl,rfl⟩
 case str=>subst hc;exact⟨rfl,rfl⟩
 case val u=>subst hc;exact⟨h,by cases v<;>first|rfl|cases h⟩
 case sl=>obtain⟨a,m,n,rfl,_⟩:=hc;exact⟨rfl,rfl⟩
 case bx=>obtain⟨b,t,cs,_,rfl⟩:=hc;exact⟨rfl,rfl⟩
 case el=>obtain⟨b,p,cs,_,_,rfl⟩:=hc;exact⟨rfl,rfl⟩
 case row=>obtain⟨e,q,a,m,n,xs,_,rfl⟩:=hc;exact⟨rfl,rfl⟩
 case rel=>obtain⟨e,b,m,n,us,cs,_,_,_,rfl⟩:=hc;exact⟨rfl,rfl⟩
 case clo=>obtain⟨cs,rfl,_⟩:=hc;exact⟨rfl,rfl⟩
 case fb=>obtain⟨b,cs,rfl,_⟩:=hc;exact⟨rfl,rfl⟩
 case sb=>obtain⟨b,t,cs,_,rfl⟩:=hc;exact⟨rfl,rfl⟩
 case rw=>obtain⟨e,q,b,m,n,xs,_,_,_,_,rfl⟩:=hc;exact⟨rfl,rfl⟩
theorem d1k{ty:Nat->Type}{rp:∀c,Rp (ty c)}{R:List OE}{F:Frz}:∀{l:List (AV ty)}{cs:List Value},d6p l=true->ConcL rp R F l cs->∀u∈cs,u.oneCell'=true
 | [],_,_,h=>by simp only [ConcL]at h;subst h;simp
 |x::l,_,h,⟨v,k,h1,h2,h3⟩=>by
  subst h1;simp only [d6p]at h;split at h
  ·rename_i hx;intro u hu;rcases List.mem_cons.1 hu with rfl|hu
   ·exact(e2p hx h2).1
   exact d1k h h3 u hu
  cases h
theorem c0s{ty:Nat->Type}{rp:∀c,Rp (ty c)}{R:List OE}{F:Frz}{x:AV ty}{l:List (AV ty)}{v:Value}(h:c7v x=some l)(hc:Conc rp R F x v):ConcL rp R F l v.cells.toList/\∀u∈v.cells.toList,u.oneCell'=true:=by
 unfold c7v at h;split at h
 ·split at h
  ·rename_i ha;cases h;obtain⟨cs,rfl,h2⟩:=hc;exact⟨by simpa [Value.cells]using h2,by simpa [Value.cells]using d1k ha h2⟩
  cases h
 split at h
 ·rename_i ha;cases h;obtain⟨h1,h2⟩:=e2p ha hc;rw [h2];exact⟨⟨v,[],rfl,hc,rfl⟩,by simpa using h1⟩
 cases h
theorem fold_set:∀(l:List Value)(k off:Nat)(cells:Array Value),off+k+l.length<=cells.size->
 ((l.zipIdx k).foldl (fun cs(p:Value×Nat)=>cs.setIfInBounds (off+p.2) p.1) cells).toList=cells.toList.take (off+k)++l++cells.toList.drop (off+k+l.length)
 | [],k,off,cells,_=>by simp
 |v::l,k,off,cells,h=>by
  simp only [List.length_cons]at h;rw [List.zipIdx_cons,List.foldl_cons,fold_set l (k+1) off _ (by simp only [Array.size_setIfInBounds];omega)];have hlt:off+k<cells.toList.length:=by simp only [Array.length_toList];omega
  simp only [Array.toList_setIfInBounds];rw [show off+(k+1)=off+k+1 by omega,List.take_add_one,List.take_set_of_le (Nat.le_refl _),List.getElem?_set_self hlt,List.drop_set_of_lt (by omega)];simp only [Option.toList,List.append_assoc,List.length_cons];rw [show off+k+1+l.length=off+k+(l.length+1) by omega];rfl
theorem e6k{place:Nat->Option (Nat×Nat)}{cells:Array Value}{i off:Nat}{v:Value}{rest:List (Nat×Value)}(hp:place i=some (off,v.cells.size))(hs:off+v.cells.size<=cells.size):
 Instr.fill place cells ((i,v)::rest)=Instr.fill place (cells.toList.take off++v.cells.toList++cells.toList.drop (off+v.cells.size)).toArray rest:=by
 have h:=fold_set v.cells.toList 0 off cells (by simpa using hs);rw [Instr.fill];simp only [hp];rw [if_neg (by simp;omega)]
 congr 1
 apply Array.ext';rw [<-Array.foldl_toList,Array.toList_zipIdx];simpa using h
section
variable{P:Program}(T:Tbl P)
def bldA(pl:Nat->Option (Nat×Nat))(e:AE T.ty):List (Nat×Operand)->List (AV T.ty)->Option (List (AV T.ty))
 | [],cs=>some cs
 |p::r,cs=>match pl p.1,opA e p.2 with
  |some (off,sz),some y=>match c7v y with
   |some l=>match Nat.beq l.length sz,setA off l cs with
    |true,some cs'=>bldA pl e r cs'
    |_,_=>none
   |none=>none
  |_,_=>none
def anys{ty:Nat->Type}:Nat->List (AV ty) |0=> [] |k+1=> .any::anys k
def decL(c q:Nat):Nat->List (AV T.ty)->Option (List (T.ty c))
 |0,[]=>some []
 |0,_::_=>none
 |m+1,cs=>match d1n q cs with
  |some l=>match T.dec c l with
   |some x=>match decL c q m (cs.drop q)with
    |some r=>some (x::r)
    |none=>none
   |none=>none
  |none=>none
end
section
variable{P:Program}{T:Tbl P}{R:List OE}{F:Frz}{e:AE T.ty}{m:Env}
theorem c4m(hE:ConcE T.rp R F e m){pl:Nat->Option (Nat×Nat)}:∀{ps:List (Nat×Operand)}{cs cs':List (AV T.ty)}{us:List Value},bldA T pl e ps cs=some cs'->ConcL T.rp R F cs us->
 ∃vl us',opvp m ps=some vl/\ConcL T.rp R F cs' us'/\Instr.fill pl us.toArray vl=some us'.toArray/\us'.length=us.length
 | [],cs,cs',us,h,hc=>by simp only [bldA,Option.some.injEq]at h;subst h;exact⟨[],us,rfl,hc,rfl,rfl⟩
 |p::r,cs,cs',us,h,hc=>by
  simp only [bldA]at h;split at h
  ·rename_i off sz y hp hy;split at h
   ·rename_i l hl;split at h
    ·rename_i cs2 hsz hset;obtain⟨u,h1,h2⟩:=a0r hE hy;obtain⟨c1,c2⟩:=c0s hl h2;obtain⟨s1,s2⟩:=c5m hset;have hsz:=Nat.eq_of_beq_eq_true hsz;have c3:=c1.len;have c4:=hc.len;have hu:u.cells.size=sz:=by rw [<-hsz,<-c3];simp
     have h3:ConcL T.rp R F cs2 (us.take off++u.cells.toList++us.drop (off+u.cells.size)):=by
      rw [s2,hu,<-hsz];exact((hc.take off).app c1).app (hc.drop _)
     obtain⟨vl,us',g1,g2,g3,g4⟩:=c4m hE h h3;refine⟨(p.1,u)::vl,us',by simp [opvp,h1,g1],g2,?_,?_⟩
     ·rw [e6k (by rw [hp,hu]) (by rw [hu,<-hsz];simp only [List.size_toArray];omega)];exact g3
     rw [g4];simp only [List.length_append,List.length_take,List.length_drop,Array.length_toList];rw [hu,<-hsz];omega
    cases h
   cases h
  cases h
theorem anys_ok:∀{us:List Value},ConcL T.rp R F (anys us.length) us
 | []=>rfl
 |v::us=>⟨v,us,rfl,trivial,anys_ok⟩
theorem d3r{c q:Nat}:∀{k:Nat}{cs:List (AV T.ty)}{xs:List (T.ty c)}{us:List Value},decL T c q k cs=some xs->ConcL T.rp R F cs us->RowN (T.rp c) F k us xs/\us.length=k*q
 |0,[],xs,us,h,hc=>by
  simp only [decL,Option.some.injEq]at h;subst h;simp only [ConcL]at hc;subst hc;exact⟨⟨rfl,rfl⟩,by simp⟩
 |0,_::_,xs,us,h,hc=>by simp [decL]at h
 |k+1,cs,xs,us,h,hc=>by
  simp only [decL]at h;split at h
  ·rename_i l hl;split at h
   ·rename_i x hx;split at h
    ·rename_i r hr;cases h;obtain⟨t1,t2⟩:=b7v hl;have h1:=hc.take q;rw [t1]at h1;have h2:=T.decOk hx h1;obtain⟨⟨g1,g2⟩,g3⟩:=d3r hr (hc.drop q);have h3:(us.take q).length=q:=by rw [h1.len,t2]
     refine⟨⟨by simp [g1],us.take q,us.drop q,(List.take_append_drop _ _).symm,h2,g2⟩,?_⟩;have:=congrArg List.length (List.take_append_drop q us);rw [List.length_append,h3,g3]at this;rw [Nat.add_mul];omega
    cases h
   cases h
  cases h
theorem d7t{fs:List Field}{ps:List (Nat×Nat)}(h1:fs.map (·.offset)=ps.map (·.1))(h2:∀(i:Nat)f p,fs[i]?=some f->ps[i]?=some p->SizeIs P f.type p.2)(w:World):
 (List.mapM (m:=Go.Sem) (fun f:Field=>Functor.map (Prod.mk f.offset) (sizeOf f.type)) fs).run P w= .ok ps w:=by
 induction fs generalizing ps with
 |nil=>cases ps with
  |nil=>simp
  |cons p ps=>simp at h1
 |cons f fs ih=>cases ps with
  |nil=>simp at h1
  |cons p ps=>
   simp only [List.map_cons,List.cons.injEq]at h1;have h3:=h2 0 f p rfl rfl w;have h4:=ih h1.2 (fun i f p hf hp=>h2 (i+1) f p (by simpa using hf) (by simpa using hp));obtain⟨p1,p2⟩:=p;simp only at h1 h3;rw [List.mapM_cons];simp [h3,h4,h1.1]
theorem d2b{t:TypeId}{z:Value}{ps:List (Nat×Nat)}{vl:List (Nat×Value)}{us:List Value}(hz:c5o P t z)(hb:T.bld t=some ps)(hf:Instr.fill (fun i=>ps[i]?) z.cells vl=some us.toArray)(w:World):
 (Instr.build t vl.toArray).run P w= .ok (.agg us.toArray) w:=by
 obtain⟨fs,h1,h2,h3⟩:=T.bldOk hb;have h4:=d7t h2 h3 w;unfold Instr.build;simp [hz w,underlying,h1,Array.mapM_eq_mapM_toList,h4,hf]
def zws(z:Value)(k:Nat):List Value:=if k=0 then []else((Array.range k).map (z.cells[· %z.cells.size]!)).toList
theorem e0g(z:Value)(k:Nat):(zws z k).length=k:=by
 unfold zws;split
 ·rename_i h;simp [h]
 simp
theorem b8j{t el:TypeId}{k q:Nat}{z:Value}{vl:List (Nat×Value)}{us:List Value}(hu:P.underlying t=some (.slice el))(hS:SizeIs P el q)(hz:c5o P el z)(hk:k*q<=16777216)
 (hf:Instr.fill (fun i=>some (i*q,q)) (zws z (k*q)).toArray vl=some us.toArray) (w:World):
 (Instr.buildSlice t k vl.toArray).run P w= .ok (.slice (some ⟨w.heap.size,0,none⟩) k k) (w.alloc (.cells us.toArray el)):=by
 unfold Instr.buildSlice;have hk':¬(2^24<k*q):=by omega
 unfold zws at hf
 by_cases h0:k*q=0
 ·rw [if_pos h0]at hf;have e:Array.map (fun _=>(default:Value)) (Array.range 0)= #[]:=by simp
  simp [underlying,hu,hS w,h0,newRow,e,hf]
 rw [if_neg h0,Array.toArray_toList]at hf;simp [underlying,hu,hS w,h0,hk',hz w,newRow,hf]
end
set_option linter.unusedVariables false
set_option linter.unusedSimpArgs false
inductive Pl where
 |nil
 |tk (i:Nat) (p:Pl)
 |st (i:Nat) (p:Pl)
 |two (i j:Nat) (p q:Pl)
def Pl.dep:Pl->Nat | .nil=>0 | .tk _ p=>p.dep+1 | .st _ p=>p.dep+1 | .two _ _ p _=>p.dep+1
def b8v(ops:Array Oper):Pl->Array Bool->Bool | .nil,l=>(Region.ready .any ops l).isEmpty | .tk i p,l=>tkOk ops l i&&b8v ops p (l.setIfInBounds i true) | .st i p,l=>Region.ready .any ops l== [i]&&b8v ops p (l.setIfInBounds i true) | .two i j p q,l=>Region.ready .any ops l== [i,j]&&Nat.beq p.dep q.dep&&b8v ops p (l.setIfInBounds i true)&&b8v ops q (l.setIfInBounds j true)
inductive Ctl where
 |code (c:Code)
 |ops (all:Array Oper) (l:List Oper)
 |qop (all:Array Oper) (l:List Oper)
 |mix (all:Array Oper) (p:Pl) (ks:List Nat) (el:Bool)
 |out (e:Exit)
inductive It where
 |code (c:Code)
 |blk (id:Nat)
 |scope
 |sem (K:Act->World->Prop)
 |mixk (all:Array Oper) (p:Pl) (ks:List Nat)
def b9y{ty:Nat->Type}:List (AO ty)->List Nat | []=> [] | .kbox i _ _::l=>i::b9y l | .krow i _ _ _ _::l=>i::b9y l |_::l=>b9y l
def c6q{ty:Nat->Type}:List (AO ty)->Bool | []=>false | .mark::_=>true |_::l=>c6q l
def leqN:List Nat->List Nat->Bool
 | [],[]=>true
 |i::l,j::r=>match Nat.beq i j with
  |true=>leqN l r
  |false=>false
 |_,_=>false
def c7n{ty:Nat->Type}(ks:List Nat)(H:List (AO ty)):Bool:=match c6q H with
 |true=>leqN (b9y H) ks
 |false=>false
structure St(ty:Nat->Type)where
 ctl:Ctl
 its:List It
 env:AE ty
 H:List (AO ty)
section
variable{P:Program}(T:Tbl P)
def lenK{α β:Type}:List α->(Nat->β)->β | [],k=>k 0 |_::l,k=>lenK l fun n=>k (n+1)
theorem b9w{α β:Type}:∀(l:List α)(k:Nat->β),lenK l k=k l.length
 | [],_=>rfl
 |_::l,k=>b9w l fun n=>k (n+1)
def e9u(env:AE T.ty)(H:List (AO T.ty)):Op->Option (AV T.ty×List (AO T.ty))
 | .alloc t=>match T.zero t with
   |some z=>some (lenK H fun h=>(.bx h 0,snoc (.box t (z.cells.toList.map ofC)) H))
   |none=>none
 | .box t x=>match opA env x with
   |some y=>match c7v y with
    |some l=>some (lenK H fun h=>(.bx h 0,snoc (.box t l) H))
    |none=>none
   |none=>none
 | .build t ps=>match T.zero t,T.bld t with
   |some z,some pl=>match bldA T (fun i=>pl[i]?) env ps.toList (z.cells.toList.map ofC)with
    |some l=>some (.agg l,H)
    |none=>none
   |_,_=>none
 | .buildSlice t k ps=>match T.und t with
   |some (.slice el)=>match T.size el,T.zero el with
    |some q,some _=>match Nat.ble (k*q) 16777216,Nat.ble k maxLen,bldA T (fun i=>some (i*q,q)) env ps.toList (anys (k*q))with
     |true,true,some l=>match decL T (T.cod t) q k l with
      |some xs=>some (lenK H fun h=>(.row h,snoc (.row el q (T.cod t) xs) H))
      |none=>none
     |_,_,_=>none
    |_,_=>none
   |_=>none
 |_=>none
def f1x(env:AE T.ty):Op->Option (AV T.ty)
 | .build t ps=>match T.zero t,T.bld t with
   |some z,some pl=>match bldA T (fun i=>pl[i]?) env ps.toList (z.cells.toList.map ofC)with
    |some l=>some (.agg l)
    |none=>none
   |_,_=>none
 |_=>none
def evB(ld:Ld)(env:AE T.ty)(H:List (AO T.ty))(op:Op):Option (AV T.ty):=match b9z T ld env H op with
 |some v=>some v
 |none=>f1x T env op
def f0e(env:AE T.ty)(H:List (AO T.ty)):Op->Option (List (AO T.ty))
 | .store t x y=>match opA env x,opA env y,T.size t with
   |some (.bx i o),some z,some m=>match H[i]?,c7v z with
    |some (.box t' cs),some l=>match Nat.beq l.length m,setA o l cs with
     |true,some cs'=>putA i (.box t' cs') H
     |_,_=>none
    |_,_=>none
   |_,_,_=>none
 |_=>none
def ldOf(el:Bool):Ld:=match el with
 |true=> .mix
 |false=> .kept
def run(n:Nat):Nat->Ctl->List It->AE T.ty->List (AO T.ty)->St T.ty
 |0,c,k,e,H=>⟨c,k,e,H⟩
 |f+1,.code c,k,e,H=>match c with
  | .skip=>run n f (.out .normal) k e H
  | .label _=>run n f (.out .normal) k e H
  | .seq x y=>run n f (.code x) (.code y::k) e H
  | .region _ ops false=>run n f (.ops ops ops.toList) k e H
  | .block id x=>run n f (.code x) (.blk id::k) e H
  | .scope x=>run n f (.code x) (.scope::k) e H
  | .exit id=>run n f (.out (.exit id)) k e H
  | .ret=>run n f (.out .ret) k e H
  | .cond b x y=>match opA e b with
    |some z=>match litOf z with
     |some true=>run n f (.code x) k e H
     |some false=>run n f (.code y) k e H
     |none=>⟨.code (.cond b x y),k,e,H⟩
    |none=>⟨.code (.cond b x y),k,e,H⟩
  |c=>⟨.code c,k,e,H⟩
 |f+1,.out x,k,e,H=>match k with
  | []=>⟨.out x,[],e,H⟩
  |i::k=>match x,i with
   | .normal,.code y=>run n f (.code y) k e H
   | .normal,.blk _=>run n f (.out .normal) k e H
   | .normal,.scope=>run n f (.out .normal) k e H
   | .exit id,.code _=>run n f (.out (.exit id)) k e H
   | .exit id,.blk j=>match Nat.beq id j with
     |true=>run n f (.out .normal) k e H
     |false=>run n f (.out (.exit id)) k e H
   | .exit id,.scope=>run n f (.out (.exit id)) k e H
   | .exit id,.sem _=>run n f (.out (.exit id)) k e H
   | .ret,.code _=>run n f (.out .ret) k e H
   | .ret,.blk _=>run n f (.out .ret) k e H
   | .ret,.scope=>run n f (.out .ret) k e H
   | .ret,.sem _=>run n f (.out .ret) k e H
   | .normal,.mixk all p ks=>match c7n ks H with
     |true=>run n f (.mix all p ks false) k e H
     |false=>⟨.out .normal,.mixk all p ks::k,e,H⟩
   |x,i=>⟨.out x,i::k,e,H⟩
 |f+1,.ops all l,k,e,H=>match l with
  | []=>run n f (.out .normal) k e H
  |o::l=>match a9a all e o.guard with
   |true=>match o.dst with
    |some d=>match Nat.blt d n with
     |true=>match b9z T .all e H o.op with
      |some v=>run n f (.ops all l) k ((d,v)::e) H
      |none=>match e9u T e H o.op with
       |some (v,H')=>run n f (.ops all l) k ((d,v)::e) H'
       |none=>⟨.ops all (o::l),k,e,H⟩
     |false=>⟨.ops all (o::l),k,e,H⟩
    |none=>match f0e T e H o.op with
     |some H'=>run n f (.ops all l) k e H'
     |none=>⟨.ops all (o::l),k,e,H⟩
   |false=>match c8m all e o.guard with
    |true=>match o.dst with
     |some d=>match Nat.blt d n with
      |true=>run n f (.ops all l) k ((d,.val undef)::e) H
      |false=>⟨.ops all (o::l),k,e,H⟩
     |none=>⟨.ops all (o::l),k,e,H⟩
    |false=>⟨.ops all (o::l),k,e,H⟩
 |f+1,.qop all l,k,e,H=>match l with
  | []=>run n f (.out .normal) k e H
  |o::l=>match a9a all e o.guard with
   |true=>match o.dst with
    |some d=>match Nat.blt d n with
     |true=>match evB T .all e H o.op with
      |some v=>run n f (.qop all l) k ((d,v)::e) H
      |none=>⟨.qop all (o::l),k,e,H⟩
     |false=>⟨.qop all (o::l),k,e,H⟩
    |none=>⟨.qop all (o::l),k,e,H⟩
   |false=>match c8m all e o.guard with
    |true=>match o.dst with
     |some d=>match Nat.blt d n with
      |true=>run n f (.qop all l) k ((d,.val undef)::e) H
      |false=>⟨.qop all (o::l),k,e,H⟩
     |none=>⟨.qop all (o::l),k,e,H⟩
    |false=>⟨.qop all (o::l),k,e,H⟩
 |f+1,.mix all p ks el,k,e,H=>match p with
  | .st i p=>match all[i]? with
    |some o=>run n f (.ops all [o]) (.mixk all p ks::k) e H
    |none=>⟨.mix all (.st i p) ks el,k,e,H⟩
  | .tk i p=>match all[i]?,c7n ks H with
    |some o,true=>match a9a all e o.guard with
     |true=>match o.dst with
      |some d=>match Nat.blt d n with
       |true=>match evB T (ldOf el) e H o.op with
        |some v=>run n f (.mix all p ks el) k ((d,v)::e) H
        |none=>⟨.mix all (.tk i p) ks el,k,e,H⟩
       |false=>⟨.mix all (.tk i p) ks el,k,e,H⟩
      |none=>⟨.mix all (.tk i p) ks el,k,e,H⟩
     |false=>match c8m all e o.guard with
      |true=>match o.dst with
       |some d=>match Nat.blt d n with
        |true=>run n f (.mix all p ks el) k ((d,.val undef)::e) H
        |false=>⟨.mix all (.tk i p) ks el,k,e,H⟩
       |none=>⟨.mix all (.tk i p) ks el,k,e,H⟩
      |false=>⟨.mix all (.tk i p) ks el,k,e,H⟩
    |_,_=>⟨.mix all (.tk i p) ks el,k,e,H⟩
  |p=>⟨.mix all p ks el,k,e,H⟩
end
def SK(K:Snap)(ks:List Nat)(w:World):Prop:=Sat K.F w/\∀i,i∈ks->(K.K i).ok w
def kq(P:Program)(K:Snap)(Q:Exit->Act->World->Prop):List It->Exit->Act->World->Prop | []=>Q | .code y::k=>Exit.then (y.wp P (kq P K Q k)) (kq P K Q k) | .blk id::k=>Exit.inBlock id (kq P K Q k) | .scope::k=>Exit.noGoto (kq P K Q k) | .sem J::k=>Exit.then J (kq P K Q k) | .mixk all p ks::k=>QK fun a w=>SK K ks w/\∀listed,b8v all p listed=true->wpAnyH P .any all (NP (kq P K Q k)) (SK K ks) p.dep listed a w
def GW(P:Program)(Q:Exit->Act->World->Prop)(n:Nat)(F0:Frz)(w0:World)(X:List Nat)(K:Snap)(R:List OE)(F:Frz):Ctl->List It->Env->World->Prop | .code c,k,m,w=>CW P c (kq P K Q k) n m w | .ops all l,k,m,w=>RW P all (kq P K Q k) l n m w | .qop all l,k,m,_=>QR P all (CH F0 w0 X F R) (fun a'=>∀w',CH F0 w0 X F R w'->kq P K Q k .normal a' w') l n m | .mix all p ks el,k,m,w=>(el=true->F.le K.F)->∀listed,b8v all p listed=true->DW P all (kq P K Q k) (SK K ks) p.dep listed n m w | .out e,k,m,w=>QW (kq P K Q k) e n m w
def c8g(R:List OE):Prop:=∀(i:Nat)el q a m n(us:List Value),R[i]?=some (.row el q a m n us)->m≠0->∃b,a=some ⟨b,0,none⟩
theorem HS.rows{F0 F:Frz}{w0 w:World}{X:List Nat}{R:List OE}(h:HS F0 w0 X F R w):c8g R:=by
 intro i el q a m n us hi hm;rcases(h.get hi).2 with⟨e1,e2⟩|⟨gb,cap,cur,e1,_⟩
 ·simp only [Value.slice.injEq]at e1;exact absurd e1.2.1 hm
 simp only [Value.slice.injEq]at e1;exact⟨gb,e1.1⟩
def LX(X:List Nat)(R:List OE):Prop:=∀(j b:Nat),X[j]?=some b->∃(t:TypeId)(cs:List Value),R[j]?=some (.box b t cs)
theorem LX.keep{X:List Nat}{R R':List OE}{F F':Frz}(h:LX X R)(k:Keep R F R' F'):LX X R':=fun i b hb=>by
 obtain⟨t,cs,h1⟩:=h i b hb;obtain⟨cs',h2⟩:=k.box i b t cs h1;exact⟨t,cs',h2⟩
def LG{P:Program}(T:Tbl P)(X:List Nat)(R:List OE)(F:Frz):Prop:=LX X R/\T.gl F
theorem LG.keep{P:Program}{T:Tbl P}{X:List Nat}{R R':List OE}{F F':Frz}(h:LG T X R F)(k:Keep R F R' F'):LG T X R' F':=⟨h.1.keep k,T.glMono k.le h.2⟩
def Sm{P:Program}(T:Tbl P)(Q:Exit->Act->World->Prop)(n:Nat)(F0:Frz)(w0:World)(X:List Nat)(K:Snap)(s:St T.ty):Prop:= ∀R F m w,ConcE T.rp R F s.env m->RelH T.rp K R F s.H R->HS F0 w0 X F R w->LG T X R F->GW P Q n F0 w0 X K R F s.ctl s.its m w
section
variable{P:Program}{T:Tbl P}{Q:Exit->Act->World->Prop}{n:Nat}{F0:Frz}{w0:World}{X:List Nat}{K:Snap}
theorem Sm.to{c c':Ctl}{k k':List It}{e:AE T.ty}{H:List (AO T.ty)}(h:Sm T Q n F0 w0 X K ⟨c',k',e,H⟩)(g:∀R F m w,GW P Q n F0 w0 X K R F c' k' m w->GW P Q n F0 w0 X K R F c k m w):Sm T Q n F0 w0 X K ⟨c,k,e,H⟩:=
 fun R F m w h1 h2 h3 h4=>g R F m w (h R F m w h1 h2 h3 h4)
theorem wOkC{H:List (AO T.ty)}{R:List OE}{F:Frz}:WOk .all H R F (CH F0 w0 X F R):=
 ⟨fun _ _⟨_,_,hs⟩_ _ hi=>hs.get hi,fun _⟨_,_,hs⟩_ _ _ _ _ hi=>hs.get hi,fun _ _⟨F',hl,hs⟩=>⟨F',hl,hs.sat⟩⟩
theorem d2m{i:Nat}:∀{H:List (AO T.ty)}{o:AO T.ty},o∈H->o.isK=true->∃j,j∈b9y H/\∀{R:List OE}{F:Frz}{e:OE},RelO T.rp K R F o e->e=K.K j
 | [],o,h,_=>by simp at h
 |x::l,o,h,hk=>by
  rcases List.mem_cons.1 h with rfl|h
  ·cases o<;>simp only [AO.isK,reduceCtorEq]at hk
   ·exact⟨_,List.mem_cons_self ..,fun h=>h.1⟩
   exact⟨_,List.mem_cons_self ..,fun h=>h.1⟩
  obtain⟨j,h1,h2⟩:=d2m (i:=i) h hk;refine⟨j,?_,h2⟩;cases x<;>simp only [b9y]<;>first|exact h1|exact List.mem_cons_of_mem _ h1
theorem keptL_at:∀{H:List (AO T.ty)}{j:Nat},j∈b9y H->∃o,o∈H/\∀{R:List OE}{F:Frz}{e:OE},RelO T.rp K R F o e->e=K.K j
 | [],j,h=>by simp [b9y]at h
 |x::l,j,h=>by
  have go:j∈b9y l->∃o,o∈x::l/\∀{R:List OE}{F:Frz}{e:OE},RelO T.rp K R F o e->e=K.K j:=fun h=>by
   obtain⟨o,h1,h2⟩:=keptL_at h;exact⟨o,List.mem_cons_of_mem _ h1,h2⟩
  cases x<;>simp only [b9y]at h
  case kbox i t cs=>
   rcases List.mem_cons.1 h with rfl|h
   ·exact⟨_,List.mem_cons_self ..,fun h=>h.1⟩
   exact go h
  case krow i e q c xs=>
   rcases List.mem_cons.1 h with rfl|h
   ·exact⟨_,List.mem_cons_self ..,fun h=>h.1⟩
   exact go h
  all_goals exact go h
theorem hasMark_at:∀{H:List (AO T.ty)},c6q H=true->AO.mark∈H
 | [],h=>by simp [c6q]at h
 |x::l,h=>by
  cases x<;>simp only [c6q]at h
  case mark=>exact List.mem_cons_self ..
  all_goals exact List.mem_cons_of_mem _ (hasMark_at h)
theorem leqN_ok:∀{l r:List Nat},leqN l r=true->l=r
 | [],[],_=>rfl
 | [],_::_,h=>by cases h
 |_::_,[],h=>by cases h
 |i::l,j::r,h=>by
  simp only [leqN]at h;split at h
  ·rename_i hb;rw [Nat.eq_of_beq_eq_true hb,leqN_ok h]
  cases h
theorem d6x{ks:List Nat}{H:List (AO T.ty)}(h:c7n ks H=true):AO.mark∈H/\b9y H=ks:=by
 unfold c7n at h;split at h
 ·rename_i hm;exact⟨hasMark_at hm,leqN_ok h⟩
 cases h
theorem e1l{ks:List Nat}{H:List (AO T.ty)}{R:List OE}{F:Frz}{w:World}(h:c7n ks H=true)(h2:RelH T.rp K R F H R)(h3:HS F0 w0 X F R w):SK K ks w:=by
 obtain⟨h4,h5⟩:=d6x h;obtain⟨i,hi⟩:=List.mem_iff_getElem?.1 h4;obtain⟨e,g1,g2,_⟩:=h2.2 i _ hi;refine⟨fun b o hb=>h3.sat b o (g2 b o hb),fun j hj=> ?_⟩;subst h5;obtain⟨o,k1,k2⟩:=keptL_at (K:=K) hj;obtain⟨i,hi⟩:=List.mem_iff_getElem?.1 k1;obtain⟨e,g1,g2⟩:=h2.2 i _ hi;rw [<-k2 g2];exact h3.get g1
theorem wOkM{ks:List Nat}{H:List (AO T.ty)}{R:List OE}{F:Frz}{el:Bool}(h:c7n ks H=true)(h2:RelH T.rp K R F H R)(hF:el=true->F.le K.F):WOk (ldOf el) H R F (SK K ks):=by
 obtain⟨h4,h5⟩:=d6x h;refine⟨(by intro h;cases el<;>cases h),fun w hw i o e hi hk hR=> ?_,fun h w hw=> ?_⟩
 ·obtain⟨j,k1,k2⟩:=d2m (K:=K) (i:=i) (List.mem_of_getElem? hi) hk;obtain⟨e',g1,g2⟩:=h2.2 i _ hi;rw [hR]at g1;cases g1;rw [k2 g2];exact hw.2 j (h5▸k1)
 cases el with
 |true=>exact⟨K.F,hF rfl,hw.1⟩
 |false=>exact absurd rfl h
theorem f1z{all:Array Oper}{o:Oper}{l:List Oper}{k:List It}{e:AE T.ty}{H:List (AO T.ty)}{d:Nat}{v:AV T.ty}(hg:a9a all e o.guard=true)(hd:o.dst=some d)(hn:Nat.blt d n=true)(hv:b9z T .all e H o.op=some v)
 (h:Sm T Q n F0 w0 X K ⟨.ops all l,k,(d,v)::e,H⟩):Sm T Q n F0 w0 X K ⟨.ops all (o::l),k,e,H⟩:=by
 intro R F m w h1 h2 h3 hX;obtain⟨u,hu,hr⟩:=c7x h1 h2 wOkC hv;exact a7r hd (by simpa using hn) (a2g h1 hg) (fun a ha=>hr w ⟨F,Frz.refl F,h3⟩ n a ha) (h R F ((d,u)::m) w (h1.put hu) h2 h3 hX)
theorem e8x{all:Array Oper}{o:Oper}{l:List Oper}{k:List It}{e:AE T.ty}{H:List (AO T.ty)}{d:Nat}(hg:c8m all e o.guard=true)(hd:o.dst=some d)(hn:Nat.blt d n=true)
 (h:Sm T Q n F0 w0 X K ⟨.ops all l,k,(d,.val undef)::e,H⟩):Sm T Q n F0 w0 X K ⟨.ops all (o::l),k,e,H⟩:=by
 intro R F m w h1 h2 h3 hX;exact a1o hd (by simpa using hn) (c5u h1 hg) (h R F ((d,undef)::m) w (h1.put rfl) h2 h3 hX)
theorem e0w{all:Array Oper}{o:Oper}{l:List Oper}{k:List It}{e:AE T.ty}{H:List (AO T.ty)}{d:Nat}{t:TypeId}{cs:List (AV T.ty)}(hg:a9a all e o.guard=true)(hd:o.dst=some d)(hn:Nat.blt d n=true)
 (hv:∀R F m w,ConcE T.rp R F e m->∃us:List Value,ConcL T.rp R F cs us/\∀a,Has n a m->(execOp a.eval o).run P w= .ok (.value (.pointer (some ⟨w.heap.size,0,none⟩))) (w.alloc (.cells us.toArray t)))
 (h:Sm T Q n F0 w0 X K ⟨.ops all l,k,(d,.bx H.length 0)::e,snoc (.box t cs) H⟩):Sm T Q n F0 w0 X K ⟨.ops all (o::l),k,e,H⟩:=by
 intro R F m w h1 h2 h3 hX;obtain⟨us,hc,hr⟩:=hv R F m w h1;have h4:HS F0 w0 X F (R++ [.box w.heap.size t us]) (w.alloc (.cells us.toArray t)):=
  (h3.add (World.grownBy_alloc w _ none) (e':= .box w.heap.size t us) (by show(w.alloc _).heap[w.heap.size]?=_;rw [heap_alloc_new]) (by simp [OE.blk])).addEnd
 have hk:Keep R F (R++ [.box w.heap.size t us]) F:=Keep.more (Frz.refl F);refine b5w hd (by simpa using hn) (a2g h1 hg) hr (h _ F _ _ ((h1.mono hk).put ⟨w.heap.size,t,us,?_,rfl⟩) ?_ h4 (hX.keep hk))
 ·rw [h2.1];simp
 show RelH _ _ _ _ (snoc _ H) _;rw [b3m];exact(h2.mono hk).add ⟨_,us,rfl,hc.mono hk⟩
theorem e9e{all:Array Oper}{o:Oper}{l:List Oper}{k:List It}{e:AE T.ty}{H H':List (AO T.ty)}{d:Nat}{v:AV T.ty}(hg:a9a all e o.guard=true)(hd:o.dst=some d)(hn:Nat.blt d n=true)(hv:e9u T e H o.op=some (v,H'))
 (h:Sm T Q n F0 w0 X K ⟨.ops all l,k,(d,v)::e,H'⟩):Sm T Q n F0 w0 X K ⟨.ops all (o::l),k,e,H⟩:=by
 obtain⟨dst,op,type,pos,after,guard⟩:=o;dsimp only at hg hd hv;unfold e9u at hv;simp only [b9w]at hv;split at hv
 ·split at hv
  ·rename_i t z hz;cases hv;refine e0w hg hd hn (fun R F m w _=>⟨z.cells.toList,concL_ofC _,fun a ha=> ?_⟩) h;simp [execOp,Instr.alloc,T.zeroOk hz w,newVar,newRow]
  cases hv
 ·split at hv
  ·rename_i t x y hx;split at hv
   ·rename_i cs hc;cases hv;refine e0w hg hd hn (fun R F m w hE=> ?_) h;obtain⟨u,h1,h2⟩:=a0r hE hx;refine⟨u.cells.toList,(c0s hc h2).1,fun a ha=> ?_⟩;simp [execOp,Instr.box,ha.op h1,newVar,newRow]
   cases hv
  cases hv
 ·rename_i t ps;split at hv
  ·rename_i z pl hz hpl;split at hv
   ·rename_i cs hb;cases hv;intro R F m w h1 h2 h3 hX;obtain⟨vl,us,g1,g2,g3,_⟩:=c4m h1 hb (concL_ofC z.cells.toList);obtain⟨ps⟩:=ps;refine a7r hd (by simpa using hn) (a2g h1 hg) (v:= .agg us.toArray) (fun a ha=> ?_) (h R F _ w (h1.put ⟨us,rfl,g2⟩) h2 h3 hX);simp only [execOp];rw [b0j ha g1];simp [d2b (T.zeroOk hz) hpl (by simpa using g3) w]
   cases hv
  cases hv
 ·rename_i t kk ps;split at hv
  ·rename_i el hu;split at hv
   ·rename_i q z hS hz;split at hv
    ·rename_i cs hk1 hk2 hb;split at hv
     ·rename_i xs hx;cases hv;intro R F m w h1 h2 h3 hX;have hzl:=e0g z (kk*q);obtain⟨vl,us,g1,g2,g3,g4⟩:=c4m (us:=zws z (kk*q)) h1 hb (by
       have:=anys_ok (T:=T) (R:=R) (F:=F) (us:=zws z (kk*q))
       rwa [hzl]at this)
      obtain⟨ps⟩:=ps;obtain⟨d1,d2⟩:=d3r hx g2;have hrun:=fun w=>b8j (P:=P) (T.undOk hu) (T.sizeOk hS) (T.zeroOk hz) (Nat.le_of_ble_eq_true hk1) g3 w;have h4:HS F0 w0 X F (R++ [.row el q (some ⟨w.heap.size,0,none⟩) kk kk us]) (w.alloc (.cells us.toArray el)):=
       (h3.add (World.grownBy_alloc w _ none) (e':= .row el q (some ⟨w.heap.size,0,none⟩) kk kk us) (by
        refine⟨d2,.inr ⟨w.heap.size,kk,us.toArray,rfl,Nat.zero_le _,heap_alloc_new w _,Nat.le_refl _,Nat.le_of_ble_eq_true hk2,by simp [d2],?_⟩⟩;simp [<-d2]) (by simp [OE.blk,Value.ownBlock])).addEnd
      have hk:Keep R F (R++ [.row el q (some ⟨w.heap.size,0,none⟩) kk kk us]) F:=Keep.more (Frz.refl F);refine b5w hd (by simpa using hn) (a2g h1 hg) (v:= .slice (some ⟨w.heap.size,0,none⟩) kk kk) (fun a ha=> ?_) (h _ F _ _ ((h1.mono hk).put ⟨el,q,some ⟨w.heap.size,0,none⟩,kk,kk,us,?_,rfl⟩) ?_ h4 (hX.keep hk))
      ·simp only [execOp];rw [b0j ha g1];simp [hrun w]
      ·rw [h2.1];simp
      show RelH _ _ _ _ (snoc _ H) _;rw [b3m];exact(h2.mono hk).add ⟨_,kk,kk,us,rfl,d1⟩
     cases hv
    cases hv
   cases hv
  cases hv
 cases hv
theorem e9j{all:Array Oper}{o:Oper}{l:List Oper}{k:List It}{e:AE T.ty}{H H':List (AO T.ty)}(hg:a9a all e o.guard=true)(hd:o.dst=none)(hv:f0e T e H o.op=some H')
 (h:Sm T Q n F0 w0 X K ⟨.ops all l,k,e,H'⟩):Sm T Q n F0 w0 X K ⟨.ops all (o::l),k,e,H⟩:=by
 obtain⟨dst,op,type,pos,after,guard⟩:=o;dsimp only at hg hd hv;subst hd;unfold f0e at hv;split at hv
 ·split at hv
  ·rename_i t x y i oo z mm hx hy hS;split at hv
   ·rename_i t' cs zs hi hz;split at hv
    ·rename_i cs' hlen hset;intro R F m w h1 h2 h3 hX;obtain⟨u,hu1,b,tb,vs0,hb1,hb2⟩:=a0r h1 hx;subst hb2;obtain⟨y',hy1,hy2⟩:=a0r h1 hy;obtain⟨en,hen,b2,ws,he2,hc⟩:=h2.2 i _ hi;subst he2;rw [hb1]at hen;cases hen;obtain⟨c1,c2⟩:=c0s hz hy2;obtain⟨s1,s2⟩:=c5m hset;have hlen:=Nat.eq_of_beq_eq_true hlen;have c3:=c1.len;have hvs:=hc.len;refine a5g (T.sizeOk hS) (a2g h1 hg) h3 hu1 hy1 (by rw [<-hlen,<-c3];simp) (List.all_eq_true.2 c2) hb1 (Nat.ble_eq_true_of_le (by rw [hvs,<-hlen];exact s1)) rfl rfl fun w' h4=> ?_;have hk:Keep R F (R.set i (.box b t' (vs0.take oo++y'.cells.toList++vs0.drop (oo+mm)))) F:=by
      refine⟨Frz.refl F,fun j b' T' cs0 hj=> ?_,fun j e' q a m' n' xs hj=> ?_⟩
      ·rw [List.getElem?_set]
       by_cases hij:i=j
       ·subst hij;rw [hb1]at hj;cases hj;rw [if_pos rfl,if_pos (List.getElem?_eq_some_iff.1 hb1).1];exact⟨_,rfl⟩
       rw [if_neg hij];exact⟨_,hj⟩
      rw [List.getElem?_set]
      by_cases hij:i=j
      ·subst hij;rw [hb1]at hj;cases hj
      rw [if_neg hij];exact hj
     have hr:RelO T.rp K (R.set i (.box b t' (vs0.take oo++y'.cells.toList++vs0.drop (oo+mm)))) F (.box t' cs') (.box b t' (vs0.take oo++y'.cells.toList++vs0.drop (oo+mm))):=by
      refine⟨b,_,rfl,ConcL.mono hk ?_⟩;rw [s2,<-hlen];exact((hc.take oo).app c1).app (hc.drop _)
     exact h _ F m w' (h1.mono hk) (by
      rw [b9n hv];exact(h2.mono hk).set i hr) h4 (hX.keep hk)
    cases hv
   cases hv
  cases hv
 cases hv
theorem d5t{all:Array Oper}{o:Oper}{l:List Oper}{k:List It}{e:AE T.ty}{H:List (AO T.ty)}{d:Nat}{v:AV T.ty}(hg:a9a all e o.guard=true)(hd:o.dst=some d)(hn:Nat.blt d n=true)
 (hv:∀R F m,ConcE T.rp R F e m->RelH T.rp K R F H R->c8g R->∃u,Conc T.rp R F v u/\c6b P (CH F0 w0 X F R) m o u)
 (h:Sm T Q n F0 w0 X K ⟨.qop all l,k,(d,v)::e,H⟩):Sm T Q n F0 w0 X K ⟨.qop all (o::l),k,e,H⟩:=by
 intro R F m w h1 h2 h3 hX;obtain⟨u,hu,hr⟩:=hv R F m h1 h2 h3.rows;refine e2l hd hn (a2g h1 hg) (v:=u) (fun w' hw a ha=> ?_) (h R F ((d,u)::m) w (h1.put hu) h2 h3 hX);unfold Oper.quietAt;rw [hr w' hw n a ha];exact⟨rfl,rfl⟩
theorem d8a{a b:Bool}(h:(a&&b)=true):a=true/\b=true:=by simpa using h
theorem f1b{o:Oper}{a:Act}{K1 K2:Act->World->Prop}{r:Result Next}(h:o.upon P a K2 (QK K1) r):o.upon P a K2 (QK K2) r:=by
 cases r with
 |ok x w'=>
  cases x<;>simp only [Oper.upon]at h⊢<;>
   first
    |exact h
    |exact Calls.mono h (fun e w'' he=>by
     cases e with
     |returned v=>exact he
     |panicked c=>exact absurd he.1 (by simp)
     |outgrown=>obtain⟨_,_,h3,_⟩:=he;cases h3)
 |halt x w'=>cases x<;>simp only [Oper.upon]at h⊢<;>exact absurd h.1 (by simp)
theorem e5w{ops:Array Oper}{S:World->Prop}{fuel:Nat}{listed:Array Bool}{m:Env}{w:World}(i:Nat){o:Oper}{K1:Act->World->Prop}(hi:ops[i]?=some o)
 (hK:∀a w',K1 a w'->S w'/\wpAnyH P .any ops (NP Q) S fuel (listed.setIfInBounds i true) a w') (h:RW P ops (QK K1) [o] n m w):∀a,Has n a m->wpOp P ops (NP Q) i (fun a' w'=>S w'/\wpAnyH P .any ops (NP Q) S fuel (listed.setIfInBounds i true) a' w') a w:=by
 intro a ha;have h1:=h a ha;unfold wpList at h1;unfold wpOp;simp only [hi];split at h1
 ·rename_i hw;rw [if_pos hw];rcases h1 with h1|⟨_,_,_,h2,_⟩
  ·left;unfold Oper.wp at*;refine c8x (K:=fun a' w'=>S w'/\wpAnyH P .any ops (NP Q) S fuel (listed.setIfInBounds i true) a' w') ?_;have h2:o.wp P a w (fun a' w'=>S w'/\wpAnyH P .any ops (NP Q) S fuel (listed.setIfInBounds i true) a' w') (QK K1):=Oper.wp_mono (o:=o) (w:=w) (fun a' w' hh=>hK a' w' hh.2) h1;exact f1b h2
  cases h2
 rename_i hw;rw [if_neg hw];exact hK _ _ h1.2
theorem e2m{all:Array Oper}{i:Nat}{p:Pl}{ks:List Nat}{el:Bool}{o:Oper}{k:List It}{e:AE T.ty}{H:List (AO T.ty)}(hi:all[i]?=some o)
 (h:Sm T Q n F0 w0 X K ⟨.ops all [o],.mixk all p ks::k,e,H⟩):Sm T Q n F0 w0 X K ⟨.mix all (.st i p) ks el,k,e,H⟩:=by
 intro R F m w h1 h2 h3 hX _ listed hp;have hp:=d8a hp;intro a ha;refine wpAnyH_all (by simpa using hp.1) (by simp) ?_;intro j hj;obtain rfl:=List.mem_singleton.1 hj;exact e5w j hi (fun a w' g=>⟨g.1,g.2 _ hp.2⟩) (h R F m w h1 h2 h3 hX) a ha
theorem d6c{all:Array Oper}{i:Nat}{p:Pl}{ks:List Nat}{el:Bool}{o:Oper}{k:List It}{e:AE T.ty}{H:List (AO T.ty)}{d:Nat}{v:AV T.ty}(hi:all[i]?=some o)(hk:c7n ks H=true)(hg:a9a all e o.guard=true)(hd:o.dst=some d)(hn:Nat.blt d n=true)
 (hv:∀R F m,ConcE T.rp R F e m->RelH T.rp K R F H R->c8g R->(el=true->F.le K.F)->∃u,Conc T.rp R F v u/\c6b P (SK K ks) m o u)
 (h:Sm T Q n F0 w0 X K ⟨.mix all p ks el,k,(d,v)::e,H⟩):Sm T Q n F0 w0 X K ⟨.mix all (.tk i p) ks el,k,e,H⟩:=by
 intro R F m w h1 h2 h3 hX hF listed hp;have hp:=d8a hp;obtain⟨u,hu,hr⟩:=hv R F m h1 h2 h3.rows hF;exact c9l i hi (a8w hp.1).1 (a8w hp.1).2.1 (a8w hp.1).2.2 hd hn (a2g h1 hg) (e1l hk h2 h3) (fun w' hw' a ha=>hr w' hw' n a ha) (h R F ((d,u)::m) w (h1.put hu) h2 h3 hX hF _ hp.2)
theorem e5b{W:World->Prop}{R:List OE}{F:Frz}{e:AE T.ty}{m:Env}{o:Oper}{v:AV T.ty}(hE:ConcE T.rp R F e m)(h:f1x T e o.op=some v):∃u,Conc T.rp R F v u/\c6b P W m o u:=by
 obtain⟨dst,op,type,pos,after,guard⟩:=o;dsimp only at h;unfold f1x at h;split at h
 ·rename_i t ps;split at h
  ·rename_i z pl hz hpl;split at h
   ·rename_i cs hb;cases h;obtain⟨vl,us,g1,g2,g3,_⟩:=c4m hE hb (concL_ofC z.cells.toList);obtain⟨ps⟩:=ps;refine⟨.agg us.toArray,⟨us,rfl,g2⟩,fun w _ _ a ha=> ?_⟩;simp only [execOp];rw [b0j ha g1];simp [d2b (T.zeroOk hz) hpl (by simpa using g3) w]
   cases h
  cases h
 cases h
theorem e7p{W:World->Prop}{ld:Ld}{R:List OE}{F:Frz}{e:AE T.ty}{m:Env}{H:List (AO T.ty)}{o:Oper}{v:AV T.ty}(hE:ConcE T.rp R F e m)(hH:RelH T.rp K R F H R)(hW:WOk ld H R F W)(h:evB T ld e H o.op=some v):∃u,Conc T.rp R F v u/\c6b P W m o u:=by
 unfold evB at h;split at h
 ·rename_i hv;cases h;exact c7x hE hH hW hv
 exact e5b hE h
theorem run_ok:∀(f:Nat)(c:Ctl)(k:List It)(e:AE T.ty)(H:List (AO T.ty)),Sm T Q n F0 w0 X K (run T n f c k e H)->Sm T Q n F0 w0 X K ⟨c,k,e,H⟩
 |0,_,_,_,_,h=>h
 |f+1,.code c,k,e,H,h=>by
  unfold run at h;split at h
  ·exact(run_ok f _ _ _ _ h).to fun _ _ _ _=>a4q
  ·exact(run_ok f _ _ _ _ h).to fun _ _ _ _=>e4i
  ·exact(run_ok f _ _ _ _ h).to fun _ _ _ _=>a0h
  ·rename_i id ops;exact(run_ok f _ _ _ _ h).to fun _ _ m w hh=>by
    have:=a0b (id:=id) (l:=ops.toList) hh;show CW P _ _ _ _ _;simpa using this
  ·exact(run_ok f _ _ _ _ h).to fun _ _ _ _=>a3h
  ·exact(run_ok f _ _ _ _ h).to fun _ _ _ _=>d9t
  ·exact(run_ok f _ _ _ _ h).to fun _ _ _ _=>b3j
  ·exact(run_ok f _ _ _ _ h).to fun _ _ _ _=>a7f
  ·split at h
   ·rename_i hb;split at h
    ·rename_i hl;intro R F m w h1 h2 h3 hX;obtain⟨u,hu,hc⟩:=a0r h1 hb;have hc:=b7u hl hc;subst hc;exact a3p hu (run_ok f _ _ _ _ h R F m w h1 h2 h3 hX)
    ·rename_i hl;intro R F m w h1 h2 h3 hX;obtain⟨u,hu,hc⟩:=a0r h1 hb;have hc:=b7u hl hc;subst hc;exact a2e hu (run_ok f _ _ _ _ h R F m w h1 h2 h3 hX)
    exact h
   exact h
  exact h
 |f+1,.out x,k,e,H,h=>by
  unfold run at h;split at h
  ·exact h
  split at h
  ·exact(run_ok f _ _ _ _ h).to fun _ _ _ _=>a0d
  ·exact(run_ok f _ _ _ _ h).to fun _ _ _ _=>a7g
  ·exact(run_ok f _ _ _ _ h).to fun _ _ _ _=>e8v
  ·exact(run_ok f _ _ _ _ h).to fun _ _ _ _=>a0z
  ·split at h
   ·rename_i hb;obtain rfl:=Nat.eq_of_beq_eq_true hb;exact(run_ok f _ _ _ _ h).to fun _ _ _ _=>a3e
   rename_i hb;exact(run_ok f _ _ _ _ h).to fun _ _ _ _=>b7l (Nat.ne_of_beq_eq_false hb)
  ·exact(run_ok f _ _ _ _ h).to fun _ _ _ _=>d0z
  ·exact(run_ok f _ _ _ _ h).to fun _ _ _ _=>a0z
  ·exact(run_ok f _ _ _ _ h).to fun _ _ _ _=>a1g
  ·exact(run_ok f _ _ _ _ h).to fun _ _ _ _=>a2y
  ·exact(run_ok f _ _ _ _ h).to fun _ _ _ _=>b1w
  ·exact(run_ok f _ _ _ _ h).to fun _ _ _ _=>a1g
  ·split at h
   ·rename_i hk;intro R F m w h1 h2 h3 hX a ha;have h4:=run_ok f _ _ _ _ h R F m w h1 h2 h3 hX (fun h=>by cases h);exact⟨rfl,e1l hk h2 h3,fun listed hp=>h4 listed hp a ha⟩
   exact h
  exact h
 |f+1,.ops all l,k,e,H,h=>by
  unfold run at h;split at h
  ·exact(run_ok f _ _ _ _ h).to fun _ _ _ _=>a0f
  split at h
  ·rename_i hg;split at h
   ·rename_i hd;split at h
    ·rename_i hn;split at h
     ·rename_i hv;exact f1z hg hd hn hv (run_ok f _ _ _ _ h)
     split at h
     ·rename_i hv;exact e9e hg hd hn hv (run_ok f _ _ _ _ h)
     exact h
    exact h
   rename_i hd;split at h
   ·rename_i hv;exact e9j hg hd hv (run_ok f _ _ _ _ h)
   exact h
  split at h
  ·rename_i hg;split at h
   ·rename_i hd;split at h
    ·rename_i hn;exact e8x hg hd hn (run_ok f _ _ _ _ h)
    exact h
   exact h
  exact h
 |f+1,.qop all l,k,e,H,h=>by
  unfold run at h;split at h
  ·intro R F m w h1 h2 h3 hX;refine d9g fun a ha w'⟨F',hle,hs⟩=> ?_;exact run_ok f _ _ _ _ h R F' m w' (h1.mono (Keep.frz hle)) (h2.mono (Keep.frz hle)) hs (hX.keep (Keep.frz hle)) a ha
  split at h
  ·rename_i hg;split at h
   ·rename_i hd;split at h
    ·rename_i hn;split at h
     ·rename_i hv;exact d5t hg hd hn (fun R F m g1 g2 _=>e7p g1 g2 wOkC hv) (run_ok f _ _ _ _ h)
     exact h
    exact h
   exact h
  split at h
  ·rename_i hg;split at h
   ·rename_i hd;split at h
    ·rename_i hn;intro R F m w h1 h2 h3 hX;exact a6l hd hn (c5u h1 hg) (run_ok f _ _ _ _ h R F ((_,undef)::m) w (h1.put rfl) h2 h3 hX)
    exact h
   exact h
  exact h
 |f+1,.mix all p ks el,k,e,H,h=>by
  unfold run at h;split at h
  ·rename_i i p;split at h
   ·rename_i o hi;exact e2m hi (run_ok f _ _ _ _ h)
   exact h
  ·rename_i i p;split at h
   ·rename_i o hi hk;split at h
    ·rename_i hg;split at h
     ·rename_i hd;split at h
      ·rename_i hn;split at h
       ·rename_i hv;exact d6c hi hk hg hd hn (fun R F m g1 g2 _ hF=>e7p g1 g2 (wOkM hk g2 hF) hv) (run_ok f _ _ _ _ h)
       exact h
      exact h
     exact h
    split at h
    ·rename_i hg;split at h
     ·rename_i hd;split at h
      ·rename_i hn;intro R F m w h1 h2 h3 hX hF listed hp;have hp:=d8a hp;exact d_of i hi hp.1 hd hn (c5u h1 hg) (e1l hk h2 h3) (run_ok f _ _ _ _ h R F ((_,undef)::m) w (h1.put rfl) h2 h3 hX hF _ hp.2)
      exact h
     exact h
    exact h
   exact h
  exact h
end
set_option linter.unusedVariables false
set_option linter.unusedSimpArgs false
structure QV(ty:Nat->Type)where
 α:Type
 x:Option α
 v:α->AV ty
structure EV(ty:Nat->Type)where
 α:Type
 x:Option α
 nx:α->St ty
def bndA{ty:Nat->Type}(e:AE ty)(dflt:Int):Option Operand->Option Int
 |none=>some dflt
 |some o=>match opA e o with
  |some (.int .i64 z)=>some z
  |_=>none
section
variable{P:Program}(T:Tbl P)
def d7y(e:AE T.ty)(H:List (AO T.ty)):Op->Option (QV T.ty)
 | .index t x y=>match opA e x,opA e y,T.und t with
   |some (.str l),some (.int _ z),some .string=>some ⟨Int,sidx l z,fun v=> .int .u8 v⟩
   |_,_,_=>none
 | .slice t x lo hi none=>match opA e x,T.und t with
   |some (.str l),some .string=>match bndA e 0 lo,bndA e l.length hi with
    |some a,some b=>some ⟨Bs,ssl l a b,fun v=> .str v⟩
    |_,_=>none
   |some (.sl c xs),some (.slice el)=>match T.size el with
    |some q=>match Nat.beq q (T.rp c).k,bndA e 0 lo,bndA e xs.length hi with
     |true,some a,some b=>some ⟨List (T.ty c),lsl xs a b,fun v=> .sl c v⟩
     |_,_,_=>none
    |none=>none
   |_,_=>none
 | .binOp op _ x y _=>match op,opA e x,opA e y with
   | .add,some (.str a),some (.str b)=>some ⟨Bs,scat a b,fun v=> .str v⟩
   | .quo,some (.int k a),some (.int k' b)=>match decide (k'=k)with
     |true=>some ⟨Int,quo k a b,fun v=> .int k v⟩
     |false=>none
   | .rem,some (.int k a),some (.int k' b)=>match decide (k'=k)with
     |true=>some ⟨Int,rem a b,fun v=> .int k v⟩
     |false=>none
   | .shl,some (.int k a),some (.int _ b)=>some ⟨Int,shl k a b,fun v=> .int k v⟩
   | .shr,some (.int k a),some (.int _ b)=>some ⟨Int,shr k a b,fun v=> .int k v⟩
   |_,_,_=>none
 | .indexAddr t x y=>match opA e x,opA e y,T.und t with
   |some (.sl c xs),some (.int _ z),some (.slice el)=>match T.size el with
    |some q=>match Nat.beq q (T.rp c).k with
     |true=>some ⟨T.ty c,ix xs z,fun v=> .el c v 0⟩
     |false=>none
    |none=>none
   |some (.row i),some (.int _ z),some (.slice el)=>match T.size el,H[i]? with
    |some q,some (.row _ q' c xs)=>match Nat.beq q (T.rp c).k,Nat.beq q' (T.rp c).k with
     |true,true=>some ⟨T.ty c,ix xs z,fun v=> .rel i c v z.toNat 0⟩
     |_,_=>none
    |some q,some (.krow _ _ q' c xs)=>match Nat.beq q (T.rp c).k,Nat.beq q' (T.rp c).k with
     |true,true=>some ⟨T.ty c,ix xs z,fun v=> .rel i c v z.toNat 0⟩
     |_,_=>none
    |_,_=>none
   |_,_,_=>none
 |_=>none
def evV(n:Nat)(s:St T.ty):Option (EV T.ty):=match s with
 |⟨.ops all (o::l),k,e,H⟩=>match a9a all e o.guard,o.dst with
  |true,some d=>match Nat.blt d n,d7y T e H o.op with
   |true,some q=>some ⟨q.α,q.x,fun v=>⟨.ops all l,k,(d,q.v v)::e,H⟩⟩
   |_,_=>none
  |_,_=>none
 |⟨.qop all (o::l),k,e,H⟩=>match a9a all e o.guard,o.dst with
  |true,some d=>match Nat.blt d n,d7y T e H o.op with
   |true,some q=>some ⟨q.α,q.x,fun v=>⟨.qop all l,k,(d,q.v v)::e,H⟩⟩
   |_,_=>none
  |_,_=>none
 |⟨.mix all (.tk i p) ks el,k,e,H⟩=>match all[i]?,c7n ks H with
  |some o,true=>match a9a all e o.guard,o.dst with
   |true,some d=>match Nat.blt d n,d7y T e H o.op with
    |true,some q=>some ⟨q.α,q.x,fun v=>⟨.mix all p ks el,k,(d,q.v v)::e,H⟩⟩
    |_,_=>none
   |_,_=>none
  |_,_=>none
 |_=>none
end
section
variable{P:Program}{T:Tbl P}{R:List OE}{F:Frz}{e:AE T.ty}{m:Env}{H:List (AO T.ty)}
variable{K:Snap}{W:World->Prop}{dst:Option Tmp}{type:TypeId}{pos:String}{after:Array Edge}{guard:Option (Nat×Bool)}
theorem c2b(hE:ConcE T.rp R F e m){d z:Int}{o:Option Operand}(h:bndA e d o=some z):(o=none/\z=d)∨∃x,o=some x/\opv m x=some (.int .i64 z):=by
 cases o with
 |none=>simp only [bndA,Option.some.injEq]at h;exact .inl ⟨rfl,h.symm⟩
 |some x=>
  simp only [bndA]at h;split at h
  ·rename_i hx;cases h;obtain⟨u,h1,h2⟩:=a0r hE hx;simp only [Conc]at h2;subst h2;exact .inr ⟨x,rfl,h1⟩
  cases h
theorem f4s(hE:ConcE T.rp R F e m)(hH:RelH T.rp K R F H R)(hR:c8g R):∀{op:Op}{q:QV T.ty},d7y T e H op=some q->∀v,q.x=some v->∃u,Conc T.rp R F (q.v v) u/\c6b P W m ⟨dst,op,type,pos,after,guard⟩ u:=by
 intro op q hq;unfold d7y at hq;split at hq
 ·split at hq
  ·rename_i hx hy hu;cases hq;intro v hv;obtain⟨u,h1,h2⟩:=a0r hE hx;obtain⟨z,h3,h4⟩:=a0r hE hy;simp only [Conc]at h2 h4;subst h2;subst h4;exact⟨_,rfl,fun w _ _ _ ha=>by simp [execOp,ha.op h1,ha.op h3,d7e (T.undOk hu) hv]⟩
  cases hq
 ·rename_i t x lo hi;split at hq
  ·rename_i l hx hu;split at hq
   ·rename_i a b ha0 hb0;cases hq;intro v hv;obtain⟨u,h1,h2⟩:=a0r hE hx;simp only [Conc]at h2;subst h2;refine⟨_,rfl,fun w _ _ _ ha=> ?_⟩;rcases c2b hE ha0 with⟨rfl,rfl⟩|⟨xl,rfl,h5⟩<;>rcases c2b hE hb0 with⟨rfl,rfl⟩|⟨xh,rfl,h6⟩
    ·simp [execOp,ha.op h1,b2r (T.undOk hu),c4t (T.undOk hu) hv (.inr ⟨rfl,rfl⟩) (.inr ⟨rfl,rfl⟩)]
    ·simp [execOp,ha.op h1,ha.op h6,b2r (T.undOk hu),c4t (T.undOk hu) hv (.inr ⟨rfl,rfl⟩) (.inl rfl)]
    ·simp [execOp,ha.op h1,ha.op h5,b2r (T.undOk hu),c4t (T.undOk hu) hv (.inl rfl) (.inr ⟨rfl,rfl⟩)]
    simp [execOp,ha.op h1,ha.op h5,ha.op h6,b2r (T.undOk hu),c4t (T.undOk hu) hv (.inl rfl) (.inl rfl)]
   cases hq
  ·rename_i c xs el hx hu;split at hq
   ·rename_i q0 hS;split at hq
    ·rename_i a b hk ha0 hb0;have hk:=Nat.eq_of_beq_eq_true hk;cases hq;intro v hv;obtain⟨u,h1,a',m',n',h2,h3⟩:=a0r hE hx;subst h2;have hS:=T.sizeOk hS;rw [hk]at hS;have go:∀lo' hi',(lo'=some (.int .i64 a)∨lo'=none/\a=0)->(hi'=some (.int .i64 b)∨hi'=none/\b=xs.length)->
      ∃a2 m2 n2,(∀w,(Instr.sliceAt t (.slice a' m' n') lo' hi' none).run P w= .ok (.slice a2 m2 n2) w)/\SlR (T.rp c) F a2 m2 n2 v:=by
      intro lo' hi' g1 g2;obtain⟨a2,m2,n2,g3,g4⟩:=e5f (P:=P) (T.undOk hu) hS h3 hv g1 g2;exact⟨a2,m2,n2,g3,g4⟩
     rcases c2b hE ha0 with⟨rfl,rfl⟩|⟨xl,rfl,h5⟩<;>rcases c2b hE hb0 with⟨rfl,rfl⟩|⟨xh,rfl,h6⟩
     ·obtain⟨a2,m2,n2,g1,g2⟩:=go none none (.inr ⟨rfl,rfl⟩) (.inr ⟨rfl,rfl⟩);exact⟨_,⟨a2,m2,n2,rfl,g2⟩,fun w _ _ _ ha=>by simp [execOp,ha.op h1,g1 w]⟩
     ·obtain⟨a2,m2,n2,g1,g2⟩:=go none _ (.inr ⟨rfl,rfl⟩) (.inl rfl);exact⟨_,⟨a2,m2,n2,rfl,g2⟩,fun w _ _ _ ha=>by simp [execOp,ha.op h1,ha.op h6,g1 w]⟩
     ·obtain⟨a2,m2,n2,g1,g2⟩:=go _ none (.inl rfl) (.inr ⟨rfl,rfl⟩);exact⟨_,⟨a2,m2,n2,rfl,g2⟩,fun w _ _ _ ha=>by simp [execOp,ha.op h1,ha.op h5,g1 w]⟩
     obtain⟨a2,m2,n2,g1,g2⟩:=go _ _ (.inl rfl) (.inl rfl);exact⟨_,⟨a2,m2,n2,rfl,g2⟩,fun w _ _ _ ha=>by simp [execOp,ha.op h1,ha.op h5,ha.op h6,g1 w]⟩
    cases hq
   cases hq
  cases hq
 ·split at hq
  ·rename_i hx hy;cases hq;intro v hv;obtain⟨u,h1,h2⟩:=a0r hE hx;obtain⟨z,h3,h4⟩:=a0r hE hy;simp only [Conc]at h2 h4;subst h2;subst h4;rename_i a b;refine⟨_,rfl,fun w _ _ _ ha=> ?_⟩;have hv:scat a b=some v:=hv;have e1:∀t x y,(eqGuard .add t x y (vs a) (vs b)).run P w= .ok () w:=fun _ _ _=>b1y;have e2:∀t,(binOp .add t (vs a) (vs b)).run P w= .ok (vs v) w:=fun t=>c2i (by simp [d1d,hv]);simp [execOp,ha.op h1,ha.op h3,e1,e2]
  ·rename_i hx hy;split at hq
   ·rename_i hk;have hk:=of_decide_eq_true hk;subst hk;cases hq;intro v hv;obtain⟨u,h1,h2⟩:=a0r hE hx;obtain⟨z,h3,h4⟩:=a0r hE hy;simp only [Conc]at h2 h4;subst h2;subst h4;refine⟨_,rfl,fun w _ _ _ ha=> ?_⟩;dsimp only at hv;unfold quo at hv;split at hv
    ·cases hv
    rename_i h0;cases hv;simp [execOp,ha.op h1,ha.op h3,a2w,binOp,Op.intDiv,h0]
   cases hq
  ·rename_i hx hy;split at hq
   ·rename_i hk;have hk:=of_decide_eq_true hk;subst hk;cases hq;intro v hv;obtain⟨u,h1,h2⟩:=a0r hE hx;obtain⟨z,h3,h4⟩:=a0r hE hy;simp only [Conc]at h2 h4;subst h2;subst h4;refine⟨_,rfl,fun w _ _ _ ha=> ?_⟩;dsimp only at hv;unfold rem at hv;split at hv
    ·cases hv
    rename_i h0;cases hv;simp [execOp,ha.op h1,ha.op h3,a2w,binOp,Op.intDiv,h0]
   cases hq
  ·rename_i hx hy;cases hq;intro v hv;obtain⟨u,h1,h2⟩:=a0r hE hx;obtain⟨z,h3,h4⟩:=a0r hE hy;simp only [Conc]at h2 h4;subst h2;subst h4;refine⟨_,rfl,fun w _ _ _ ha=> ?_⟩;dsimp only at hv;unfold shl at hv;split at hv
   ·cases hv
   rename_i h0;cases hv;simp [execOp,ha.op h1,ha.op h3,a2w,binOp,Op.shift,h0]
  ·rename_i hx hy;cases hq;intro v hv;obtain⟨u,h1,h2⟩:=a0r hE hx;obtain⟨z,h3,h4⟩:=a0r hE hy;simp only [Conc]at h2 h4;subst h2;subst h4;refine⟨_,rfl,fun w _ _ _ ha=> ?_⟩;dsimp only at hv;unfold shr at hv;split at hv
   ·cases hv
   rename_i h0;cases hv;simp [execOp,ha.op h1,ha.op h3,a2w,binOp,Op.shift,h0]
  cases hq
 ·split at hq
  ·rename_i c xs ik z el hx hy hu;split at hq
   ·rename_i q0 hS;split at hq
    ·rename_i hk;have hk:=Nat.eq_of_beq_eq_true hk;cases hq;intro v hv;obtain⟨u,h1,a',m',n',h2,h3⟩:=a0r hE hx;obtain⟨y',h4,h5⟩:=a0r hE hy;simp only [Conc]at h5;subst h2;subst h5;have hS:=T.sizeOk hS;rw [hk]at hS;obtain⟨b,o,cs,g1,g2,g3⟩:=b5z (P:=P) (T.undOk hu) hS h3 hv;exact⟨_,⟨b,o,cs,g1,g2,rfl⟩,fun w _ _ _ ha=>by simp [execOp,ha.op h1,ha.op h4,g3]⟩
    cases hq
   cases hq
  ·rename_i i ik z el hx hy hu;split at hq
   ·rename_i q0 el' q' c xs hS hi;split at hq
    ·rename_i hk hk';have hk:=Nat.eq_of_beq_eq_true hk;have hk':=Nat.eq_of_beq_eq_true hk';cases hq;intro v hv;obtain⟨u,h1,e2,q2,a',m',n',us,h2,h3⟩:=a0r hE hx;obtain⟨y',h4,h5⟩:=a0r hE hy;simp only [Conc]at h5;subst h3;subst h5;obtain⟨en,g1,a2,m2,n2,us2,g2,g3⟩:=hH.2 i _ hi;subst g2;rw [h2]at g1;cases g1;have hS:=T.sizeOk hS;rw [hk]at hS;dsimp only at hv;unfold ix at hv;split at hv
     ·rename_i h0;obtain⟨hlt,_⟩:=List.getElem?_eq_some_iff.1 hv;obtain⟨hm,hr⟩:=g3;obtain⟨cs,c1,c2⟩:=RowR.get hr hv;have hpos:m'≠0:=by omega
      obtain⟨b,rfl⟩:=hR i _ _ _ _ _ _ h2 hpos;subst hk';refine⟨_,⟨el',b,m',n',us,cs,h2,c2,c1,rfl⟩,fun w _ _ _ ha=> ?_⟩;simp [execOp,ha.op h1,ha.op h4,a9c (T.undOk hu) hS h0 (show z<(m':Int) by omega)]
     cases hv
    cases hq
   ·rename_i q0 kj el' q' c xs hS hi;split at hq
    ·rename_i hk hk';have hk:=Nat.eq_of_beq_eq_true hk;have hk':=Nat.eq_of_beq_eq_true hk';cases hq;intro v hv;obtain⟨u,h1,e2,q2,a',m',n',us,h2,h3⟩:=a0r hE hx;obtain⟨y',h4,h5⟩:=a0r hE hy;simp only [Conc]at h5;subst h3;subst h5;obtain⟨en,g1,_,a2,m2,n2,us2,g2,g3⟩:=hH.2 i _ hi;subst g2;rw [h2]at g1;cases g1;have hS:=T.sizeOk hS;rw [hk]at hS;dsimp only at hv;unfold ix at hv;split at hv
     ·rename_i h0;obtain⟨hlt,_⟩:=List.getElem?_eq_some_iff.1 hv;obtain⟨hm,hr⟩:=g3;obtain⟨cs,c1,c2⟩:=RowR.get hr hv;have hpos:m'≠0:=by omega
      obtain⟨b,rfl⟩:=hR i _ _ _ _ _ _ h2 hpos;subst hk';refine⟨_,⟨el',b,m',n',us,cs,h2,c2,c1,rfl⟩,fun w _ _ _ ha=> ?_⟩;simp [execOp,ha.op h1,ha.op h4,a9c (T.undOk hu) hS h0 (show z<(m':Int) by omega)]
     cases hv
    cases hq
   cases hq
  cases hq
 cases hq
end
section
variable{P:Program}{T:Tbl P}{R:List OE}{F:Frz}{e:AE T.ty}{m:Env}{H:List (AO T.ty)}{K:Snap}{W:World->Prop}
theorem d3e(hE:ConcE T.rp R F e m)(hH:RelH T.rp K R F H R)(hR:c8g R){o:Oper}{q:QV T.ty}(h:d7y T e H o.op=some q)(v:q.α)(hv:q.x=some v):∃u,Conc T.rp R F (q.v v) u/\c6b P W m o u:=
 f4s (dst:=o.dst) (type:=o.type) (pos:=o.pos) (after:=o.after) (guard:=o.guard) hE hH hR h v hv
end
section
variable{P:Program}{T:Tbl P}{Q:Exit->Act->World->Prop}{n:Nat}{F0:Frz}{w0:World}{X:List Nat}{K:Snap}
theorem f4u{s:St T.ty}{q:EV T.ty}(h:evV T n s=some q)(v:q.α)(hv:q.x=some v)(k:Sm T Q n F0 w0 X K (q.nx v)):Sm T Q n F0 w0 X K s:=by
 unfold evV at h;split at h
 ·rename_i all o l its e H;split at h
  ·rename_i d hg hd;split at h
   ·rename_i q' hn hq;cases h;intro R F m w h1 h2 h3 hX;obtain⟨u,hu,hr⟩:=d3e (W:=CH F0 w0 X F R) h1 h2 h3.rows hq v hv;exact a7r hd (by simpa using hn) (a2g h1 hg) (fun a ha=>hr w ⟨F,Frz.refl F,h3⟩ n a ha) (k R F ((d,u)::m) w (h1.put hu) h2 h3 hX)
   cases h
  cases h
 ·split at h
  ·rename_i d hg hd;split at h
   ·rename_i q' hn hq;cases h;exact d5t hg hd hn (fun R F m g1 g2 g3=>d3e g1 g2 g3 hq v hv) k
   cases h
  cases h
 ·split at h
  ·rename_i hi hk;split at h
   ·rename_i d hg hd;split at h
    ·rename_i q' hn hq;cases h;exact d6c hi hk hg hd hn (fun R F m g1 g2 g3 _=>d3e g1 g2 g3 hq v hv) k
    cases h
   cases h
  cases h
 cases h
def askT(all:Array Oper)(o:Oper):Option Nat:=match o.guard with
 |some (j,_)=>(all[j]?).bind (·.dst)
 |none=>match o.op with
  | .pick (.tmp t) _ _=>some t
  |_=>none
def evC(s:St T.ty):Option (Bool×St T.ty×St T.ty):=match s with
 |⟨.code (.cond (.tmp t) x y),k,e,H⟩=>match e.lookup t with
  |some (.ob b)=>some (b,⟨.code x,k,(t,.lb true b)::e,H⟩,⟨.code y,k,(t,.lb false b)::e,H⟩)
  |_=>none
 |⟨.ops all (o::l),k,e,H⟩=>match o.guard with
  |some (j,_)=>match(all[j]?).bind (·.dst)with
   |some t=>match e.lookup t with
    |some (.ob b)=>some (b,⟨.ops all (o::l),k,(t,.lb true b)::e,H⟩,⟨.ops all (o::l),k,(t,.lb false b)::e,H⟩)
    |_=>none
   |none=>none
  |none=>match o.op with
   | .pick (.tmp t) _ _=>match e.lookup t with
     |some (.ob b)=>some (b,⟨.ops all (o::l),k,(t,.lb true b)::e,H⟩,⟨.ops all (o::l),k,(t,.lb false b)::e,H⟩)
     |_=>none
   |_=>none
 |⟨.qop all (o::l),k,e,H⟩=>match o.guard with
  |some (j,_)=>match(all[j]?).bind (·.dst)with
   |some t=>match e.lookup t with
    |some (.ob b)=>some (b,⟨.qop all (o::l),k,(t,.lb true b)::e,H⟩,⟨.qop all (o::l),k,(t,.lb false b)::e,H⟩)
    |_=>none
   |none=>none
  |none=>match o.op with
   | .pick (.tmp t) _ _=>match e.lookup t with
     |some (.ob b)=>some (b,⟨.qop all (o::l),k,(t,.lb true b)::e,H⟩,⟨.qop all (o::l),k,(t,.lb false b)::e,H⟩)
     |_=>none
   |_=>none
 |⟨.mix all (.tk i p) ks el,k,e,H⟩=>match all[i]? with
  |some o=>match askT all o with
   |some t=>match e.lookup t with
    |some (.ob b)=>some (b,⟨.mix all (.tk i p) ks el,k,(t,.lb true b)::e,H⟩,⟨.mix all (.tk i p) ks el,k,(t,.lb false b)::e,H⟩)
    |_=>none
   |none=>none
  |none=>none
 |_=>none
theorem d6z{all:Array Oper}{p:Pl}{ks:List Nat}{el:Bool}{k:List It}{e:AE T.ty}{H:List (AO T.ty)}{t:Nat}{b c:Bool}(ht:e.lookup t=some (.ob b))(hb:b=c)(h:Sm T Q n F0 w0 X K ⟨.mix all p ks el,k,(t,.lb c b)::e,H⟩):Sm T Q n F0 w0 X K ⟨.mix all p ks el,k,e,H⟩:=by
 intro R F m w h1 h2 h3 hX hF listed hp;obtain⟨u,h4,h5⟩:=h1.get ht;simp only [Conc]at h5;subst h5;exact d0b t h4 hb (h R F _ w (h1.put ⟨rfl,hb⟩) h2 h3 hX hF listed hp)
theorem c4c{all:Array Oper}{l:List Oper}{k:List It}{e:AE T.ty}{H:List (AO T.ty)}{t:Nat}{b c:Bool}(ht:e.lookup t=some (.ob b))(hb:b=c)(h:Sm T Q n F0 w0 X K ⟨.qop all l,k,(t,.lb c b)::e,H⟩):Sm T Q n F0 w0 X K ⟨.qop all l,k,e,H⟩:=by
 intro R F m w h1 h2 h3 hX;obtain⟨u,h4,h5⟩:=h1.get ht;simp only [Conc]at h5;subst h5;exact e1e t h4 hb (h R F _ w (h1.put ⟨rfl,hb⟩) h2 h3 hX)
theorem c3s{all:Array Oper}{l:List Oper}{k:List It}{e:AE T.ty}{H:List (AO T.ty)}{t:Nat}{b c:Bool}(ht:e.lookup t=some (.ob b))(hb:b=c)(h:Sm T Q n F0 w0 X K ⟨.ops all l,k,(t,.lb c b)::e,H⟩):Sm T Q n F0 w0 X K ⟨.ops all l,k,e,H⟩:=by
 intro R F m w h1 h2 h3 hX;obtain⟨u,h4,h5⟩:=h1.get ht;simp only [Conc]at h5;subst h5;exact a4a t h4 hb (h R F _ w (h1.put ⟨rfl,hb⟩) h2 h3 hX)
theorem d5w{x:Code}{k:List It}{e:AE T.ty}{H:List (AO T.ty)}{t:Nat}{b c:Bool}(ht:e.lookup t=some (.ob b))(hb:b=c)(h:Sm T Q n F0 w0 X K ⟨.code x,k,(t,.lb c b)::e,H⟩):Sm T Q n F0 w0 X K ⟨.code x,k,e,H⟩:=by
 intro R F m w h1 h2 h3 hX;obtain⟨u,h4,h5⟩:=h1.get ht;simp only [Conc]at h5;subst h5;exact a2p t h4 hb (h R F _ w (h1.put ⟨rfl,hb⟩) h2 h3 hX)
theorem e7m{s s1 s2:St T.ty}{b:Bool}(h:evC s=some (b,s1,s2))(k1:b=true->Sm T Q n F0 w0 X K s1)(k2:b=false->Sm T Q n F0 w0 X K s2):Sm T Q n F0 w0 X K s:=by
 unfold evC at h;split at h
 ·split at h
  ·rename_i t x y k e H _ _ hl;cases h;cases b with
   |true=>
    refine d5w hl rfl fun R F m w h1 h2 h3 hX=> ?_;obtain⟨u,h4,h5⟩:=h1.get (t:=t) (x:= .lb true true) (by simp);simp only [Conc]at h5;rw [h5.1]at h4;exact a3p h4 (k1 rfl R F m w h1 h2 h3 hX)
   |false=>
    refine d5w hl rfl fun R F m w h1 h2 h3 hX=> ?_;obtain⟨u,h4,h5⟩:=h1.get (t:=t) (x:= .lb false false) (by simp);simp only [Conc]at h5;rw [h5.1]at h4;exact a2e h4 (k2 rfl R F m w h1 h2 h3 hX)
  cases h
 ·split at h
  ·split at h
   ·split at h
    ·rename_i hl;cases h;cases b with
     |true=>exact c3s hl rfl (k1 rfl)
     |false=>exact c3s hl rfl (k2 rfl)
    cases h
   cases h
  split at h
  ·split at h
   ·rename_i hl;cases h;cases b with
    |true=>exact c3s hl rfl (k1 rfl)
    |false=>exact c3s hl rfl (k2 rfl)
   cases h
  cases h
 ·split at h
  ·split at h
   ·split at h
    ·rename_i hl;cases h;cases b with
     |true=>exact c4c hl rfl (k1 rfl)
     |false=>exact c4c hl rfl (k2 rfl)
    cases h
   cases h
  split at h
  ·split at h
   ·rename_i hl;cases h;cases b with
    |true=>exact c4c hl rfl (k1 rfl)
    |false=>exact c4c hl rfl (k2 rfl)
   cases h
  cases h
 ·split at h
  ·split at h
   ·split at h
    ·rename_i hl;cases h;cases b with
     |true=>exact d6z hl rfl (k1 rfl)
     |false=>exact d6z hl rfl (k2 rfl)
    cases h
   cases h
  cases h
 cases h
end
set_option linter.unusedVariables false
set_option linter.unusedSimpArgs false
mutual
def rowA{ty:Nat->Type}:AV ty->Option Nat | .row i=>some i | .agg l=>rowL l | .tup l=>rowL l |_=>none
def rowL{ty:Nat->Type}:List (AV ty)->Option Nat
 | []=>none
 |x::l=>match rowA x with
  |some i=>some i
  |none=>rowL l
 end
mutual
def c6g{ty:Nat->Type}:AV ty->Bool | .agg l=>a9d l | .tup l=>a9d l | .bx _ _=>false | .row _=>false | .rel _ _ _ _ _=>false | .clo _ l=>a9d l | .fb l _=>a9d l | .sb _ _ _=>false | .rw _ _ _=>false |_=>true
def a9d{ty:Nat->Type}:List (AV ty)->Bool
 | []=>true
 |x::l=>match c6g x with
  |true=>a9d l
  |false=>false
 end
mutual
def cnv{ty:Nat->Type}:AV ty->AV ty->AV ty
 | .val v,y=>match y with
   | .sl c _=>match v with
     | .slice none 0 0=> .sl c []
     |v=> .val v
   |_=> .val v
 | .bool b,y=>match y with
   | .ob _=> .ob b
   |_=> .bool b
 | .lb c b,y=>match y with
   | .ob _=> .ob b
   |_=> .lb c b
 | .agg l,y=>match y with
   | .agg l'=> .agg (cnvL l l')
   |_=> .agg l
 | .tup l,y=>match y with
   | .tup l'=> .tup (cnvL l l')
   |_=> .tup l
 |x,_=>x
def cnvL{ty:Nat->Type}:List (AV ty)->List (AV ty)->List (AV ty) |x::l,y::l'=>cnv x y::cnvL l l' |l,_=>l end
section
variable{ty:Nat->Type}{rp:∀c,Rp (ty c)}{R R':List OE}{F F':Frz}
mutual
theorem Conc.pure:∀{x:AV ty}{v:Value},c6g x=true->Conc rp R F x v->Conc rp R' F x v
 | .int k x,v,_,h=>h
 | .bool b,v,_,h=>h
 | .ob b,v,_,h=>h
 | .lb c b,v,_,h=>h
 | .str l,v,_,h=>h
 | .val u,v,_,h=>h
 | .agg l,v,p,⟨cs,h1,h2⟩=>⟨cs,h1,ConcL.pure p h2⟩
 | .tup l,v,p,⟨cs,h1,h2⟩=>⟨cs,h1,ConcL.pure p h2⟩
 | .sl c xs,v,_,h=>h
 | .bx j o,v,p,_=>by cases p
 | .el c x o,v,_,h=>h
 | .row j,v,p,_=>by cases p
 | .rel j c x p o,v,q,_=>by cases q
 | .any,v,_,_=>trivial
 | .clo f l,v,p,⟨cs,h1,h2⟩=>⟨cs,h1,ConcL.pure p h2⟩
 | .fb l o,v,p,⟨b,cs,h1,h2,h3⟩=>⟨b,cs,h1,h2,ConcL.pure p h3⟩
 | .sb j c k,v,p,_=>by cases p
 | .rw j lo hi,v,p,_=>by cases p
theorem ConcL.pure:∀{l:List (AV ty)}{cs:List Value},a9d l=true->ConcL rp R F l cs->ConcL rp R' F l cs
 | [],_,_,h=>h
 |x::l,_,p,⟨v,k,h1,h2,h3⟩=>by
  unfold a9d at p;split at p
  ·rename_i hx;exact⟨v,k,h1,Conc.pure hx h2,ConcL.pure p h3⟩
  cases p
 end
mutual
theorem Conc.cnv:∀{x:AV ty}(y:AV ty){v:Value},Conc rp R F x v->Conc rp R F (Rt.cnv x y) v
 | .agg l,y,v,h=>by
  cases y<;>first|exact h|skip
  obtain⟨cs,h1,h2⟩:=h;exact⟨cs,h1,ConcL.cnv _ h2⟩
 | .tup l,y,v,h=>by
  cases y<;>first|exact h|skip
  obtain⟨cs,h1,h2⟩:=h;exact⟨cs,h1,ConcL.cnv _ h2⟩
 | .val u,y,v,h=>by
  unfold Rt.cnv;split
  ·split
   ·exact⟨none,0,0,h,SlR.nil _ _⟩
   exact h
  exact h
 | .int k x,y,v,h=>h
 | .bool b,y,v,h=>by cases y<;>exact h
 | .ob b,y,v,h=>h
 | .lb c b,y,v,h=>by
  cases y<;>first|exact h|(simp only [Conc]at h;exact h.1.trans (by rw [h.2]))
 | .str l,y,v,h=>h
 | .sl c xs,y,v,h=>h
 | .bx j o,y,v,h=>h
 | .el c x o,y,v,h=>h
 | .row j,y,v,h=>h
 | .rel j c x p o,y,v,h=>h
 | .any,y,v,h=>h
 | .clo f l,y,v,h=>h
 | .fb l o,y,v,h=>h
 | .sb j c k,y,v,h=>h
 | .rw j lo hi,y,v,h=>h
theorem ConcL.cnv:∀{l:List (AV ty)}(l':List (AV ty)){cs:List Value},ConcL rp R F l cs->ConcL rp R F (cnvL l l') cs
 | [],l',_,h=>by unfold cnvL;exact h
 |x::l,[],_,h=>by unfold cnvL;exact h
 |x::l,y::l',_,⟨v,k,h1,h2,h3⟩=>⟨v,k,h1,Conc.cnv y h2,ConcL.cnv l' h3⟩
 end
theorem d2f(h:F.le F'):Keep [] F R F':=⟨h,fun _ _ _ _ h=>by simp at h,fun _ _ _ _ _ _ _ h=>by simp at h⟩
end
section
variable{P:Program}(T:Tbl P)
def frzW:Nat->List (AV T.ty)->AE T.ty->List (AO T.ty)->Option (List (AV T.ty)×AE T.ty×List (AO T.ty))
 |0,_,_,_=>none
 |f+1,l,e,H=>match rowL l with
  |none=>some (l,e,H)
  |some i=>match H[i]? with
   |some (.row _ _ c xs)=>match putA i .gone (subH i (.sl c xs) H)with
    |some H'=>frzW f (AV.subL i (.sl c xs) l) (subE i (.sl c xs) e) H'
    |none=>none
   |_=>none
end
section
variable{P:Program}{T:Tbl P}{F0:Frz}{w0:World}{X:List Nat}{Kz:Snap}
theorem c9q{α:Type}(x:α):∀(l:List α)(i:Nat),i<l.length->(x::l.eraseIdx i).Perm (l.set i x)
 | [],_,h=>absurd h (Nat.not_lt_zero _)
 |_::_,0,_=>List.Perm.refl _
 |y::l,i+1,h=>(List.Perm.swap y x _).trans ((c9q x l i (Nat.lt_of_succ_lt_succ h)).cons y)
theorem frz1{R:List OE}{F:Frz}{w:World}{H:List (AO T.ty)}{i el q c:Nat}{xs:List (T.ty c)}(hH:RelH T.rp Kz R F H R)(hS:HS F0 w0 X F R w)(hX:LG T X R F)(hi:H[i]?=some (.row el q c xs)):
 ∃R' F',Turn T.rp i (.sl c xs) R F R' F'/\RelH T.rp Kz R' F' ((subH i (.sl c xs) H).set i .gone) R'/\HS F0 w0 X F' R' w/\LG T X R' F':=by
 obtain⟨en,h1,a,m,n,us,rfl,h2⟩:=hH.2 i _ hi;obtain⟨hlt,hget⟩:=List.getElem?_eq_some_iff.1 h1;have hother:∀(j b:Nat)t(cs:List Value),R[j]?=some (.box b t cs)->j≠i:=by
  intro j b t cs hj e;subst e;rw [h1]at hj;cases hj
 obtain⟨F',hle,h3,h4⟩:=c8j hS h1 h2 (fun gb hb=>by
  rcases(hS.sep _ (List.mem_of_getElem? h1) gb hb).2 with h|h
  ·exact h
  exfalso;obtain⟨j,hj0⟩:=List.mem_iff_getElem?.1 h;obtain⟨t,cs,hj⟩:=hX.1 j gb hj0;have hji:=hother j gb t cs hj;obtain⟨hj1,hj2⟩:=List.getElem?_eq_some_iff.1 hj;have hp:=List.pairwise_iff_getElem.1 hS.dis;rcases Nat.lt_or_ge i j with h5|h5
  ·exact hp i j hlt hj1 h5 gb (hget▸hb) (by rw [hj2];rfl)
  exact hp j i hj1 hlt (by omega) gb (by rw [hj2];rfl) (hget▸hb))
 have hT:Turn T.rp i (.sl c xs) R F (R.set i (.row 0 0 none 0 0 [])) F':=by
  refine⟨hle,fun j b t cs hj=>⟨cs,?_⟩,fun j e' q' a' m' n' xs' hji hj=> ?_,fun v hv=> ?_⟩
  ·rw [List.getElem?_set,if_neg (fun e=>hother j b t cs hj e.symm)];exact hj
  ·rw [List.getElem?_set,if_neg (fun e=>hji e.symm)];exact hj
  obtain⟨e',q',a',m',n',xs',h5,h6⟩:=hv;rw [h1]at h5;cases h5;exact⟨a,m,n,h6,h4⟩
 refine⟨_,F',hT,(hH.sub hT).set i trivial,(h3.nilRow 0 0).perm (c9q _ _ _ hlt),fun j b hb=> ?_,T.glMono hle hX.2⟩;obtain⟨t,cs,hj⟩:=hX.1 j b hb;exact⟨t,cs,by rw [List.getElem?_set,if_neg (fun e=>hother j b t cs hj e.symm)];exact hj⟩
theorem b0q{m:Env}{w:World}{us:List Value}:∀{f:Nat}{l:List (AV T.ty)}{e:AE T.ty}{H:List (AO T.ty)}{l':List (AV T.ty)}{e':AE T.ty}{H':List (AO T.ty)}{R:List OE}{F:Frz},frzW T f l e H=some (l',e',H')->
 ConcE T.rp R F e m->RelH T.rp Kz R F H R->HS F0 w0 X F R w->LG T X R F->ConcL T.rp R F l us->∃R' F',F.le F'/\ConcE T.rp R' F' e' m/\RelH T.rp Kz R' F' H' R'/\HS F0 w0 X F' R' w/\LG T X R' F'/\ConcL T.rp R' F' l' us
 |0,_,_,_,_,_,_,_,_,h,_,_,_,_,_=>by simp [frzW]at h
 |f+1,l,e,H,l',e',H',R,F,h,hE,hH,hS,hX,hl=>by
  unfold frzW at h;split at h
  ·cases h;exact⟨R,F,Frz.refl F,hE,hH,hS,hX,hl⟩
  split at h
  ·rename_i i _ el q c xs hi;split at h
   ·rename_i H2 hput;have hput:=b9n hput;subst hput;obtain⟨R',F',hT,g1,g2,g3⟩:=frz1 hH hS hX hi;obtain⟨R2,F2,k1,k2⟩:=b0q h (hE.sub hT) g1 g2 g3 (hl.sub hT);exact⟨R2,F2,hT.le.trans k1,k2⟩
   cases h
  cases h
theorem c1a{R:List OE}{F:Frz}{e:AE T.ty}{m:Env}(hE:ConcE T.rp R F e m){l:List Operand}{r:List (AV T.ty)}(h:opL e l=some r):∃us,opvs m l=some us/\ConcL T.rp R F r us:=d4z hE h
def FnC(T:Tbl P)(f:FuncId){ρ:Type}(az:List (AV T.ty))(m:Option ρ)(res:ρ->AV T.ty):Prop:= Ent P f/\∀r,m=some r->∀w F,Sat F w->T.gl F->∀us,ConcL T.rp [] F az us->Calls P f us.toArray w fun e w'=>∃v F',e= .returned v/\HS F w [] F' [] w'/\Conc T.rp [] F' (res r) v
def calA{ty:Nat->Type}:AV ty->Option (FuncId×List (AV ty))
 | .val (.func (.func f) fi ca)=>match fi.toList,ca.toList with
   | [],[]=>some (f,[])
   |_,_=>none
 | .clo f l=>some (f,l)
 |_=>none
theorem d3j{R:List OE}{F:Frz}{x:AV T.ty}{f:FuncId}{l:List (AV T.ty)}{v:Value}(h:calA x=some (f,l))(hc:Conc T.rp R F x v):∃cs:List Value,v= .func (.func f) #[] cs.toArray/\ConcL T.rp R F l cs:=by
 unfold calA at h;split at h
 ·rename_i f' fi ca;split at h
  ·rename_i hfi hca;cases h;have hfi:fi= #[]:=Array.toList_eq_nil_iff.1 hfi;have hca:ca= #[]:=Array.toList_eq_nil_iff.1 hca;subst hfi;subst hca;exact⟨[],hc,rfl⟩
  cases h
 ·cases h;exact hc
 cases h
structure KV(ty:Nat->Type)where
 f:FuncId
 az:List (AV ty)
 nx:AV ty->St ty
end
section
variable{P:Program}(T:Tbl P)
def evK(n:Nat)(s:St T.ty):Option (KV T.ty):=match s with
 |⟨.ops all (o::l),k,e,H⟩=>match a9a all e o.guard,o.dst,o.op with
  |true,some d,.call ⟨.value c,args,_⟩=>match Nat.blt d n,opA e c,opL e args.toList with
   |true,some y,some az=>match calA y with
    |some (f,caps)=>match frzW T (H.length+1) (az++caps) e H with
     |some (as',e',H')=>some ⟨f,as',fun v=>⟨.ops all l,k,(d,v)::e',H'⟩⟩
     |none=>none
    |none=>none
   |_,_,_=>none
  |_,_,_=>none
 |_=>none
def evKq(n:Nat)(s:St T.ty):Option (KV T.ty):=match s with
 |⟨.qop all (o::l),k,e,H⟩=>match a9a all e o.guard,o.dst,o.op with
  |true,some d,.call ⟨.value c,args,_⟩=>match Nat.blt d n,opA e c,opL e args.toList with
   |true,some (.val (.func (.func f) fi ca)),some az=>match fi.toList,ca.toList with
    | [],[]=>some ⟨f,az,fun v=>⟨.qop all l,k,(d,v)::e,H⟩⟩
    |_,_=>none
   |_,_,_=>none
  |_,_,_=>none
 |_=>none
def resA(e:AE T.ty)(H:List (AO T.ty)):List ResultVar->Option (List (AV T.ty))
 | []=>some []
 | .tmp t::l=>match e.lookup t with
   |some x=>match resA e H l with
    |some r=>some (x::r)
    |none=>none
   |none=>none
 | .cell a t::l=>match e.lookup a with
   |some (.bx i 0)=>match H[i]? with
    |some (.box _ cs)=>match c3h T t cs with
     |some x=>match resA e H l with
      |some r=>some (x::r)
      |none=>none
     |none=>none
    |_=>none
   |_=>none
def oneR{ty:Nat->Type}:List (AV ty)->AV ty | [x]=>x |l=> .tup l
def evR(fn:Func)(s:St T.ty):Option (AV T.ty):=match s with
 |⟨.out .ret,[],e,H⟩=>match resA T e H fn.results.toList with
  |some l=>match frzW T (H.length+1) l e H with
   |some (l',_,_)=>some (oneR l')
   |none=>none
  |none=>none
 |_=>none
end
mutual
def valA{ty:Nat->Type}:AV ty->Option Value
 | .int k x=>some (.int k x)
 | .bool b=>some (.bool b)
 | .ob b=>some (.bool b)
 | .str l=>some (vs l)
 | .val v=>some v
 | .tup l=>match valL l with
   |some r=>some (.tuple r.toArray)
   |none=>none
 | .agg l=>match valL l with
   |some r=>some (.agg r.toArray)
   |none=>none
 |_=>none
def valL{ty:Nat->Type}:List (AV ty)->Option (List Value)
 | []=>some []
 |x::l=>match valA x with
  |some v=>match valL l with
   |some r=>some (v::r)
   |none=>none
  |none=>none
 end
section
variable{P:Program}{T:Tbl P}{Q:Exit->Act->World->Prop}{n:Nat}{F0:Frz}{w0:World}{X:List Nat}{Kz:Snap}
mutual
theorem d6m{R:List OE}{F:Frz}:∀{x:AV T.ty}{u:Value},valA x=some u->Conc T.rp R F x u
 | .int k x,u,h=>by simp only [valA,Option.some.injEq]at h;exact h.symm
 | .bool b,u,h=>by simp only [valA,Option.some.injEq]at h;exact h.symm
 | .ob b,u,h=>by simp only [valA,Option.some.injEq]at h;exact h.symm
 | .str l,u,h=>by simp only [valA,Option.some.injEq]at h;exact h.symm
 | .val w,u,h=>by simp only [valA,Option.some.injEq]at h;exact h.symm
 | .tup l,u,h=>by
  simp only [valA]at h;split at h
  ·rename_i r hr;cases h;exact⟨r,rfl,c4r hr⟩
  cases h
 | .agg l,u,h=>by
  simp only [valA]at h;split at h
  ·rename_i r hr;cases h;exact⟨r,rfl,c4r hr⟩
  cases h
 | .lb c b,u,h=>by cases h
 | .sl c xs,u,h=>by cases h
 | .bx j o,u,h=>by cases h
 | .el c x o,u,h=>by cases h
 | .row j,u,h=>by cases h
 | .rel j c x p o,u,h=>by cases h
 | .any,u,h=>by cases h
 | .clo f l,u,h=>by cases h
 | .fb l o,u,h=>by cases h
 | .sb j c k,u,h=>by cases h
 | .rw j lo hi,u,h=>by cases h
theorem c4r{R:List OE}{F:Frz}:∀{l:List (AV T.ty)}{us:List Value},valL l=some us->ConcL T.rp R F l us
 | [],us,h=>by simp only [valL,Option.some.injEq]at h;subst h;rfl
 |x::l,us,h=>by
  simp only [valL]at h;split at h
  ·rename_i v' hx;split at h
   ·rename_i r hr;cases h;exact⟨v',r,rfl,d6m hx,c4r hr⟩
   cases h
  cases h
 end
theorem f4v{s:St T.ty}{q:KV T.ty}(h:evK T n s=some q){ρ:Type}{az:List (AV T.ty)}{mr:Option ρ}{res:ρ->AV T.ty}(hF:FnC T q.f az mr res)(hc:cnvL q.az az=az)(hp:a9d az=true){r:ρ}(hr:mr=some r)
 (k:Sm T Q n F0 w0 X Kz (q.nx (res r))):Sm T Q n F0 w0 X Kz s:=by
 unfold evK at h;split at h
 ·rename_i all o l its e H;split at h
  ·rename_i d c args ts hg hd ho;split at h
   ·rename_i y as0 hn hf hl;split at h
    ·rename_i f caps hcal;split at h
     ·rename_i as' e' H' hz;cases h;dsimp only at hF hc k;intro R F m w h1 h2 h3 hX;obtain⟨us,g1,g2⟩:=c1a h1 hl;obtain⟨u,g3,g4⟩:=a0r h1 hf;obtain⟨cs,rfl,g5⟩:=d3j hcal g4;obtain⟨R',F',k1,k2,k3,k4,k5,k6⟩:=b0q hz h1 h2 h3 hX (g2.app g5);have k7:=(k6.cnv az)
      rw [hc]at k7;obtain⟨dst,op,type,pos,after,guard⟩:=o;dsimp only at hg hd ho;subst hd;subst ho;have:=d4o (P:=P) (Q:=kq P Kz Q its) (opr:=all) (rest:=l) (ty:=type) (pos:=pos) (es:=after) (ts:=ts) (first:= #[]) (cap:=cs.toArray) (R:=fun v F' O'=>O'= []/\Conc T.rp [] F' (res r) v) hF.1 (a2g h1 hg) hn g3 g1 k4
       (by
        have h9:=(hF.2 r hr w F' k4.sat k5.2 (us++cs) (k7.pure hp)).mono fun _ _⟨v,F2,e1,e2,e3⟩=>(⟨v,F2,[],e1,e2,rfl,e3⟩:∃v F2 O',_=Ending.returned v/\HS F' w [] F2 O' _/\O'= []/\Conc T.rp [] F2 (res r) v)
        simpa using h9)
       (fun v F2 O' w' hle hS⟨e1,e2⟩=>by
        subst e1;exact k R' F2 ((d,v)::m) w' ((k2.mono (Keep.frz hle)).put (e2.mono (d2f (Frz.refl F2)))) (k3.mono (Keep.frz hle)) hS (k5.keep (Keep.frz hle)))
      show RW P all _ _ _ _ _;simpa using this
     cases h
    cases h
   cases h
  cases h
 cases h
mutual
theorem e3a{R:List OE}{F:Frz}:∀{x:AV T.ty}{u v:Value},valA x=some u->Conc T.rp R F x v->v=u
 | .int k x,u,v,h,hc=>by simp only [valA,Option.some.injEq]at h;subst h;exact hc
 | .bool b,u,v,h,hc=>by simp only [valA,Option.some.injEq]at h;subst h;exact hc
 | .ob b,u,v,h,hc=>by simp only [valA,Option.some.injEq]at h;subst h;exact hc
 | .str l,u,v,h,hc=>by simp only [valA,Option.some.injEq]at h;subst h;exact hc
 | .val w,u,v,h,hc=>by simp only [valA,Option.some.injEq]at h;subst h;exact hc
 | .tup l,u,v,h,⟨cs,h1,h2⟩=>by
  simp only [valA]at h;split at h
  ·rename_i r hr;cases h;rw [h1,d3p hr h2]
  cases h
 | .agg l,u,v,h,⟨cs,h1,h2⟩=>by
  simp only [valA]at h;split at h
  ·rename_i r hr;cases h;rw [h1,d3p hr h2]
  cases h
 | .lb c b,u,v,h,_=>by cases h
 | .sl c xs,u,v,h,_=>by cases h
 | .bx j o,u,v,h,_=>by cases h
 | .el c x o,u,v,h,_=>by cases h
 | .row j,u,v,h,_=>by cases h
 | .rel j c x p o,u,v,h,_=>by cases h
 | .any,u,v,h,_=>by cases h
 | .clo f l,u,v,h,_=>by cases h
 | .fb l o,u,v,h,_=>by cases h
 | .sb j c k,u,v,h,_=>by cases h
 | .rw j lo hi,u,v,h,_=>by cases h
theorem d3p{R:List OE}{F:Frz}:∀{l:List (AV T.ty)}{us cs:List Value},valL l=some us->ConcL T.rp R F l cs->cs=us
 | [],us,cs,h,hc=>by simp only [valL,Option.some.injEq]at h;subst h;exact hc
 |x::l,us,cs,h,⟨v,k,h1,h2,h3⟩=>by
  simp only [valL]at h;split at h
  ·rename_i v' hx;split at h
   ·rename_i r hr;cases h;rw [h1,e3a hx h2,d3p hr h3]
   cases h
  cases h
 end
theorem e9v{s:St T.ty}{q:KV T.ty}(h:evKq T n s=some q){ρ:Type}{az:List (AV T.ty)}{mr:Option ρ}{res:ρ->AV T.ty}(hF:FnC T q.f az mr res)(hc:cnvL q.az az=az)(hp:a9d az=true){r:ρ}(hr:mr=some r){v:Value}(hv:valA (res r)=some v)
 (k:Sm T Q n F0 w0 X Kz (q.nx (res r))):Sm T Q n F0 w0 X Kz s:=by
 unfold evKq at h;split at h
 ·rename_i all o l its e H;split at h
  ·rename_i d c args ts hg hd ho;split at h
   ·rename_i f fi ca as0 hn hf hl;split at h
    ·rename_i hfi hca;cases h;dsimp only at hF hc k;intro R F m w h1 h2 h3 hX;obtain⟨us,g1,g2⟩:=c1a h1 hl;have k7:=(g2.cnv az)
     rw [hc]at k7;obtain⟨u,g3,g4⟩:=a0r h1 hf;simp only [Conc]at g4;subst g4;have hfi:fi= #[]:=Array.toList_eq_nil_iff.1 hfi;have hca:ca= #[]:=Array.toList_eq_nil_iff.1 hca;subst hfi;subst hca;obtain⟨dst,op,type,pos,after,guard⟩:=o;dsimp only at hg hd ho;subst hd;subst ho;obtain⟨args⟩:=args;refine e6a (v:=v) hF.1 (a2g h1 hg) hn g3 g1 (fun F' w' hle hS=> ?_) (k R F ((d,v)::m) w (h1.put ?_) h2 h3 hX)
     ·refine(hF.2 r hr w' F' hS.sat (T.glMono hle hX.2) us ((k7.mono (Keep.frz hle)).pure hp)).mono ?_;rintro e w2 ⟨v2,F2,e1,e2,e3⟩;exact⟨v2,F2,[],e1,e2,e3a hv e3,rfl⟩
     exact d6m hv
    cases h
   cases h
  cases h
 cases h
theorem d7q{R:List OE}{F:Frz}{t:TypeId}{cs:List (AV T.ty)}{x:AV T.ty}(h:c3h T t cs=some x){us:List Value}(hc:ConcL T.rp R F cs us){w:World}{b:Nat}(hw:∀(j:Nat)v,us[j]?=some v->w.cell? ⟨b,j,none⟩=some v):
 ∃v,Conc T.rp R F x v/\(loadVar t ⟨b,0,none⟩).run P w= .ok v w:=by
 unfold c3h at h;split at h
 ·rename_i hA;have hA:=T.aggOk hA;obtain⟨v,h1,h2⟩:=hc.get (j:=0) (x:=x) (by rw [<-h];exact(List.head?_eq_getElem? ..).symm);exact⟨v,h2,by simp [loadVar,hA w,hw 0 v h1]⟩
 ·rename_i hA;have hA:=T.aggOk hA;split at h
  ·rename_i m hS;have hS:=T.sizeOk hS;split at h
   ·rename_i l hl;cases h;obtain⟨e1,e2⟩:=b7v hl;have h4:=ConcL.take m hc;rw [e1]at h4;have h5:(us.take m).length=m:=by rw [h4.len,e2]
    have e:=run_loadCells_list (P:=P) w ⟨b,0,none⟩ (us.take m) (fun j v hj=>by
     rw [a8d,Nat.zero_add];refine hw j v ?_;rw [List.getElem?_take]at hj;split at hj
     ·exact hj
     cases hj)
    rw [h5]at e;exact⟨_,⟨us.take m,rfl,h4⟩,by simp [loadVar,hA w,hS w,e]⟩
   cases h
  cases h
 cases h
def c8r(a:Act):ResultVar->Go.Sem Value
 | .tmp t=>Pure.pure (a.tmps.getD t undef)
 | .cell c t=>do loadVar t (<-asAddr (a.tmps.getD c undef))
theorem b7z(fn:Func)(a:Act):results fn a.tmps=(do
 let vs<-fn.results.mapM (c8r a)
 Pure.pure (if h:vs.size=1 then vs[0]else .tuple vs)):=by
 unfold results
 congr 1
theorem c2f{R:List OE}{F:Frz}{e:AE T.ty}{m:Env}{H:List (AO T.ty)}{w:World}(hE:ConcE T.rp R F e m)(hH:RelH T.rp Kz R F H R)(hS:HS F0 w0 X F R w):∀{l:List ResultVar}{r:List (AV T.ty)},resA T e H l=some r->
 ∃us,ConcL T.rp R F r us/\∀a,Has n a m->(List.mapM (c8r a) l).run P w= .ok us w
 | [],r,h=>by simp only [resA,Option.some.injEq]at h;subst h;exact⟨[],rfl,fun a ha=>by simp⟩
 | .tmp t::l,r,h=>by
  simp only [resA]at h;split at h
  ·rename_i x hx;split at h
   ·rename_i r' hl;cases h;obtain⟨u,h1,h2⟩:=hE.get hx;obtain⟨us,h3,h4⟩:=c2f hE hH hS hl;exact⟨u::us,⟨u,us,rfl,h2,h3⟩,fun a ha=>by
     have h5:(c8r a (.tmp t)).run P w= .ok u w:=by simp [c8r,ha.get t u h1]
     simp [List.mapM_cons,h5,h4 a ha]⟩
   cases h
  cases h
 | .cell c t::l,r,h=>by
  simp only [resA]at h;split at h
  ·rename_i i hx;split at h
   ·rename_i t' cs hi;split at h
    ·rename_i x hlo;split at h
     ·rename_i r' hl;cases h;obtain⟨u,h1,b,tb,vs0,g1,rfl⟩:=hE.get hx;obtain⟨en,g2,b2,ws,rfl,g3⟩:=hH.2 i _ hi;rw [g1]at g2;cases g2;obtain⟨v,g4,g5⟩:=d7q hlo g3 (w:=w) (b:=b) (fun j v hj=>c3y hS g1 hj);obtain⟨us,h3,h4⟩:=c2f hE hH hS hl;exact⟨v::us,⟨v,us,rfl,g4,h3⟩,fun a ha=>by
       have h5:(c8r a (.cell c t)).run P w= .ok v w:=by simp [c8r,ha.get c _ h1,asAddr,g5]
       simp [List.mapM_cons,h5,h4 a ha]⟩
     cases h
    cases h
   cases h
  cases h
def e0i{P:Program}(T:Tbl P)(F0:Frz)(w0:World)(av:AV T.ty):Ending->World->Prop:=fun e w'=>∃v F',e= .returned v/\HS F0 w0 [] F' [] w'/\Conc T.rp [] F' av v
theorem d1g{R:List OE}{F:Frz}:∀{l:List (AV T.ty)}{us:List Value},ConcL T.rp R F l us->Conc T.rp R F (oneR l) (if h:us.toArray.size=1 then us.toArray[0]else .tuple us.toArray)
 | [],us,h=>by simp only [ConcL]at h;subst h;exact⟨[],rfl,rfl⟩
 | [x],us,⟨v,k,h1,h2,h3⟩=>by simp only [ConcL]at h3;subst h3;subst h1;exact h2
 |x::y::l,us,h=>by
  have:=h.len;rw [dif_neg (by simp [this])];exact⟨us,rfl,h⟩
theorem f3l{fn:Func}{s:St T.ty}{x y:AV T.ty}(h:evR T fn s=some x)(hc:cnv x y=y)(hp:c6g y=true):Sm T (bodyPost P fn (e0i T F0 w0 y)) n F0 w0 [] Kz s:=by
 unfold evR at h;split at h
 ·rename_i e H;split at h
  ·rename_i l hl;split at h
   ·rename_i l' e' H' hz;cases h;intro R F m w h1 h2 h3 hX;obtain⟨us,g1,g2⟩:=c2f (n:=n) h1 h2 h3 hl;obtain⟨R',F',k1,k2,k3,k4,k5,k6⟩:=b0q hz h1 h2 h3 hX g1;have k7:=(d1g k6).cnv y;rw [hc]at k7;refine d7w (v:=if h:us.toArray.size=1 then us.toArray[0]else .tuple us.toArray) (fun a ha=> ?_) ⟨_,F',rfl,k4.sub (List.nil_sublist _),k7.pure hp⟩;have g3:=g2 a ha;rw [b7z,Array.mapM_eq_mapM_toList];simp [g3]
   cases h
  cases h
 cases h
end
set_option linter.unusedVariables false
set_option linter.unusedSimpArgs false
section
variable{P:Program}{T:Tbl P}{n:Nat}{F0:Frz}{w0:World}{X:List Nat}{Kz:Snap}{ρ:Type}{Q:Exit->Act->World->Prop}
def G{P:Program}(T:Tbl P)(Q:Exit->Act->World->Prop)(n:Nat)(F0:Frz)(w0:World)(X:List Nat)(Kz:Snap){ρ:Type}(r:ρ)(m:Option ρ)(s:St T.ty):Prop:=m=some r->Sm T Q n F0 w0 X Kz s
def rn(T:Tbl P)(n:Nat)(s:St T.ty):St T.ty:=match s with
 |⟨c,k,e,H⟩=>run T n 1000 c k e H
theorem a7h{s:St T.ty}(h:Sm T Q n F0 w0 X Kz (rn T n s)):Sm T Q n F0 w0 X Kz s:=run_ok 1000 s.ctl s.its s.env s.H h
def evG(s:St T.ty):Option (Nat×Array Oper×List It×AE T.ty×List (AO T.ty)):=match s with
 |⟨.code (.region id ops true),k,e,H⟩=>some (id,ops,k,e,H)
 |_=>none
theorem gG{r:ρ}{m:Option ρ}{s:St T.ty}{id:Nat}{ops:Array Oper}{k:List It}{e:AE T.ty}{H:List (AO T.ty)}(h:evG (rn T n s)=some (id,ops,k,e,H))(hB:Region.lexB .any ops=true)(g:G T Q n F0 w0 X Kz r m ⟨.qop ops ops.toList,k,e,H⟩):G T Q n F0 w0 X Kz r m s:=fun hm=>by
 refine a7h ?_;revert h;generalize rn T n s=s';intro h;unfold evG at h;split at h
 ·cases h;intro R F m w h1 h2 h3 hX;have:=c0z (P:=P) (Q:=kq P Kz Q k) (id:=id) (l:=ops.toList) (env:=m) T.mix (by simpa using hB) h3 (g hm R F m w h1 h2 h3 hX);show CW P _ _ _ _ _;simpa using this
 cases h
theorem gV{r:ρ}{α:Type}{x:Option α}{f:α->Option ρ}{nx:α->St T.ty}{s:St T.ty}(h:evV T n (rn T n s)=some ⟨α,x,nx⟩)(k:∀v,G T Q n F0 w0 X Kz r (f v) (nx v)):G T Q n F0 w0 X Kz r (x.bind f) s:=fun hm=>by
 obtain⟨v,hv,hm⟩:=bind_some hm;exact a7h (f4u h v hv (k v hm))
theorem gC{r:ρ}{b:Bool}{x y:Option ρ}{s s1 s2:St T.ty}(h:evC (rn T n s)=some (b,s1,s2))(k1:b=true->G T Q n F0 w0 X Kz r x s1)(k2:b=false->G T Q n F0 w0 X Kz r y s2):G T Q n F0 w0 X Kz r (bif b then x else y) s:=fun hm=>by
 refine a7h (e7m h (fun hb=> ?_) (fun hb=> ?_))
 ·subst hb;exact k1 rfl hm
 subst hb;exact k2 rfl hm
theorem gc{P:Program}{T:Tbl P}{n:Nat}{F0:Frz}{w0:World}{X:List Nat}{Kz:Snap}{ρ:Type}{Q:Exit->Act->World->Prop}{r:ρ}{b:Bool}{x y:Option ρ}{s s1 s2:St T.ty}(h:evC (rn T n s)=some (b,s1,s2))(k1:G T Q n F0 w0 X Kz r x s1)(k2:G T Q n F0 w0 X Kz r y s2):G T Q n F0 w0 X Kz r (bif b then x else y) s:=gC h (fun _=>k1) (fun _=>k2)
theorem gD{r:ρ}{b:Bool}{α:Type}{x y:Option α}{f:α->Option ρ}{s s1 s2:St T.ty}(h:evC (rn T n s)=some (b,s1,s2))(k1:b=true->G T Q n F0 w0 X Kz r (x.bind f) s1)(k2:b=false->G T Q n F0 w0 X Kz r (y.bind f) s2):G T Q n F0 w0 X Kz r ((bif b then x else y).bind f) s:=fun hm=>by
 refine a7h (e7m h (fun hb=> ?_) (fun hb=> ?_))
 ·subst hb;exact k1 rfl hm
 subst hb;exact k2 rfl hm
theorem gd{P:Program}{T:Tbl P}{n:Nat}{F0:Frz}{w0:World}{X:List Nat}{Kz:Snap}{ρ:Type}{Q:Exit->Act->World->Prop}{r:ρ}{b:Bool}{α:Type}{x y:Option α}{f:α->Option ρ}{s s1 s2:St T.ty}(h:evC (rn T n s)=some (b,s1,s2))(k1:G T Q n F0 w0 X Kz r (x.bind f) s1)(k2:G T Q n F0 w0 X Kz r (y.bind f) s2):G T Q n F0 w0 X Kz r ((bif b then x else y).bind f) s:=gD h (fun _=>k1) (fun _=>k2)
theorem gB{r:ρ}{α:Type}{a:α}{f:α->Option ρ}{s:St T.ty}(k:G T Q n F0 w0 X Kz r (f a) s):G T Q n F0 w0 X Kz r ((some a).bind f) s:=k
theorem gT{r:ρ}{x y:Option ρ}{s:St T.ty}(k:G T Q n F0 w0 X Kz r x s):G T Q n F0 w0 X Kz r (bif true then x else y) s:=k
theorem gF{r:ρ}{x y:Option ρ}{s:St T.ty}(k:G T Q n F0 w0 X Kz r y s):G T Q n F0 w0 X Kz r (bif false then x else y) s:=k
theorem gTb{r:ρ}{α:Type}{x y:Option α}{f:α->Option ρ}{s:St T.ty}(k:G T Q n F0 w0 X Kz r (x.bind f) s):G T Q n F0 w0 X Kz r ((bif true then x else y).bind f) s:=k
theorem gFb{r:ρ}{α:Type}{x y:Option α}{f:α->Option ρ}{s:St T.ty}(k:G T Q n F0 w0 X Kz r (y.bind f) s):G T Q n F0 w0 X Kz r ((bif false then x else y).bind f) s:=k
theorem gA{r:ρ}{α β:Type}{x:Option α}{g:α->Option β}{f:β->Option ρ}{s:St T.ty}(k:G T Q n F0 w0 X Kz r (x.bind fun a=>(g a).bind f) s):G T Q n F0 w0 X Kz r ((x.bind g).bind f) s:=fun hm=>k (by rw [<-hm];cases x<;>rfl)
theorem gK{r:ρ}{α:Type}{x:Option α}{g:α->Option ρ}{f:FuncId}{as0 az:List (AV T.ty)}{res:α->AV T.ty}{nx:AV T.ty->St T.ty}{s:St T.ty}(hF:FnC T f az x res)(h:evK T n (rn T n s)=some ⟨f,as0,nx⟩)(hc:cnvL as0 az=az)(hp:a9d az=true)
 (k:∀v,G T Q n F0 w0 X Kz r (g v) (nx (res v))):G T Q n F0 w0 X Kz r (x.bind g) s:=fun hm=>by
 obtain⟨v,hv,hm⟩:=bind_some hm;exact a7h (f4v h hF hc hp hv (k v hm))
def retQ{P:Program}(T:Tbl P)(fn:Func)(F0:Frz)(w0:World){ρ:Type}(res:ρ->AV T.ty)(r:ρ):Exit->Act->World->Prop:=bodyPost P fn (e0i T F0 w0 (res r))
theorem gQ{r:ρ}{α:Type}{x:Option α}{g:α->Option ρ}{f:FuncId}{as0 az:List (AV T.ty)}{res:α->AV T.ty}{nx:AV T.ty->St T.ty}{vv:α->Value}{s:St T.ty}(hF:FnC T f az x res)(h:evKq T n (rn T n s)=some ⟨f,as0,nx⟩)(hc:cnvL as0 az=az)(hp:a9d az=true)(hv:∀a,valA (res a)=some (vv a))
 (k:∀v,G T Q n F0 w0 X Kz r (g v) (nx (res v))):G T Q n F0 w0 X Kz r (x.bind g) s:=fun hm=>by
 obtain⟨v,hv',hm⟩:=bind_some hm;exact a7h (e9v h hF hc hp hv' (hv v) (k v hm))
theorem gR{fn:Func}{res:ρ->AV T.ty}{r a:ρ}{s:St T.ty}{x:AV T.ty}(h:evR T fn (rn T n s)=some x)(hc:cnv x (res a)=res a)(hp:c6g (res a)=true):G T (retQ T fn F0 w0 res r) n F0 w0 [] Kz r (some a) s:=fun hm=>by
 cases hm;exact a7h (f3l h hc hp)
theorem gr{P:Program}{T:Tbl P}{n:Nat}{F0:Frz}{w0:World}{Kz:Snap}{ρ:Type}{fn:Func}{res:ρ->AV T.ty}{r a:ρ}{s:St T.ty}{x:AV T.ty}(h:evR T fn (rn T n s)=some x:=by exact rfl)(hc:cnv x (res a)=res a:=by exact rfl)(hp:c6g (res a)=true:=by exact rfl):G T (retQ T fn F0 w0 res r) n F0 w0 [] Kz r (some a) s:=gR h hc hp
def argE{ty:Nat->Type}:Nat->List (AV ty)->AE ty |_,[]=> [] |k,x::l=>(k,x)::argE (k+1) l
theorem b9i{R:List OE}{F:Frz}:∀{l:List (AV T.ty)}{us:List Value}(k:Nat),ConcL T.rp R F l us->ConcE T.rp R F (argE k l) ((us.zipIdx k).map fun x=>(x.2,x.1))
 | [],us,k,h=>by simp only [ConcL]at h;subst h;rfl
 |x::l,us,k,⟨v,us',h1,h2,h3⟩=>by
  subst h1;exact⟨v,_,rfl,h2,b9i (k+1) h3⟩
theorem f5o{f:FuncId}{fn:Func}{c:Code}(hf:P.funcs[f]?=some fn)(hb:fn.body=some c)(hn:fn.ntmps=n){az:List (AV T.ty)}(hle:Nat.ble az.length n=true)(he:Ent P f){m:Option ρ}{res:ρ->AV T.ty}
 (h:∀F0 w0 r,G T (retQ T fn F0 w0 res r) n F0 w0 [] Snap.nil r m ⟨.code c,[],argE 0 az,[]⟩):FnC T f az m res:=by
 refine⟨he,fun r hr w F hs hg us hus=> ?_⟩;refine a3c n hf hb hn (by rw [hus.len];exact hle) ?_;exact h F w r hr [] F _ w (b9i 0 hus) ⟨rfl,fun i o hi=>by simp at hi⟩ (HS.init hs) ⟨fun j b hb=>(by simp at hb),hg⟩
theorem fk{P:Program}{T:Tbl P}{n:Nat}{ρ:Type}{f:FuncId}{fn:Func}{c:Code}(hf:P.funcs[f]?=some fn){az:List (AV T.ty)}{m:Option ρ}{res:ρ->AV T.ty}(h:∀F0 w0 r,G T (retQ T fn F0 w0 res r) n F0 w0 [] Snap.nil r m ⟨.code c,[],argE 0 az,[]⟩)(hb:fn.body=some c:=by exact rfl)(hn:fn.ntmps=n:=by exact rfl)(hle:Nat.ble az.length n=true:=by exact rfl)(he:Ent P f:=by intro _ _;kernel_rfl):FnC T f az m res:=f5o hf hb hn hle he h
theorem b1k{f:FuncId}(he:Ent P f){az:List (AV T.ty)}{res:ρ->AV T.ty}:FnC T f az none res:=⟨he,fun r hr=>by cases hr⟩
def cutA{ty:Nat->Type}(e:AE ty):List (Nat×AV ty)->Option (AE ty)
 | []=>some []
 |p::l=>match e.lookup p.1,cutA e l with
  |some x,some r=>some ((p.1,cnv x p.2)::r)
  |_,_=>none
structure Hd(ty:Nat->Type)where
 e:AE ty
 H:List (AO ty)
def Iv(T:Tbl P)(n:Nat)(F0:Frz)(w0:World)(X:List Nat)(Kz:Snap)(h:Hd T.ty)(a:Act)(w:World):Prop:=∃R F m,Has n a m/\ConcE T.rp R F h.e m/\RelH T.rp Kz R F h.H R/\HS F0 w0 X F R w/\LG T X R F
theorem e1q{R:List OE}{F:Frz}{e:AE T.ty}{m:Env}{a:Act}(ha:Has n a m)(hE:ConcE T.rp R F e m):∀{l r:AE T.ty},cutA e l=some r->∃m',Has n a m'/\ConcE T.rp R F r m'
 | [],r,h=>by simp only [cutA,Option.some.injEq]at h;subst h;exact⟨[],⟨ha.size,ha.defers,fun k v hk=>by simp at hk⟩,rfl⟩
 |p::l,r,h=>by
  simp only [cutA]at h;split at h
  ·rename_i x r' hx hl;cases h;obtain⟨m',h1,h2⟩:=e1q ha hE hl;obtain⟨v,h3,h4⟩:=hE.get hx;refine⟨(p.1,v)::m',⟨ha.size,ha.defers,fun k u hk=> ?_⟩,v,m',rfl,h4.cnv p.2,h2⟩;rw [List.lookup_cons]at hk;split at hk
   ·rename_i e1;have e1:k=p.1:=by simpa using e1
    subst e1;cases hk;exact ha.get _ _ h3
   exact h1.get _ _ hk
  cases h
mutual
def bndV{ty:Nat->Type}(h:Nat):AV ty->Bool | .agg l=>bndL h l | .tup l=>bndL h l | .bx i _=>Nat.blt i h | .row i=>Nat.blt i h | .rel i _ _ _ _=>Nat.blt i h | .clo _ l=>bndL h l | .fb l _=>bndL h l | .sb i _ _=>Nat.blt i h | .rw i _ _=>Nat.blt i h |_=>true
def bndL{ty:Nat->Type}(h:Nat):List (AV ty)->Bool
 | []=>true
 |x::l=>match bndV h x with
  |true=>bndL h l
  |false=>false
 end
def bndE{ty:Nat->Type}(h:Nat):AE ty->Bool
 | []=>true
 |p::l=>match bndV h p.2 with
  |true=>bndE h l
  |false=>false
def bndH{ty:Nat->Type}(h:Nat):List (AO ty)->Bool
 | []=>true
 | .box _ cs::l=>match bndL h cs with
   |true=>bndH h l
   |false=>false
 | .kbox _ _ cs::l=>match bndL h cs with
   |true=>bndH h l
   |false=>false
 |_::l=>bndH h l
def e6u{ty:Nat->Type}(h:Nat)(e:AE ty)(H:List (AO ty)):Option (List (AO ty)):=match Nat.beq H.length h with
 |true=>some H
 |false=>match d1n h H,bndE h e with
  |some H',true=>match bndH h H' with
   |true=>some H'
   |false=>none
  |_,_=>none
section
variable{rp:∀c,Rp (T.ty c)}{R:List OE}{F:Frz}{h:Nat}
theorem b5d{i:Nat}{e:OE}(hi:R[i]?=some e)(h1:Nat.blt i h=true):(R.take h)[i]?=some e:=by
 rw [List.getElem?_take,if_pos (by simpa using h1)];exact hi
mutual
theorem Conc.take:∀{x:AV T.ty}{v:Value},bndV h x=true->Conc T.rp R F x v->Conc T.rp (R.take h) F x v
 | .int k x,v,_,h=>h
 | .bool b,v,_,h=>h
 | .ob b,v,_,h=>h
 | .lb c b,v,_,h=>h
 | .str l,v,_,h=>h
 | .val u,v,_,h=>h
 | .agg l,v,p,⟨cs,h1,h2⟩=>⟨cs,h1,ConcL.tk p h2⟩
 | .tup l,v,p,⟨cs,h1,h2⟩=>⟨cs,h1,ConcL.tk p h2⟩
 | .sl c xs,v,_,h=>h
 | .bx j o,v,p,⟨b,t,cs,h1,h2⟩=>⟨b,t,cs,b5d h1 p,h2⟩
 | .el c x o,v,_,h=>h
 | .row j,v,p,⟨e,q,a,m,n,xs,h1,h2⟩=>⟨e,q,a,m,n,xs,b5d h1 p,h2⟩
 | .rel j c x i o,v,p,⟨e,b,m,n,us,cs,h1,h2⟩=>⟨e,b,m,n,us,cs,b5d h1 p,h2⟩
 | .any,v,_,_=>trivial
 | .clo f l,v,p,⟨cs,h1,h2⟩=>⟨cs,h1,ConcL.tk p h2⟩
 | .fb l o,v,p,⟨b,cs,h1,h2,h3⟩=>⟨b,cs,h1,h2,ConcL.tk p h3⟩
 | .sb j c k,v,p,⟨b,t,cs,h1,h2⟩=>⟨b,t,cs,b5d h1 p,h2⟩
 | .rw j lo hi,v,p,⟨e,q,b,m,n,xs,h1,h2⟩=>⟨e,q,b,m,n,xs,b5d h1 p,h2⟩
theorem ConcL.tk:∀{l:List (AV T.ty)}{cs:List Value},bndL h l=true->ConcL T.rp R F l cs->ConcL T.rp (R.take h) F l cs
 | [],_,_,h=>h
 |x::l,_,p,⟨v,k,h1,h2,h3⟩=>by
  unfold bndL at p;split at p
  ·rename_i hx;exact⟨v,k,h1,Conc.take hx h2,ConcL.tk p h3⟩
  cases p
 end
theorem ConcE.take:∀{l:AE T.ty}{m:Env},bndE h l=true->ConcE T.rp R F l m->ConcE T.rp (R.take h) F l m
 | [],_,_,h=>h
 |x::l,_,p,⟨v,k,h1,h2,h3⟩=>by
  unfold bndE at p;split at p
  ·rename_i hx;exact⟨v,k,h1,Conc.take hx h2,ConcE.take p h3⟩
  cases p
theorem bndH_ok:∀{H:List (AO T.ty)},bndH h H=true->∀{i:Nat}{t:TypeId}{cs:List (AV T.ty)},H[i]?=some (.box t cs)->bndL h cs=true
 | [],_,_,_,_,hi=>by simp at hi
 | .box _ ds::l,p,i,t,cs,hi=>by
  unfold bndH at p;split at p
  ·rename_i hx;cases i with
   |zero=>simp at hi;obtain⟨rfl,rfl⟩:=hi;exact hx
   |succ i=>exact bndH_ok p (by simpa using hi)
  cases p
 | .row _ _ _ _::l,p,i,t,cs,hi=>by
  cases i with
  |zero=>simp at hi
  |succ i=>exact bndH_ok (H:=l) (by simpa [bndH]using p) (by simpa using hi)
 | .gone::l,p,i,t,cs,hi=>by
  cases i with
  |zero=>simp at hi
  |succ i=>exact bndH_ok (H:=l) (by simpa [bndH]using p) (by simpa using hi)
 | .krow _ _ _ _ _::l,p,i,t,cs,hi=>by
  cases i with
  |zero=>simp at hi
  |succ i=>exact bndH_ok (H:=l) (by simpa [bndH]using p) (by simpa using hi)
 | .mark::l,p,i,t,cs,hi=>by
  cases i with
  |zero=>simp at hi
  |succ i=>exact bndH_ok (H:=l) (by simpa [bndH]using p) (by simpa using hi)
 | .kbox _ _ ds::l,p,i,t,cs,hi=>by
  unfold bndH at p;split at p
  ·cases i with
   |zero=>simp at hi
   |succ i=>exact bndH_ok p (by simpa using hi)
  cases p
theorem bndK_ok:∀{H:List (AO T.ty)},bndH h H=true->∀{i j:Nat}{t:TypeId}{cs:List (AV T.ty)},H[i]?=some (.kbox j t cs)->bndL h cs=true
 | [],_,_,_,_,_,hi=>by simp at hi
 | .kbox _ _ ds::l,p,i,j,t,cs,hi=>by
  unfold bndH at p;split at p
  ·rename_i hx;cases i with
   |zero=>simp at hi;obtain⟨rfl,rfl,rfl⟩:=hi;exact hx
   |succ i=>exact bndK_ok p (by simpa using hi)
  cases p
 | .box _ ds::l,p,i,j,t,cs,hi=>by
  unfold bndH at p;split at p
  ·cases i with
   |zero=>simp at hi
   |succ i=>exact bndK_ok p (by simpa using hi)
  cases p
 | .row _ _ _ _::l,p,i,j,t,cs,hi=>by
  cases i with
  |zero=>simp at hi
  |succ i=>exact bndK_ok (H:=l) (by simpa [bndH]using p) (by simpa using hi)
 | .krow _ _ _ _ _::l,p,i,j,t,cs,hi=>by
  cases i with
  |zero=>simp at hi
  |succ i=>exact bndK_ok (H:=l) (by simpa [bndH]using p) (by simpa using hi)
 | .gone::l,p,i,j,t,cs,hi=>by
  cases i with
  |zero=>simp at hi
  |succ i=>exact bndK_ok (H:=l) (by simpa [bndH]using p) (by simpa using hi)
 | .mark::l,p,i,j,t,cs,hi=>by
  cases i with
  |zero=>simp at hi
  |succ i=>exact bndK_ok (H:=l) (by simpa [bndH]using p) (by simpa using hi)
end
theorem d7h{R:List OE}{F:Frz}{w:World}{h:Nat}{e:AE T.ty}{m:Env}{H H':List (AO T.ty)}(hk:e6u h e H=some H')(h1:ConcE T.rp R F e m)(h2:RelH T.rp Kz R F H R)(h3:HS F0 w0 X F R w)(hX:LG T X R F)(hx:X.length<=h):
 ∃R',ConcE T.rp R' F e m/\RelH T.rp Kz R' F H' R'/\HS F0 w0 X F R' w/\LG T X R' F:=by
 unfold e6u at hk;split at hk
 ·cases hk;exact⟨R,h1,h2,h3,hX⟩
 rename_i hne;split at hk
 ·rename_i H2 ht hb;split at hk
  ·rename_i hb2;cases hk;obtain⟨t1,t2⟩:=b7v ht;refine⟨R.take h,h1.take hb,⟨?_,fun i o hi=> ?_⟩,h3.sub (List.take_sublist _ _),fun j b hb=> ?_,hX.2⟩
   ·rw [<-t1,List.length_take,List.length_take,h2.1]
   ·have hi':=hi;rw [<-t1,List.getElem?_take]at hi;split at hi
    ·rename_i hlt;obtain⟨en,g1,g2⟩:=h2.2 i o hi;refine⟨en,b5d g1 (by simpa using hlt),?_⟩;cases o with
     |box t cs=>
      obtain⟨b,us,g3,g4⟩:=g2;exact⟨b,us,g3,ConcL.tk (bndH_ok hb2 hi') g4⟩
     |row el q c xs=>exact g2
     |gone=>trivial
     |kbox j t cs=>
      obtain⟨g0,b,us,g3,g4⟩:=g2;exact⟨g0,b,us,g3,ConcL.tk (bndK_ok hb2 hi') g4⟩
     |krow j el q c xs=>exact g2
     |mark=>exact g2
    cases hi
   obtain⟨t,cs,g1⟩:=hX.1 j b hb;have hj:=(List.getElem?_eq_some_iff.1 hb).1;exact⟨t,cs,b5d g1 (by simp;omega)⟩
  cases hk
 cases hk
def cnvH{ty:Nat->Type}:List (AO ty)->List (AO ty)->List (AO ty)
 |o::l,o'::l'=>(match o,o' with
  | .box t cs,.box _ cs'=> .box t (cnvL cs cs')
  |o,_=>o)::cnvH l l'
 |l,_=>l
theorem e2c{F:Frz}{R:List OE}:∀{H H2:List (AO T.ty)}{S:List OE},RelH T.rp Kz R F H S->RelH T.rp Kz R F (cnvH H H2) S
 | [],_,_,h=>by unfold cnvH;exact h
 |o::l,[],_,h=>by unfold cnvH;exact h
 |o::l,o'::l',[],h=>by have:=h.1;simp at this
 |o::l,o'::l',e::S,h=>by
  have ht:RelH T.rp Kz R F l S:=⟨by have:=h.1;simpa using this,fun i o ho=>by
   obtain⟨e2,g1,g2⟩:=h.2 (i+1) o (by simpa using ho);exact⟨e2,by simpa using g1,g2⟩⟩
  have ih:=e2c (H2:=l') ht;obtain⟨e2,g1,g2⟩:=h.2 0 o rfl;simp only [List.getElem?_cons_zero,Option.some.injEq]at g1;subst g1;unfold cnvH;refine⟨by have:=ih.1;simpa using this,fun i x hx=> ?_⟩;cases i with
  |zero=>
   simp only [List.getElem?_cons_zero,Option.some.injEq]at hx;refine⟨e,rfl,?_⟩;subst hx;split
   ·obtain⟨b,us,k1,k2⟩:=g2;exact⟨b,us,k1,k2.cnv _⟩
   exact g2
  |succ i=>
   obtain⟨e3,k1,k2⟩:=ih.2 i x (by simpa using hx);exact⟨e3,by simpa using k1,k2⟩
def atHd(T:Tbl P)(X:List Nat)(h:Hd T.ty)(e:AE T.ty)(H:List (AO T.ty)):Option (Hd T.ty):=match cutA e h.e with
 |some e'=>match e6u h.H.length e' H,Nat.ble X.length h.H.length with
  |some H',true=>some ⟨e',cnvH H' h.H⟩
  |_,_=>none
 |none=>none
theorem d4s{R:List OE}{F:Frz}{w:World}{h h':Hd T.ty}{e:AE T.ty}{m:Env}{H:List (AO T.ty)}{a:Act}(hk:atHd T X h e H=some h')(ha:Has n a m)(h1:ConcE T.rp R F e m)(h2:RelH T.rp Kz R F H R)(h3:HS F0 w0 X F R w)(hX:LG T X R F):Iv T n F0 w0 X Kz h' a w:=by
 unfold atHd at hk;split at hk
 ·rename_i e' hc;obtain⟨m',g1,g2⟩:=e1q ha h1 hc;split at hk
  ·rename_i H' ht hx;cases hk;obtain⟨R',k1,k2,k3,k4⟩:=d7h ht g2 h2 h3 hX (Nat.le_of_ble_eq_true hx);exact⟨R',F,m',g1,k1,e2c k2,k3,k4⟩
  cases hk
 cases hk
def evL(s:St T.ty):Option (Code×List It×AE T.ty×List (AO T.ty)):=match s with
 |⟨.code (.loop c),k,e,H⟩=>some (c,k,e,H)
 |_=>none
def Back{P:Program}(T:Tbl P)(n:Nat)(F0:Frz)(w0:World)(X:List Nat)(Kz:Snap){σ ρ:Type}(L:σ->Option ρ)(I:σ->Hd T.ty)(r:ρ)(K:Act->World->Prop):Prop:=∀s a w,L s=some r->Iv T n F0 w0 X Kz (I s) a w->K a w
def evE(s:St T.ty):Option ((Act->World->Prop)×List It×AE T.ty×List (AO T.ty)):=match s with
 |⟨.out .normal,.sem K::k,e,H⟩=>some (K,k,e,H)
 |_=>none
theorem gE{σ:Type}{r:ρ}{L:σ->Option ρ}{I:σ->Hd T.ty}{K:Act->World->Prop}(hK:Back T n F0 w0 X Kz L I r K)(x:σ){s:St T.ty}{its:List It}{e:AE T.ty}{H:List (AO T.ty)}(hr:evE (rn T n s)=some (K,its,e,H))
 (hI:atHd T X (I x) e H=some (I x)):G T Q n F0 w0 X Kz r (L x) s:=fun hm=>by
 refine a7h ?_;revert hr;generalize rn T n s=s';intro hr;unfold evE at hr;split at hr
 ·cases hr;intro R F mm w h1 h2 h3 hX a ha;exact hK x a w hm (d4s hI ha h1 h2 h3 hX)
 cases hr
theorem ge{P:Program}{T:Tbl P}{n:Nat}{F0:Frz}{w0:World}{X:List Nat}{Kz:Snap}{ρ:Type}{Q:Exit->Act->World->Prop}{σ:Type}{r:ρ}{L:σ->Option ρ}{I:σ->Hd T.ty}{K:Act->World->Prop}(hK:Back T n F0 w0 X Kz L I r K)(x:σ){s:St T.ty}{its:List It}{e:AE T.ty}{H:List (AO T.ty)}(hr:evE (rn T n s)=some (K,its,e,H):=by exact rfl)(hI:atHd T X (I x) e H=some (I x):=by kernel_rfl):G T Q n F0 w0 X Kz r (L x) s:=gE hK x hr hI
end
set_option linter.unusedVariables false
set_option linter.unusedSimpArgs false
section
variable{P:Program}(T:Tbl P)
def d4d{ty:Nat->Type}(c c':Nat)(xs:List (ty c)):Option (List (ty c')):=match Nat.decEq c c' with
 | .isTrue h=>some (h▸xs)
 | .isFalse _=>none
def appY(c:Nat)(H:List (AO T.ty))(el q:Nat):AV T.ty->Option (List (T.ty c))
 | .sl c' ys=>d4d c' c ys
 | .row j=>match H[j]? with
   |some (.row el' q' c' (y::ys))=>match Nat.beq el' el,Nat.beq q' q with
    |true,true=>d4d c' c (y::ys)
    |_,_=>none
   |_=>none
 | .val (.slice none 0 0)=>some []
 |_=>none
def appX(t:TypeId)(H:List (AO T.ty))(el q:Nat):AV T.ty->Option ((Nat×List (AO T.ty))×(c:Nat)×List (T.ty c))
 | .row i=>match H[i]? with
   |some (.row el' q' c xs)=>match Nat.beq el' el,Nat.beq q' q with
    |true,true=>some ((i,H),⟨c,xs⟩)
    |_,_=>none
   |_=>none
 | .val (.slice none 0 0)=>lenK H fun h=>some ((h,snoc (.row el q (T.cod t) []) H),⟨T.cod t,[]⟩)
 |_=>none
def evP(n:Nat)(s:St T.ty):Option (EV T.ty):=match s with
 |⟨.ops all (o::l),k,e,H⟩=>match a9a all e o.guard,o.dst,o.op with
  |true,some d,.call ⟨.builtin .append,args,ts⟩=>match args.toList,ts.toList with
   | [x,y],[t,t']=>match Nat.beq t t',T.app t,opA e x,opA e y,Nat.blt d n with
     |true,some (el,q,by'),some vx,some vy,true=>match appX T t H el q vx with
      |some ((i,H1),⟨c,xs⟩)=>match Nat.beq q (T.rp c).k,appY T c H1 el q vy with
       |true,some ys=>some ⟨List (T.ty c),Rt.app by' xs ys,fun v=>⟨.ops all l,k,(d,.row i)::subE i .any e,(subH i .any H1).set i (.row el q c v)⟩⟩
       |_,_=>none
      |none=>none
     |_,_,_,_,_=>none
   |_,_=>none
  |_,_,_=>none
 |_=>none
end
section
variable{P:Program}{T:Tbl P}{Q:Exit->Act->World->Prop}{n:Nat}{F0:Frz}{w0:World}{X:List Nat}{Kz:Snap}{ρ:Type}
theorem c1j{ty:Nat->Type}{c c':Nat}{xs:List (ty c)}{ys:List (ty c')}(h:d4d c c' xs=some ys):∃e:c=c',ys=e▸xs:=by
 unfold d4d at h;split at h
 ·rename_i e _;cases h;exact⟨e,rfl⟩
 cases h
theorem e8w{t el q i c:Nat}{H H1:List (AO T.ty)}{vx:AV T.ty}{xs:List (T.ty c)}(h:appX T t H el q vx=some ((i,H1),⟨c,xs⟩)){R:List OE}{F:Frz}{u:Value}{w:World}(hu:Conc T.rp R F vx u)(hH:RelH T.rp Kz R F H R)(hS:HS F0 w0 X F R w):
 ∃R1 a m k us,Keep R F R1 F/\u= .slice a m k/\R1[i]?=some (.row el q a m k us)/\RowN (T.rp c) F m us xs/\RelH T.rp Kz R1 F H1 R1/\HS F0 w0 X F R1 w:=by
 unfold appX at h;simp only [b9w]at h;split at h
 ·split at h
  ·rename_i j el' q' c' xs' hi;split at h
   ·rename_i e1 e2;obtain rfl:=Nat.eq_of_beq_eq_true e1;obtain rfl:=Nat.eq_of_beq_eq_true e2;cases h;obtain⟨e,q2,a,m,k,us,g1,g2⟩:=hu;obtain⟨en,g3,a2,m2,k2,us2,rfl,g4⟩:=hH.2 _ _ hi;rw [g1]at g3;cases g3;exact⟨R,a,m,k,us,Keep.refl,g2,g1,g4,hH,hS⟩
   cases h
  cases h
 ·cases h;simp only [Conc]at hu;have hk:Keep R F (R++ [.row el q none 0 0 []]) F:=Keep.more (Frz.refl F);refine⟨R++ [.row el q none 0 0 []],none,0,0,[],hk,hu,?_,⟨rfl,rfl⟩,?_,(hS.nilRow el q).addEnd⟩
  ·rw [hH.1];simp
  rw [b3m];exact(hH.mono hk).add ⟨none,0,0,[],rfl,rfl,rfl⟩
 cases h
theorem f3m{s:St T.ty}{q:EV T.ty}(h:evP T n s=some q)(v:q.α)(hv:q.x=some v)(k:Sm T Q n F0 w0 X Kz (q.nx v)):Sm T Q n F0 w0 X Kz s:=by
 unfold evP at h;split at h
 ·rename_i all o l its e H;split at h
  ·rename_i d args ts hg hd ho;split at h
   ·rename_i x y t t' hargs hts;split at h
    ·rename_i el qq by' vx vy ht ha hx hy hn
     obtain rfl:=Nat.eq_of_beq_eq_true ht;split at h
     ·rename_i i H1 c xs hX1;split at h
      ·rename_i ys hqk hY;have hqk:=Nat.eq_of_beq_eq_true hqk;cases h;dsimp only at hv k;intro R F m w h1 h2 h3 hX;obtain⟨ux,u1,u2⟩:=a0r h1 hx;obtain⟨uy,y1,y2⟩:=a0r h1 hy;obtain⟨R1,a,mm,kk,us,hk,rfl,g1,g2,g3,g4⟩:=e8w hX1 u2 h2 h3;obtain⟨dst,op,type,pos,after,guard⟩:=o;dsimp only at hg hd ho;subst hd;subst ho;obtain⟨args⟩:=args;obtain⟨ts⟩:=ts;dsimp only at hargs hts;subst hargs;subst hts;have hA:=T.appOk ha;have y2':=y2.mono hk;have fin:∀a' c' w' us',HS F0 w0 X F (R1.set i (.row el qq a' (mm+ys.length) c' us')) w'->RowN (T.rp c) F (mm+ys.length) us' v->RW P all (kq P Kz Q its) l n ((d,.slice a' (mm+ys.length) c')::m) w':=by
        intro a' c' w' us' hS' hR';obtain⟨hlt,_⟩:=List.getElem?_eq_some_iff.1 g1;have hT:Turn T.rp i .any R1 F (R1.set i (.row el qq a' (mm+ys.length) c' us')) F:=by
         refine⟨Frz.refl F,fun j b t cs hj=>⟨cs,?_⟩,fun j e' q' a'' m' n' xs' hji hj=> ?_,fun _ _=>trivial⟩
         ·rw [List.getElem?_set,if_neg (fun e=>by subst e;rw [g1]at hj;cases hj)];exact hj
         rw [List.getElem?_set,if_neg (fun e=>hji e.symm)];exact hj
        refine k _ F ((d,.slice a' (mm+ys.length) c')::m) w' (((h1.mono hk).sub hT).put ⟨el,qq,a',_,c',us',?_,rfl⟩) ?_ hS' ⟨fun j b hb=> ?_,hX.2⟩
        ·rw [List.getElem?_set,if_pos rfl,if_pos hlt]
        ·exact(g3.sub hT).set i ⟨a',_,c',us',rfl,hR'⟩
        obtain⟨t,cs,hj⟩:=hX.1 j b hb;obtain⟨cs',hj⟩:=hk.box j b t cs hj;obtain⟨cs2,h9⟩:=hT.box j b t cs' hj;exact⟨t,cs2,h9⟩
       unfold appY at hY;split at hY
       ·obtain⟨rfl,rfl⟩:=c1j hY;obtain⟨a2,m2,n2,rfl,z2⟩:=y2';have:=z2.len;subst this;exact c1b hA hqk (a2g h1 hg) hn g4 u1 y1 g1 g2 z2 hv fun a' c' w' xs' hS' hR'=>fin a' c' w' xs' hS' hR'
       ·split at hY
        ·rename_i j el' q' c' y0 ys' hj;split at hY
         ·rename_i e1 e2;obtain rfl:=Nat.eq_of_beq_eq_true e1;obtain rfl:=Nat.eq_of_beq_eq_true e2;obtain⟨rfl,rfl⟩:=c1j hY;obtain⟨e',q2,a2,m2,n2,us2,z1,rfl⟩:=y2';obtain⟨en,z3,a3,m3,n3,us3,rfl,z4⟩:=g3.2 _ _ hj;rw [z1]at z3;cases z3;obtain⟨b2,rfl⟩:=g4.rows _ _ _ _ _ _ _ z1 (by rw [<-z4.len];simp);have:=z4.len;subst this;exact b6u hA (a2g h1 hg) hn g4 u1 y1 g1 z1 g2 z4 hv fun a' c' w' hS' hR'=>fin a' c' w' _ hS' hR'
         cases hY
        cases hY
       ·cases hY;simp only [Conc]at y2';subst y2';exact c1b (l2:= []) hA hqk (a2g h1 hg) hn g4 u1 y1 g1 g2 (SlR.nil _ _) hv fun a' c' w' xs' hS' hR'=>fin a' c' w' xs' hS' hR'
       cases hY
      cases h
     cases h
    cases h
   cases h
  cases h
 cases h
theorem gP{r:ρ}{α:Type}{x:Option α}{f:α->Option ρ}{nx:α->St T.ty}{s:St T.ty}(h:evP T n (rn T n s)=some ⟨α,x,nx⟩)(k:∀v,G T Q n F0 w0 X Kz r (f v) (nx v)):G T Q n F0 w0 X Kz r (x.bind f) s:=fun hm=>by
 obtain⟨v,hv,hm⟩:=bind_some hm;exact a7h (f3m h v hv (k v hm))
inductive LI(ty:Nat->Type)where
 |v (k:Nat) (x:AV ty)
 |r (k c:Nat) (xs:List (ty c))
 |b (k:Nat) (cs:List (AV ty))
 |d (ks:List Nat)
 |bs (k j:Nat) (x:AV ty)
 |br (k j c:Nat) (xs:List (ty c))
def dele{ty:Nat->Type}(ks:List Nat):AE ty->AE ty
 | []=> []
 |p::l=>match ks.any (Nat.beq p.1)with
  |true=>dele ks l
  |false=>p::dele ks l
def updE{ty:Nat->Type}(k:Nat)(x:AV ty):AE ty->AE ty
 | []=> [(k,x)]
 |p::l=>match k==p.1 with
  |true=>(k,x)::l
  |false=>p::updE k x l
def ded{ty:Nat->Type}(seen:List Nat):AE ty->AE ty
 | []=> []
 |p::l=>match seen.any (Nat.beq p.1)with
  |true=>ded seen l
  |false=>p::ded (p.1::seen) l
def d3m{α β:Type}:List α->(List α->Option β)->Option β | [],k=>k [] |x::l,k=>d3m l fun r=>k (x::r)
theorem c9p{α β:Type}:∀(l:List α)(k:List α->Option β),d3m l k=k l
 | [],_=>rfl
 |x::l,k=>by rw [d3m,c9p l]
mutual
def refA{ty:Nat->Type}(i:Nat):AV ty->Bool | .row j=>Nat.beq j i | .rel j _ _ _ _=>Nat.beq j i | .agg l=>refL i l | .tup l=>refL i l |_=>false
def refL{ty:Nat->Type}(i:Nat):List (AV ty)->Bool
 | []=>false
 |x::l=>match refA i x with
  |true=>true
  |false=>refL i l
 end
def e4b{ty:Nat->Type}(i k:Nat):AE ty->AE ty
 | []=> []
 |p::l=>match Nat.beq p.1 k with
  |true=>p::e4b i k l
  |false=>match refA i p.2 with
   |true=>e4b i k l
   |false=>p::e4b i k l
def hdOf(T:Tbl P):AE T.ty->List (AO T.ty)->List (LI T.ty)->Option (Hd T.ty)
 |e,H,[]=>d3m (ded [] e) fun e=>d3m H fun H=>some ⟨e,H⟩
 |e,H,.v k x::l=>hdOf T (updE k x e) H l
 |e,H,.d ks::l=>hdOf T (dele ks e) H l
 |e,H,.r k c xs::l=>match e.lookup k with
  |some (.row i)=>match H[i]? with
   |some (.row el q _ _)=>match putA i (.row el q c xs) H with
    |some H'=>hdOf T (e4b i k e) H' l
    |none=>none
   |_=>none
  |_=>none
 |e,H,.b k cs::l=>match e.lookup k with
  |some (.bx i 0)=>match H[i]? with
   |some (.box t _)=>match putA i (.box t cs) H with
    |some H'=>hdOf T e H' l
    |none=>none
   |_=>none
  |_=>none
 |e,H,.bs k j x::l=>match e.lookup k with
  |some (.bx i _)=>match H[i]? with
   |some (.box t cs)=>match putA j x cs with
    |some cs'=>match putA i (.box t cs') H with
     |some H'=>hdOf T e H' l
     |none=>none
    |none=>none
   |_=>none
  |_=>none
 |e,H,.br k j c xs::l=>match e.lookup k with
  |some (.bx i _)=>match H[i]? with
   |some (.box _ cs)=>match cs[j]? with
    |some (.row i2)=>match H[i2]? with
     |some (.row el q _ _)=>match putA i2 (.row el q c xs) H with
      |some H'=>hdOf T (e4b i2 1000000 e) H' l
      |none=>none
     |_=>none
    |_=>none
   |_=>none
  |_=>none
def nilE(T:Tbl P):List (LI T.ty)->AE T.ty->List (AO T.ty)->Option (AE T.ty×List (AO T.ty))
 | [],e,H=>d3m e fun e=>d3m H fun H=>some (e,H)
 | .r k c _::l,e,H=>match e.lookup k with
   |some (.val (.slice none 0 0))=>lenK H fun h=>nilE T l (updE k (.row h) e) (snoc (.row (T.elt c) (T.rp c).k c []) H)
   |_=>nilE T l e H
 | .br k j c _::l,e,H=>match e.lookup k with
   |some (.bx i _)=>match H[i]? with
    |some (.box t cs)=>match cs[j]? with
     |some (.val (.slice none 0 0))=>lenK H fun h=>match putA j (.row h) cs with
      |some cs'=>match putA i (.box t cs') H with
       |some H'=>nilE T l e (snoc (.row (T.elt c) (T.rp c).k c []) H')
       |none=>nilE T l e H
      |none=>nilE T l e H
     |_=>nilE T l e H
    |_=>nilE T l e H
   |_=>nilE T l e H
 |_::l,e,H=>nilE T l e H
theorem ConcL.set1{R:List OE}{F:Frz}{x:AV T.ty}:∀{l:List (AV T.ty)}{us:List Value}(j:Nat),ConcL T.rp R F l us->(∀v,us[j]?=some v->Conc T.rp R F x v)->ConcL T.rp R F (l.set j x) us
 | [],_,_,h,_=>h
 |y::l,_,0,⟨v,k,h1,h2,h3⟩,hx=>⟨v,k,h1,hx v (by rw [h1];rfl),h3⟩
 |y::l,_,j+1,⟨v,k,h1,h2,h3⟩,hx=>⟨v,k,h1,h2,ConcL.set1 j h3 (fun u hu=>hx u (by rw [h1];exact hu))⟩
theorem ConcE.upd{R:List OE}{F:Frz}{k:Nat}{x0 x:AV T.ty}(hx:∀v,Conc T.rp R F x0 v->Conc T.rp R F x v):∀{e:AE T.ty}{m:Env},ConcE T.rp R F e m->e.lookup k=some x0->ConcE T.rp R F (updE k x e) m
 | [],_,_,h=>by simp at h
 |p::l,_,⟨v,r,h1,h2,h3⟩,h=>by
  rw [List.lookup_cons]at h;unfold updE;cases hb:(k==p.1)with
  |true=>
   rw [hb]at h;cases h;have:k=p.1:=by simpa using hb
   exact⟨v,r,by rw [h1,this],hx v h2,h3⟩
  |false=>rw [hb]at h;exact⟨v,r,h1,h2,ConcE.upd hx h3 h⟩
theorem b0p{F:Frz}{w:World}{m:Env}:∀{l:List (LI T.ty)}{R:List OE}{e e1:AE T.ty}{H H1:List (AO T.ty)},nilE T l e H=some (e1,H1)->ConcE T.rp R F e m->RelH T.rp Kz R F H R->HS F0 w0 X F R w->LG T X R F->
 ∃R',ConcE T.rp R' F e1 m/\RelH T.rp Kz R' F H1 R'/\HS F0 w0 X F R' w/\LG T X R' F
 | [],R,e,e1,H,H1,h,h1,h2,h3,hX=>by
  unfold nilE at h;rw [c9p,c9p]at h;cases h;exact⟨R,h1,h2,h3,hX⟩
 | .r k c xs::l,R,e,e1,H,H1,h,h1,h2,h3,hX=>by
  unfold nilE at h;simp only [b9w]at h;split at h
  ·rename_i hl;have hk:Keep R F (R++ [.row (T.elt c) (T.rp c).k none 0 0 []]) F:=Keep.more (Frz.refl F);refine b0p h (ConcE.upd (fun v hv=> ?_) (h1.mono hk) hl) ?_ (h3.nilRow _ _).addEnd (hX.keep hk)
   ·simp only [Conc]at hv;exact⟨T.elt c,(T.rp c).k,none,0,0,[],by rw [h2.1];simp,hv⟩
   rw [b3m];exact(h2.mono hk).add ⟨none,0,0,[],rfl,rfl,rfl⟩
  exact b0p h h1 h2 h3 hX
 | .br k j c xs::l,R,e,e1,H,H1,h,h1,h2,h3,hX=>by
  unfold nilE at h;simp only [b9w]at h;split at h
  ·rename_i i o hl;split at h
   ·rename_i t cs hi;split at h
    ·rename_i hj;split at h
     ·rename_i cs' hp1;split at h
      ·rename_i H' hp2;have hk:Keep R F (R++ [.row (T.elt c) (T.rp c).k none 0 0 []]) F:=Keep.more (Frz.refl F);refine b0p h (h1.mono hk) ?_ (h3.nilRow _ _).addEnd (hX.keep hk);rw [b3m];have g0:RelH T.rp Kz (R++ [.row (T.elt c) (T.rp c).k none 0 0 []]) F (H++ [.row (T.elt c) (T.rp c).k c []]) (R++ [.row (T.elt c) (T.rp c).k none 0 0 []]):=(h2.mono hk).add ⟨none,0,0,[],rfl,rfl,rfl⟩;obtain⟨en,g1,b,us,rfl,g2⟩:=h2.2 i _ hi;have hlt:=(List.getElem?_eq_some_iff.1 g1).1;have hlt2:i<H.length:=(List.getElem?_eq_some_iff.1 hi).1;have g3:RelO T.rp Kz (R++ [.row (T.elt c) (T.rp c).k none 0 0 []]) F (.box t cs') (.box b t us):=by
        refine⟨b,us,rfl,?_⟩;rw [b9n hp1];refine ConcL.set1 j (g2.mono hk) (fun v hv=> ?_);obtain⟨v2,k1,k2⟩:=g2.get hj;rw [hv]at k1;cases k1;simp only [Conc]at k2;exact⟨T.elt c,(T.rp c).k,none,0,0,[],by rw [h2.1];simp,k2⟩
       have g4:=g0.set i g3;rw [b9n hp2];have e1:(H++ [AO.row (T.elt c) (T.rp c).k c []]).set i (.box t cs')=H.set i (.box t cs')++ [AO.row (T.elt c) (T.rp c).k c []]:=by rw [List.set_append_left _ _ hlt2]
       have e2:(R++ [OE.row (T.elt c) (T.rp c).k none 0 0 []]).set i (.box b t us)=R++ [OE.row (T.elt c) (T.rp c).k none 0 0 []]:=by
        rw [List.set_append_left _ _ hlt]
        congr 1
        obtain⟨_,g5⟩:=List.getElem?_eq_some_iff.1 g1;rw [<-g5];exact List.set_getElem_self hlt
       rw [e1,e2]at g4;exact g4
      exact b0p h h1 h2 h3 hX
     exact b0p h h1 h2 h3 hX
    exact b0p h h1 h2 h3 hX
   exact b0p h h1 h2 h3 hX
  exact b0p h h1 h2 h3 hX
 | .bs k j x::l,R,e,e1,H,H1,h,h1,h2,h3,hX=>b0p (l:=l) h h1 h2 h3 hX
 | .v k x::l,R,e,e1,H,H1,h,h1,h2,h3,hX=>b0p (l:=l) h h1 h2 h3 hX
 | .b k x::l,R,e,e1,H,H1,h,h1,h2,h3,hX=>b0p (l:=l) h h1 h2 h3 hX
 | .d x::l,R,e,e1,H,H1,h,h1,h2,h3,hX=>b0p (l:=l) h h1 h2 h3 hX
theorem a1h{σ:Type}{r:ρ}(L:Nat->σ->Option ρ)(δ:σ->List (LI T.ty))(h0:∀s,L 0 s=none){s:St T.ty}{c:Code}{its:List It}{e e1:AE T.ty}{H H1:List (AO T.ty)}{I:σ->Hd T.ty}{m:Nat}(x:σ)(hr:evL (rn T n s)=some (c,its,e,H))
 (hN:nilE T (δ x) e H=some (e1,H1)) (hI:∀s,hdOf T e1 H1 (δ s)=some (I s)) (hA:atHd T X (I x) e1 H1=some (I x))
 (hs:∀(K:Act->World->Prop)m,Back T n F0 w0 X Kz (L m) I r K->∀s,G T Q n F0 w0 X Kz r (L (m+1) s) ⟨.code c,.sem K::its,(I s).e,(I s).H⟩):G T Q n F0 w0 X Kz r (L m x) s:=fun hm=>by
 refine a7h ?_;revert hr;generalize rn T n s=s';intro hr;unfold evL at hr;split at hr
 ·cases hr;intro R F mm w h1 h2 h3 hX a ha;obtain⟨R',g1,g2,g3,g4⟩:=b0p hN h1 h2 h3 hX;refine loopR L r (fun s a w=>Iv T n F0 w0 X Kz (I s) a w) h0 (fun m K hK s a w hL⟨R,F,m2,g1,g2,g3,g4,g5⟩=> ?_) hm (d4s hA ha g1 g2 g3 g4);exact hs K m hK s hL R F m2 w g2 g3 g4 g5 a g1
 cases hr
def evJ(s:St T.ty):Option (Nat×Array Oper×List Oper×List It×AE T.ty×List (AO T.ty)):=match s with
 |⟨.ops all (o::l),k,e,H⟩=>match o.guard with
  |some (j,_)=>match(all[j]?).bind (·.dst)with
   |some t=>some (t,all,o::l,k,e,H)
   |none=>none
  |none=>match o.op with
   | .pick (.tmp t) _ _=>some (t,all,o::l,k,e,H)
   |_=>none
 |_=>none
def evM(s:St T.ty):Option (Nat×Code×List It×AE T.ty×List (AO T.ty)):=match s with
 |⟨.code (.cond (.tmp t) x y),k,e,H⟩=>some (t,.cond (.tmp t) x y,k,e,H)
 |_=>none
theorem gJ{r:ρ}{α:Type}{x:Option α}{f:α->Option ρ}(k:Nat)(δ:α->List (LI T.ty)){s:St T.ty}{t:Nat}{all:Array Oper}{l:List Oper}{its:List It}{e:AE T.ty}{H:List (AO T.ty)}{I:α->Hd T.ty}(hr:evJ (rn T n s)=some (t,all,l,its,e,H))
 (hI:∀v,hdOf T e H (δ v)=some (I v)) (h1:∀K:Act->World->Prop,Back T n F0 w0 X Kz f I r K->G T Q n F0 w0 X Kz r (x.bind f) ⟨.ops all (l.take k),.sem K::its,e,H⟩)
 (h2:∀v,G T Q n F0 w0 X Kz r (f v) ⟨.ops all (l.drop k),its,(I v).e,(I v).H⟩):G T Q n F0 w0 X Kz r (x.bind f) s:=fun hm=>by
 refine a7h ?_;have hs:rn T n s=⟨.ops all l,its,e,H⟩:=by
  revert hr;generalize rn T n s=s';intro hr;unfold evJ at hr;split at hr
  ·split at hr
   ·split at hr
    ·cases hr;rfl
    cases hr
   split at hr
   ·cases hr;rfl
   cases hr
  cases hr
 rw [hs];intro R F m w g1 g2 g3 g4;refine b0r k (fun a w'=>∃v,f v=some r/\Iv T n F0 w0 X Kz (I v) a w') (fun a w'⟨v,hv,R,F,m2,k1,k2,k3,k4,k5⟩=>h2 v hv R F m2 w' k2 k3 k4 k5 a k1) ?_;exact h1 (fun a w'=>∃v,f v=some r/\Iv T n F0 w0 X Kz (I v) a w') (fun v a w' hv hi=>⟨v,hv,hi⟩) hm R F m w g1 g2 g3 g4
theorem gM{r:ρ}{α:Type}{x:Option α}{f:α->Option ρ}(δ:α->List (LI T.ty)){s:St T.ty}{t:Nat}{c:Code}{its:List It}{e:AE T.ty}{H:List (AO T.ty)}{I:α->Hd T.ty}(hr:evM (rn T n s)=some (t,c,its,e,H))
 (hI:∀v,hdOf T e H (δ v)=some (I v)) (h1:∀K:Act->World->Prop,Back T n F0 w0 X Kz f I r K->G T Q n F0 w0 X Kz r (x.bind f) ⟨.code c,.sem K::its,e,H⟩)
 (h2:∀v,G T Q n F0 w0 X Kz r (f v) ⟨.out .normal,its,(I v).e,(I v).H⟩):G T Q n F0 w0 X Kz r (x.bind f) s:=fun hm=>by
 refine a7h ?_;have hs:rn T n s=⟨.code c,its,e,H⟩:=by
  revert hr;generalize rn T n s=s';intro hr;unfold evM at hr;split at hr
  ·cases hr;rfl
  cases hr
 rw [hs];intro R F m w g1 g2 g3 g4 a ha;refine Code.wp_mono (fun e a' w' hq=> ?_) (h1 (fun a w'=>∃v,f v=some r/\Iv T n F0 w0 X Kz (I v) a w') (fun v a w' hv hi=>⟨v,hv,hi⟩) hm R F m w g1 g2 g3 g4 a ha);cases e with
 |normal=>
  obtain⟨v,hv,R,F,m2,k1,k2,k3,k4,k5⟩:=hq;exact h2 v hv R F m2 w' k2 k3 k4 k5 a' k1
 |_=>exact hq
theorem gX{r:ρ}{α:Type}{f:α->Option ρ}{I:α->Hd T.ty}{K:Act->World->Prop}(hK:Back T n F0 w0 X Kz f I r K){v:α}{s:St T.ty}{its:List It}{e:AE T.ty}{H:List (AO T.ty)}(hr:evE (rn T n s)=some (K,its,e,H))
 (hI:atHd T X (I v) e H=some (I v)):G T Q n F0 w0 X Kz r ((some v).bind f) s:=fun hm=>by
 refine a7h ?_;revert hr;generalize rn T n s=s';intro hr;unfold evE at hr;split at hr
 ·cases hr;intro R F mm w h1 h2 h3 hX a ha;exact hK v a w hm (d4s hI ha h1 h2 h3 hX)
 cases hr
theorem gx{P:Program}{T:Tbl P}{n:Nat}{F0:Frz}{w0:World}{X:List Nat}{Kz:Snap}{ρ:Type}{Q:Exit->Act->World->Prop}{r:ρ}{α:Type}{f:α->Option ρ}{I:α->Hd T.ty}{K:Act->World->Prop}(hK:Back T n F0 w0 X Kz f I r K){v:α}{s:St T.ty}{its:List It}{e:AE T.ty}{H:List (AO T.ty)}(hr:evE (rn T n s)=some (K,its,e,H):=by exact rfl)(hI:atHd T X (I v) e H=some (I v):=by kernel_rfl):G T Q n F0 w0 X Kz r ((some v).bind f) s:=gX hK hr hI
end
set_option linter.unusedVariables false
set_option linter.unusedSimpArgs false
def Rp.unit:Rp Unit where
 k:=0
 R:=fun _ cs _=>cs= []
 len:=by intros;simp_all
 mono:=fun _ h=>h
 one:=by intro F cs x h u hu;subst h;simp at hu
def slOf{ty:Nat->Type}(c:Nat):AV ty->Option (List (ty c)) | .sl c' xs=>d4d c' c xs | .val (.slice none 0 0)=>some [] |_=>none
theorem b2a{ty:Nat->Type}{rp:∀c,Rp (ty c)}{R:List OE}{F:Frz}{c:Nat}{y:AV ty}{xs:List (ty c)}{v:Value}(h:slOf c y=some xs)(hc:Conc rp R F y v):∃a m n,v= .slice a m n/\SlR (rp c) F a m n xs:=by
 unfold slOf at h;split at h
 ·obtain⟨rfl,rfl⟩:=c1j h;exact hc
 ·cases h;simp only [Conc]at hc;exact⟨none,0,0,hc,SlR.nil _ _⟩
 cases h
theorem SizeIs.of{P:Program}{t:TypeId}{k:Nat}(h:(P.info? t).map (·.size)=some k):SizeIs P t k:=by
 intro w;cases hi:P.info? t with
 |none=>simp [hi]at h
 |some i=>
  simp only [hi,Option.map_some,Option.some.injEq]at h;simp [sizeOf,typeInfo,hi,h]
theorem f4m{P:Program}{t:TypeId}{ps:List (Nat×Nat)}(h1:P.underlying t=some (.struct (P.fieldsOf t).toList.toArray))(h2:(P.fieldsOf t).toList.map (fun f=>(f.offset,(P.info? f.type).map (·.size)))=ps.map (fun p=>(p.1,some p.2))):
 ∃fs:List Field,P.underlying t=some (.struct fs.toArray)/\fs.map (·.offset)=ps.map (·.1)/\∀(i:Nat)f p,fs[i]?=some f->ps[i]?=some p->SizeIs P f.type p.2:=by
 refine⟨_,h1,?_,fun i f p hf hp=> ?_⟩
 ·have:=congrArg (List.map Prod.fst) h2;rw [List.map_map,List.map_map]at this;exact this
 have:=congrArg (fun l=>l[i]?) h2;simp only [List.getElem?_map,hf,hp,Option.map_some,Option.some.injEq,Prod.mk.injEq]at this;exact SizeIs.of this.2
set_option linter.unusedVariables false
set_option linter.unusedSimpArgs false
section
variable{P:Program}(T:Tbl P)
def FnO(f:FuncId){ρ:Type}(az:List (AV T.ty))(m:Option ρ)(el q c:Nat)(res:ρ->List (T.ty c)):Prop:= Ent P f/\∀r,m=some r->∀w F,Sat F w->T.gl F->∀us,ConcL T.rp [] F az us->Calls P f us.toArray w fun e w'=>∃v F' a m n xs,e= .returned v/\HS F w [] F' [.row el q a m n xs] w'/\RowN (T.rp c) F' m xs (res r)/\v= .slice a m n
def FnL(f:FuncId){ρ:Type}(t:TypeId)(cs az:List (AV T.ty))(m:Option ρ)(cs':ρ->List (AV T.ty))(res:ρ->AV T.ty):Prop:= Ent P f/\∀r,m=some r->∀w F,Sat F w->T.gl F->∀b ws us,w.heap[b]?=some (.cells ws.toArray t (0,0))->F b=none->ConcL T.rp [] F cs ws->ConcL T.rp [.box b t ws] F az us-> Calls P f us.toArray w fun e w'=>∃v F' ws',e= .returned v/\HS F w [b] F' [.box b t ws'] w'/\ConcL T.rp [] F' (cs' r) ws'/\Conc T.rp [] F' (res r) v
def b5s(i:Nat):List (AV T.ty)->List (AV T.ty)
 | []=> []
 | .bx j o::l=>match Nat.beq j i with
   |true=> .bx 0 o::b5s i l
   |false=> .bx (j+1) o::b5s i l
 |x::l=>x::b5s i l
def lentOf:List (AV T.ty)->Option Nat | []=>none | .bx j _::_=>some j |_::l=>lentOf l
def pureL1:List (AV T.ty)->Bool
 | []=>true
 | .bx 0 _::l=>pureL1 l
 |x::l=>match c6g x with
  |true=>pureL1 l
  |false=>false
structure LV(ty:Nat->Type)where
 f:FuncId
 t:TypeId
 cs:List (AV ty)
 az:List (AV ty)
 nx:List (AV ty)->AV ty->St ty
def evO(n:Nat)(s:St T.ty):Option (FuncId×List (AV T.ty)×(AO T.ty->St T.ty)):=match s with
 |⟨.ops all (o::l),k,e,H⟩=>match a9a all e o.guard,o.dst,o.op with
  |true,some d,.call ⟨.value c,args,_⟩=>match Nat.blt d n,opA e c,opL e args.toList with
   |true,some (.val (.func (.func f) fi ca)),some az=>match fi.toList,ca.toList,frzW T (H.length+1) az e H with
    | [],[],some (as',e',H')=>some (f,as',fun v=>lenK H' fun h=>⟨.ops all l,k,(d,.row h)::e',snoc v H'⟩)
    |_,_,_=>none
   |_,_,_=>none
  |_,_,_=>none
 |_=>none
def evLn(n:Nat)(s:St T.ty):Option (LV T.ty):=match s with
 |⟨.ops all (o::l),k,e,H⟩=>match a9a all e o.guard,o.dst,o.op with
  |true,some d,.call ⟨.value c,args,_⟩=>match Nat.blt d n,opA e c,opL e args.toList with
   |true,some (.val (.func (.func f) fi ca)),some az=>match fi.toList,ca.toList,lentOf T az with
    | [],[],some i=>match H[i]? with
      |some (.box _ cs0)=>match frzW T (H.length+1) (.agg cs0::az) e H with
       |some (_::as',e',H')=>match H'[i]? with
        |some (.box t cs)=>some ⟨f,t,cs,b5s T i as',fun cs' v=>⟨.ops all l,k,(d,v)::e',H'.set i (.box t cs')⟩⟩
        |_=>none
       |_=>none
      |_=>none
    |_,_,_=>none
   |_,_,_=>none
  |_,_,_=>none
 |_=>none
def evRO(fn:Func)(s:St T.ty):Option ((el:Nat)×(q:Nat)×(c:Nat)×List (T.ty c)):=match s with
 |⟨.out .ret,[],e,H⟩=>match resA T e H fn.results.toList with
  |some [.row i]=>match H[i]? with
   |some (.row el q c xs)=>some ⟨el,q,c,xs⟩
   |_=>none
  |_=>none
 |_=>none
def evRg(fn:Func)(e:AE T.ty)(H:List (AO T.ty)):Option (TypeId×List (AV T.ty)×AV T.ty):=match(H[0]?:Option (AO T.ty))with
 |some (.box _ cs0)=>match resA T e H fn.results.toList with
  |some l=>match frzW T (H.length+1) (.agg cs0::l) e H with
   |some (_::l',_,H')=>match(H'[0]?:Option (AO T.ty))with
    |some (.box t cs)=>some (t,cs,oneR l')
    |_=>none
   |_=>none
  |none=>none
 |_=>none
def evRL(fn:Func)(s:St T.ty):Option (TypeId×List (AV T.ty)×AV T.ty):=match s with
 |⟨.out .ret,[],e,H⟩=>evRg T fn e H
 |⟨.out .normal,[],e,H⟩=>match fn.results.toList with
  | []=>evRg T fn e H
  |_=>none
 |_=>none
end
section
variable{P:Program}{T:Tbl P}{Q:Exit->Act->World->Prop}{n:Nat}{F0:Frz}{w0:World}{X:List Nat}{Kz:Snap}{ρ:Type}
theorem f4o{s:St T.ty}{f:FuncId}{as0:List (AV T.ty)}{nx:AO T.ty->St T.ty}(h:evO T n s=some (f,as0,nx)){α:Type}{az:List (AV T.ty)}{mr:Option α}{el q c:Nat}{res:α->List (T.ty c)}(hF:FnO T f az mr el q c res)(hc:cnvL as0 az=az)(hp:a9d az=true){r:α}(hr:mr=some r)
 (k:Sm T Q n F0 w0 X Kz (nx (.row el q c (res r)))):Sm T Q n F0 w0 X Kz s:=by
 unfold evO at h;simp only [b9w]at h;split at h
 ·rename_i all o l its e H;split at h
  ·rename_i d cc args ts hg hd ho;split at h
   ·rename_i f0 fi ca as1 hn hf hl;split at h
    ·rename_i as' e' H' hfi hca hz;cases h;intro R F m w h1 h2 h3 hX;obtain⟨us,g1,g2⟩:=c1a h1 hl;obtain⟨R',F',k1,k2,k3,k4,k5,k6⟩:=b0q hz h1 h2 h3 hX g2;have k7:=(k6.cnv az)
     rw [hc]at k7;obtain⟨u,g3,g4⟩:=a0r h1 hf;simp only [Conc]at g4;subst g4;have hfi:fi= #[]:=Array.toList_eq_nil_iff.1 hfi;have hca:ca= #[]:=Array.toList_eq_nil_iff.1 hca;subst hfi;subst hca;obtain⟨dst,op,type,pos,after,guard⟩:=o;dsimp only at hg hd ho;subst hd;subst ho;obtain⟨args⟩:=args;refine a1q (R:=fun v F' O'=>∃a m n xs,O'= [.row el q a m n xs]/\RowN (T.rp c) F' m xs (res r)/\v= .slice a m n) hF.1 (a2g h1 hg) hn g3 g1 k4
      ((hF.2 r hr w F' k4.sat k5.2 us (k7.pure hp)).mono fun _ _⟨v,F2,a,m,n,xs,e1,e2,e3,e4⟩=>⟨v,F2,_,e1,e2,a,m,n,xs,rfl,e3,e4⟩)
      (fun v F2 O' w' hle hS⟨a,m2,n2,xs,e1,e2,e3⟩=> ?_)
     subst e1;subst e3;have hk:Keep R' F' (R'++ [.row el q a m2 n2 xs]) F2:=Keep.more hle;refine k _ F2 _ w' ((k2.mono hk).put ⟨el,q,a,m2,n2,xs,?_,rfl⟩) ?_ hS.addEnd (k5.keep hk)
     ·rw [k3.1];simp
     show RelH _ _ _ _ (snoc _ H') _;rw [b3m];exact(k3.mono hk).add ⟨a,m2,n2,xs,rfl,e2⟩
    cases h
   cases h
  cases h
 cases h
theorem c1m{R:List OE}{F:Frz}{i b:Nat}{t:TypeId}{ws:List Value}(hi:R[i]?=some (.box b t ws)):∀{l:List (AV T.ty)}{us:List Value},pureL1 T (b5s T i l)=true->ConcL T.rp R F l us->ConcL T.rp [.box b t ws] F (b5s T i l) us
 | [],us,_,h=>h
 |x::l,us,p,⟨v,k,h1,h2,h3⟩=>by
  have other:(∀j o,x≠ .bx j o)->ConcL T.rp [.box b t ws] F (b5s T i (x::l)) us:=by
   intro hx;have e:b5s T i (x::l)=x::b5s T i l:=by cases x<;>first|rfl|exact absurd rfl (hx _ _)
   rw [e]at p⊢;have p2:c6g x=true/\pureL1 T (b5s T i l)=true:=by
    cases x<;>first|exact absurd rfl (hx _ _)|(simp only [pureL1]at p;split at p<;>first|(rename_i hp;exact⟨hp,p⟩)|cases p)
   exact⟨v,k,h1,Conc.pure p2.1 h2,c1m hi p2.2 h3⟩
  cases x with
  |bx j o=>
   unfold b5s at p⊢;split at p
   ·rename_i hb;obtain rfl:=Nat.eq_of_beq_eq_true hb;obtain⟨b',t',cs,g1,g2⟩:=h2;rw [hi]at g1;cases g1;exact⟨v,k,h1,⟨b,t,ws,rfl,g2⟩,c1m hi (by simpa [pureL1]using p) h3⟩
   rename_i hb;simp [pureL1,c6g]at p
  |_=>exact other (by intro j o e;cases e)
theorem f2p{s:St T.ty}{q:LV T.ty}(h:evLn T n s=some q){α:Type}{cs az:List (AV T.ty)}{mr:Option α}{cs':α->List (AV T.ty)}{res:α->AV T.ty}(hF:FnL T q.f q.t cs az mr cs' res)(hc:cnvL q.cs cs=cs)(hcp:a9d cs=true)(ha:cnvL q.az az=az)(hp:pureL1 T q.az=true){r:α}(hr:mr=some r)
 (k:Sm T Q n F0 w0 X Kz (q.nx (cs' r) (res r))):Sm T Q n F0 w0 X Kz s:=by
 unfold evLn at h;split at h
 ·rename_i all o l its e H;split at h
  ·rename_i d cc args ts hg hd ho;split at h
   ·rename_i f0 fi ca as1 hn hf hl;split at h
    ·rename_i i hfi hca hlent;split at h
     ·rename_i t0 cs0 hi0;split at h
      ·rename_i x1 as' e' H' hz;split at h
       ·rename_i t csx hi;cases h;dsimp only at hF hc ha hp k;intro R F m w h1 h2 h3 hX;obtain⟨us,g1,g2⟩:=c1a h1 hl;obtain⟨en,b1,b0,ws0,rfl,b2⟩:=h2.2 i _ hi0;obtain⟨R',F',k1,k2,k3,k4,k5,v0,r0,k6,k7,k9⟩:=b0q (us:= .agg ws0.toArray::us) hz h1 h2 h3 hX ⟨_,_,rfl,⟨ws0,rfl,b2⟩,g2⟩;obtain⟨rfl,rfl⟩:=List.cons.inj k6;obtain⟨en,c1,b,ws,rfl,c2⟩:=k3.2 i _ hi;have c3:=c2.cnv cs;rw [hc]at c3;have k10:=(c1m c1 hp k9).cnv az;rw [ha]at k10;obtain⟨u,g3,g4⟩:=a0r h1 hf;simp only [Conc]at g4;subst g4;have hfi:fi= #[]:=Array.toList_eq_nil_iff.1 hfi;have hca:ca= #[]:=Array.toList_eq_nil_iff.1 hca;subst hfi;subst hca;obtain⟨dst,op,type,pos,after,guard⟩:=o;dsimp only at hg hd ho;subst hd;subst ho;obtain⟨args⟩:=args;refine d9r (R:=fun v F2 ws' O'=>O'= []/\ConcL T.rp [] F2 (cs' r) ws'/\Conc T.rp [] F2 (res r) v) hF.1 (a2g h1 hg) hn g3 g1 k4 c1
         ((hF.2 r hr w F' k4.sat k5.2 b ws us (k4.get c1) (k4.lendable c1) (c3.pure hcp) k10).mono fun _ _⟨v,F2,ws',e1,e2,e3,e4⟩=>⟨v,F2,ws',[],e1,e2,rfl,e3,e4⟩)
         (fun v F2 ws' O' w' hle hS⟨e1,e2,e3⟩=> ?_)
        subst e1;have hk:Keep R' F' (R'.set i (.box b t ws')) F2:=by
         refine⟨hle,fun j b' t' us' hj=> ?_,fun j e2 q a m' n' xs hj=> ?_⟩
         ·rw [List.getElem?_set]
          by_cases hij:i=j
          ·subst hij;rw [c1]at hj;cases hj;rw [if_pos rfl,if_pos (List.getElem?_eq_some_iff.1 c1).1];exact⟨_,rfl⟩
          rw [if_neg hij];exact⟨_,hj⟩
         rw [List.getElem?_set]
         by_cases hij:i=j
         ·subst hij;rw [c1]at hj;cases hj
         rw [if_neg hij];exact hj
        exact k _ F2 _ w' ((k2.mono hk).put (e3.mono (d2f (Frz.refl F2)))) ((k3.mono hk).set i ⟨b,ws',rfl,e2.mono (d2f (Frz.refl F2))⟩) hS (k5.keep hk)
       cases h
      cases h
     cases h
    cases h
   cases h
  cases h
 cases h
def d0c{P:Program}(T:Tbl P)(F0:Frz)(w0:World)(b:Nat)(t:TypeId)(cs:List (AV T.ty))(av:AV T.ty):Ending->World->Prop:=fun e w'=>∃v F' ws',e= .returned v/\HS F0 w0 [b] F' [.box b t ws'] w'/\ConcL T.rp [] F' cs ws'/\Conc T.rp [] F' av v
def d9j{P:Program}(T:Tbl P)(F0:Frz)(w0:World)(el q c:Nat)(xs:List (T.ty c)):Ending->World->Prop:=fun e w'=>∃v F' a m n us,e= .returned v/\HS F0 w0 [] F' [.row el q a m n us] w'/\RowN (T.rp c) F' m us xs/\v= .slice a m n
def retO{P:Program}(T:Tbl P)(fn:Func)(F0:Frz)(w0:World)(el q c:Nat)(res:ρ->List (T.ty c))(r:ρ):Exit->Act->World->Prop:=bodyPost P fn (d9j T F0 w0 el q c (res r))
def retL{P:Program}(T:Tbl P)(fn:Func)(F0:Frz)(w0:World)(b:Nat)(t:TypeId)(cs':ρ->List (AV T.ty))(res:ρ->AV T.ty)(r:ρ):Exit->Act->World->Prop:=bodyPost P fn (d0c T F0 w0 b t (cs' r) (res r))
theorem e8o{fn:Func}{s:St T.ty}{el q c:Nat}{xs:List (T.ty c)}(h:evRO T fn s=some ⟨el,q,c,xs⟩):Sm T (bodyPost P fn (d9j T F0 w0 el q c xs)) n F0 w0 [] Kz s:=by
 unfold evRO at h;split at h
 ·rename_i e H;split at h
  ·rename_i i hl;split at h
   ·rename_i hi;cases h;intro R F m w h1 h2 h3 hX;obtain⟨us,g1,g2⟩:=c2f (n:=n) h1 h2 h3 hl;obtain⟨v,us',rfl,⟨e1,q1,a,mm,nn,xs1,g3,rfl⟩,g4⟩:=g1;simp only [ConcL]at g4;subst g4;obtain⟨en,g5,a2,m2,n2,ws,rfl,g6⟩:=h2.2 i _ hi;rw [g3]at g5;cases g5;refine d7w (v:= .slice a mm nn) (fun a' ha=> ?_) ⟨_,F,a,mm,nn,_,rfl,h3.pick [i] (by simp) (by simp [Rt.pick,g3]),g6,rfl⟩;have g7:=g2 a' ha;rw [b7z,Array.mapM_eq_mapM_toList];simp [g7]
   cases h
  cases h
 cases h
theorem e0j{fn:Func}{e:AE T.ty}{H:List (AO T.ty)}{b:Nat}{t:TypeId}{cs cs':List (AV T.ty)}{x y:AV T.ty}(h:evRg T fn e H=some (t,cs,x))(hc:cnvL cs cs'=cs')(hcp:a9d cs'=true)(hy:cnv x y=y)(hp:c6g y=true){R:List OE}{F:Frz}{m:Env}{w:World}
 (h1:ConcE T.rp R F e m) (h2:RelH T.rp Kz R F H R) (h3:HS F0 w0 [b] F R w) (hX:LG T [b] R F):∃v,(∀a,Has n a m->(results fn a.tmps).run P w= .ok v w)/\d0c T F0 w0 b t cs' y (.returned v) w:=by
 unfold evRg at h;split at h
 ·rename_i t0 cs0 hi0;split at h
  ·rename_i l hl;split at h
   ·rename_i x1 l' e' H' hz;split at h
    ·rename_i t csx hi;cases h;obtain⟨us,g1,g2⟩:=c2f (n:=n) h1 h2 h3 hl;obtain⟨en,b1,b0,ws0,rfl,b2⟩:=h2.2 0 _ hi0;obtain⟨R',F',k1,k2,k3,k4,k5,v0,r0,k6,k7,k9⟩:=b0q (us:= .agg ws0.toArray::us) hz h1 h2 h3 hX ⟨_,_,rfl,⟨ws0,rfl,b2⟩,g1⟩;obtain⟨rfl,rfl⟩:=List.cons.inj k6;obtain⟨en,c1,b',ws,rfl,c2⟩:=k3.2 0 _ hi;obtain⟨t2,cs2,c3⟩:=k5.1 0 b rfl;rw [c1]at c3;cases c3;have c4:=c2.cnv cs';rw [hc]at c4;have c5:=(d1g k9).cnv y;rw [hy]at c5;refine⟨_,fun a ha=> ?_,_,F',ws,rfl,k4.pick [0] (by simp) (by simp [Rt.pick,c1]),c4.pure hcp,c5.pure hp⟩;have g3:=g2 a ha;rw [b7z,Array.mapM_eq_mapM_toList];simp [g3]
    cases h
   cases h
  cases h
 cases h
theorem f1u{fn:Func}{s:St T.ty}{b:Nat}{t:TypeId}{cs cs':List (AV T.ty)}{x y:AV T.ty}(h:evRL T fn s=some (t,cs,x))(hc:cnvL cs cs'=cs')(hcp:a9d cs'=true)(hy:cnv x y=y)(hp:c6g y=true):Sm T (bodyPost P fn (d0c T F0 w0 b t cs' y)) n F0 w0 [b] Kz s:=by
 unfold evRL at h;split at h
 ·intro R F m w h1 h2 h3 hX;obtain⟨v,g1,g2⟩:=e0j (n:=n) h hc hcp hy hp h1 h2 h3 hX;exact d7w g1 g2
 ·split at h
  ·rename_i hres;intro R F m w h1 h2 h3 hX;obtain⟨v,g1,g2⟩:=e0j (n:=n) h hc hcp hy hp h1 h2 h3 hX;exact fun a ha=>⟨ha.defers,v,g1 a ha,g2⟩
  cases h
 cases h
theorem gO{r:ρ}{α:Type}{x:Option α}{g:α->Option ρ}{f:FuncId}{as0 az:List (AV T.ty)}{el q c:Nat}{res:α->List (T.ty c)}{nx:AO T.ty->St T.ty}{s:St T.ty}(hF:FnO T f az x el q c res)(h:evO T n (rn T n s)=some (f,as0,nx))(hc:cnvL as0 az=az)(hp:a9d az=true)
 (k:∀v,G T Q n F0 w0 X Kz r (g v) (nx (.row el q c (res v)))):G T Q n F0 w0 X Kz r (x.bind g) s:=fun hm=>by
 obtain⟨v,hv,hm⟩:=bind_some hm;exact a7h (f4o h hF hc hp hv (k v hm))
theorem gN{r:ρ}{α:Type}{x:Option α}{g:α->Option ρ}{f:FuncId}{t:TypeId}{cs0 cs as0 az:List (AV T.ty)}{cs':α->List (AV T.ty)}{res:α->AV T.ty}{nx:List (AV T.ty)->AV T.ty->St T.ty}{s:St T.ty}(hF:FnL T f t cs az x cs' res)(h:evLn T n (rn T n s)=some ⟨f,t,cs0,as0,nx⟩)(hc:cnvL cs0 cs=cs)(hcp:a9d cs=true)(ha:cnvL as0 az=az)(hp:pureL1 T as0=true)
 (k:∀v,G T Q n F0 w0 X Kz r (g v) (nx (cs' v) (res v))):G T Q n F0 w0 X Kz r (x.bind g) s:=fun hm=>by
 obtain⟨v,hv,hm⟩:=bind_some hm;exact a7h (f2p h hF hc hcp ha hp hv (k v hm))
theorem gRO{fn:Func}{el q c:Nat}{res:ρ->List (T.ty c)}{r a:ρ}{s:St T.ty}(h:evRO T fn (rn T n s)=some ⟨el,q,c,res a⟩):G T (retO T fn F0 w0 el q c res r) n F0 w0 [] Kz r (some a) s:=fun hm=>by
 cases hm;exact a7h (e8o h)
theorem gRL{fn:Func}{b:Nat}{t:TypeId}{cs':ρ->List (AV T.ty)}{res:ρ->AV T.ty}{r a:ρ}{s:St T.ty}{cs:List (AV T.ty)}{x:AV T.ty}(h:evRL T fn (rn T n s)=some (t,cs,x))(hc:cnvL cs (cs' a)=cs' a)(hcp:a9d (cs' a)=true)(hy:cnv x (res a)=res a)(hp:c6g (res a)=true):G T (retL T fn F0 w0 b t cs' res r) n F0 w0 [b] Kz r (some a) s:=fun hm=>by
 cases hm;exact a7h (f1u h hc hcp hy hp)
theorem b7j{f:FuncId}{fn:Func}{co:Code}(hf:P.funcs[f]?=some fn)(hb:fn.body=some co)(hn:fn.ntmps=n){az:List (AV T.ty)}(hle:Nat.ble az.length n=true)(he:Ent P f){m:Option ρ}{el q c:Nat}{res:ρ->List (T.ty c)}
 (h:∀F0 w0 r,G T (retO T fn F0 w0 el q c res r) n F0 w0 [] Snap.nil r m ⟨.code co,[],argE 0 az,[]⟩):FnO T f az m el q c res:=by
 refine⟨he,fun r hr w F hs hg us hus=> ?_⟩;refine a3c n hf hb hn (by rw [hus.len];exact hle) ?_;exact h F w r hr [] F _ w (b9i 0 hus) ⟨rfl,fun i o hi=>by simp at hi⟩ (HS.init hs) ⟨fun j b hb=>(by simp at hb),hg⟩
theorem b0f{f:FuncId}{fn:Func}{co:Code}(hf:P.funcs[f]?=some fn)(hb:fn.body=some co)(hn:fn.ntmps=n){cs az:List (AV T.ty)}(hle:Nat.ble az.length n=true)(he:Ent P f){m:Option ρ}{t:TypeId}{cs':ρ->List (AV T.ty)}{res:ρ->AV T.ty}
 (h:∀F0 w0 b r,G T (retL T fn F0 w0 b t cs' res r) n F0 w0 [b] Snap.nil r m ⟨.code co,[],argE 0 az,[.box t cs]⟩):FnL T f t cs az m cs' res:=by
 refine⟨he,fun r hr w F hs hg b ws us hbx hfb hcs hus=> ?_⟩;refine a3c n hf hb hn (by rw [hus.len];exact hle) ?_;refine h F w b r hr [.box b t ws] F _ w (b9i 0 hus) ⟨rfl,fun i o hi=> ?_⟩ (HS.lend hs hbx hfb) ⟨fun j b' hb=> ?_,hg⟩
 ·cases i with
  |zero=>cases hi;exact⟨_,rfl,b,ws,rfl,hcs.mono (d2f (Frz.refl F))⟩
  |succ i=>simp at hi
 cases j with
 |zero=>cases hb;exact⟨t,ws,rfl⟩
 |succ j=>simp at hb
theorem c3x{f:FuncId}(he:Ent P f){t:TypeId}{cs az:List (AV T.ty)}{cs':ρ->List (AV T.ty)}{res:ρ->AV T.ty}:FnL T f t cs az none cs' res:=⟨he,fun r hr=>by cases hr⟩
end
end Rt
end Go.Proofs.YthaegflpecbfgaaGreatDoor
