/- Several texts in one, for FormConvex.card: what the theorem leans on. -/
import Derived.Test.YthaegflpecbfgaaGreatDoorRows
import Derived.Test.YthaegflpecbfgaaGreatDoorPz1
set_option maxHeartbeats 1000000
set_option maxRecDepth 1000000
namespace Go.Proofs.YthaegflpecbfgaaGreatDoor.M
open Go Go.RowKit Rt
set_option linter.unusedVariables false
def a9w(_n:Nat)(c1:Int):Option Bool:=
 (bif c1==32 then
  some true
 else
  some (c1==9)).bind fun v1=>
 (bif v1 then
  some true
 else
  some (c1==10)).bind fun v2=>
 some v2
theorem c3v(n:Nat)(c1:Int)(r:Bool)(hm:a9w n c1=some r){w:World}:
 Calls Tryz.prog 216 #[.int .u8 c1] w fun e w'=>e= .returned (.bool r)/\w'=w:=by
 unfold a9w at hm
 refine a1v 13 Tryz.func216 Y Y Y (a0f (a0a (a0c Y Y Y (a0e (a0d (a0f (a0a (a0b Y Y Y (a0n Y Y Y Y Y (a0b Y Y Y ?_))))))))))
 obtain⟨v1,g,hm⟩:=Yb hm
 refine a6y 3 (fun a w'=>w=w'/\Has 13 a [(0,.int .u8 c1),(8,.bool v1)]) ?_ ?_
 rintro a o ⟨rfl,k⟩
 refine a1u k (a0b Y Y Y ?_)
 obtain⟨v2,h,hm⟩:=Yb hm
 refine a6y 3 (fun a w'=>w=w'/\Has 13 a [(12,.bool v2)]) ?_ ?_
 rintro a p ⟨rfl,m⟩
 refine a1u m (a0c Y Y Y (a0e (a0d (a3b (a6z Y Y ?_)))))
 obtain rfl:=Yo hm
 exact⟨Y,Y⟩
 clear hm
 rcases a0g h with⟨i,h⟩|⟨i,h⟩
 refine a2q 9 Y i (a0x Y (by decide) Y (a0x Y (by decide) Y (a0m Y Y Y Y (a0e (a0k (fun a ha=> ?_))))))
 cases h
 exact⟨Y,ha.cut (l:= [12]) Y⟩
 refine a2q 9 Y i (a0b Y Y Y (a0n Y Y Y Y Y (a0j Y Y Y Y (a0e (a0k (fun a ha=> ?_))))))
 cases h
 exact⟨Y,ha.cut (l:= [12]) Y⟩
 clear hm
 rcases a0g g with⟨j,g⟩|⟨j,g⟩
 refine a2q 5 Y j (a0x Y (by decide) Y (a0x Y (by decide) Y (a0m Y Y Y Y (a0e (a0k (fun a ha=> ?_))))))
 cases g
 exact⟨Y,ha.cut (l:= [0,8]) Y⟩
 refine a2q 5 Y j (a0b Y Y Y (a0n Y Y Y Y Y (a0j Y Y Y Y (a0e (a0k (fun a ha=> ?_))))))
 cases g
 exact⟨Y,ha.cut (l:= [0,8]) Y⟩
def a5f(_n:Nat)(c1:Int):Option Bool:=
 (bif decide (97<=c1)then
  some (decide (c1<=122))
 else
  some false).bind fun v1=>
 (bif v1 then
  some true
 else
  (bif decide (65<=c1)then
   some (decide (c1<=90))
  else
   some false).bind fun v3=>
  some v3).bind fun v2=>
 some v2
theorem b1t(n:Nat)(c1:Int)(r:Bool)(hm:a5f n c1=some r){w:World}:
 Calls Tryz.prog 175 #[.int .u8 c1] w fun e w'=>e= .returned (.bool r)/\w'=w:=by
 unfold a5f at hm
 refine a1v 17 Tryz.func175 Y Y Y (a0f (a0a (a0c Y Y Y (a0e (a0d (a0f (a0a (a0b Y Y Y (a0n Y Y Y Y Y (a0b Y Y Y ?_))))))))))
 obtain⟨v1,h,hm⟩:=Yb hm
 refine a6y 3 (fun a w'=>w=w'/\Has 17 a [(0,.int .u8 c1),(8,.bool v1)]) ?_ ?_
 rintro a s ⟨rfl,o⟩
 refine a1u o (a0b Y Y Y ?_)
 obtain⟨v2,g,hm⟩:=Yb hm
 refine a6y 7 (fun a w'=>w=w'/\Has 17 a [(16,.bool v2)]) ?_ ?_
 rintro a t ⟨rfl,p⟩
 refine a1u p (a0c Y Y Y (a0e (a0d (a3b (a6z Y Y ?_)))))
 obtain rfl:=Yo hm
 exact⟨Y,Y⟩
 clear hm
 rcases a0g g with⟨j,g⟩|⟨j,g⟩
 refine a2q 9 Y j (a0x Y (by decide) Y (a0x Y (by decide) Y (a0x Y (by decide) Y (a0x Y (by decide) Y (a0x Y (by decide) Y (a0x Y (by decide) Y (a0m Y Y Y Y (a0e (a0k (fun a ha=> ?_))))))))))
 cases g
 exact⟨Y,ha.cut (l:= [16]) Y⟩
 refine a2q 9 Y j (a0b Y Y Y (a0n Y Y Y Y Y (a0b Y Y Y ?_)))
 obtain⟨v3,i,g⟩:=Yb g
 refine a6y 3 (fun a w'=>w=w'/\Has 17 a [(9,.bool false),(15,.bool v3)]) ?_ ?_
 rintro a u ⟨rfl,q⟩
 refine a1u q (a0j Y Y Y Y (a0e (a0k (fun a ha=> ?_))))
 cases g
 exact⟨Y,ha.cut (l:= [16]) Y⟩
 clear g
 rcases a0g i with⟨k,i⟩|⟨k,i⟩
 refine a2q 12 Y k (a0b Y Y Y (a0n Y Y Y Y Y (a0m Y Y Y Y (a0e (a0k (fun a ha=> ?_))))))
 cases i
 exact⟨Y,ha.cut (l:= [9,15]) Y⟩
 refine a2q 12 Y k (a0x Y (by decide) Y (a0x Y (by decide) Y (a0j Y Y Y Y (a0e (a0k (fun a ha=> ?_))))))
 cases i
 exact⟨Y,ha.cut (l:= [9,15]) Y⟩
 clear hm
 rcases a0g h with⟨m,h⟩|⟨m,h⟩
 refine a2q 5 Y m (a0b Y Y Y (a0n Y Y Y Y Y (a0m Y Y Y Y (a0e (a0k (fun a ha=> ?_))))))
 cases h
 exact⟨Y,ha.cut (l:= [0,8]) Y⟩
 refine a2q 5 Y m (a0x Y (by decide) Y (a0x Y (by decide) Y (a0j Y Y Y Y (a0e (a0k (fun a ha=> ?_))))))
 cases h
 exact⟨Y,ha.cut (l:= [0,8]) Y⟩
def a6m(_n:Nat)(c1:Int):Option Bool:=
 (bif decide (48<=c1)then
  some (decide (c1<=57))
 else
  some false).bind fun v1=>
 some v1
theorem b2o(n:Nat)(c1:Int)(r:Bool)(hm:a6m n c1=some r){w:World}:
 Calls Tryz.prog 213 #[.int .u8 c1] w fun e w'=>e= .returned (.bool r)/\w'=w:=by
 unfold a6m at hm
 refine a1v 9 Tryz.func213 Y Y Y (a0f (a0a (a0c Y Y Y (a0e (a0d (a0f (a0a (a0b Y Y Y (a0n Y Y Y Y Y (a0b Y Y Y ?_))))))))))
 obtain⟨v1,g,hm⟩:=Yb hm
 refine a6y 3 (fun a w'=>w=w'/\Has 9 a [(8,.bool v1)]) ?_ ?_
 rintro a j ⟨rfl,i⟩
 refine a1u i (a0c Y Y Y (a0e (a0d (a3b (a6z Y Y ?_)))))
 obtain rfl:=Yo hm
 exact⟨Y,Y⟩
 clear hm
 rcases a0g g with⟨h,g⟩|⟨h,g⟩
 refine a2q 5 Y h (a0b Y Y Y (a0n Y Y Y Y Y (a0m Y Y Y Y (a0e (a0k (fun a ha=> ?_))))))
 cases g
 exact⟨Y,ha.cut (l:= [8]) Y⟩
 refine a2q 5 Y h (a0x Y (by decide) Y (a0x Y (by decide) Y (a0j Y Y Y Y (a0e (a0k (fun a ha=> ?_))))))
 cases g
 exact⟨Y,ha.cut (l:= [8]) Y⟩
theorem ent175:Ent Tryz.prog 175:=fun _ _=>by kernel_rfl
theorem ent213:Ent Tryz.prog 213:=fun _ _=>by kernel_rfl
def a5m(n:Nat)(c1:Int):Option Bool:=
 (a5f n c1).bind fun v1=>
 (bif v1 then
  some true
 else
  (a6m n c1).bind fun v4=>
  some v4).bind fun v2=>
 (bif v2 then
  some true
 else
  some (c1==95)).bind fun v3=>
 some v3
theorem c4e(n:Nat)(c1:Int)(r:Bool)(hm:a5m n c1=some r){w:World}:
 Calls Tryz.prog 177 #[.int .u8 c1] w fun e w'=>e= .returned (.bool r)/\w'=w:=by
 unfold a5m at hm
 refine a1v 13 Tryz.func177 Y Y Y (a0f (a0a (a0c Y Y Y (a0e (a0d (a0f (a0a (a0b Y Y Y ?_))))))))
 obtain⟨v1,o,hm⟩:=Yb hm
 refine a6o ent175 Y Y Y Y (b1t _ _ _ o) (a0b Y Y Y ?_)
 obtain⟨v2,g,hm⟩:=Yb hm
 refine a6y 3 (fun a w'=>w=w'/\Has 13 a [(0,.int .u8 c1),(8,.bool v2)]) ?_ ?_
 rintro a q ⟨rfl,k⟩
 refine a1u k (a0b Y Y Y ?_)
 obtain⟨v3,h,hm⟩:=Yb hm
 refine a6y 3 (fun a w'=>w=w'/\Has 13 a [(12,.bool v3)]) ?_ ?_
 rintro a s ⟨rfl,m⟩
 refine a1u m (a0c Y Y Y (a0e (a0d (a3b (a6z Y Y ?_)))))
 obtain rfl:=Yo hm
 exact⟨Y,Y⟩
 clear hm
 rcases a0g h with⟨i,h⟩|⟨i,h⟩
 refine a2q 9 Y i (a0x Y (by decide) Y (a0x Y (by decide) Y (a0m Y Y Y Y (a0e (a0k (fun a ha=> ?_))))))
 cases h
 exact⟨Y,ha.cut (l:= [12]) Y⟩
 refine a2q 9 Y i (a0b Y Y Y (a0n Y Y Y Y Y (a0j Y Y Y Y (a0e (a0k (fun a ha=> ?_))))))
 cases h
 exact⟨Y,ha.cut (l:= [12]) Y⟩
 clear hm
 rcases a0g g with⟨j,g⟩|⟨j,g⟩
 refine a2q 5 Y j (a0x Y (by decide) Y (a0x Y (by decide) Y (a0m Y Y Y Y (a0e (a0k (fun a ha=> ?_))))))
 cases g
 exact⟨Y,ha.cut (l:= [0,8]) Y⟩
 refine a2q 5 Y j (a0b Y Y Y ?_)
 obtain⟨v4,p,g⟩:=Yb g
 refine a6o ent213 Y Y Y Y (b2o _ _ _ p) (a0j Y Y Y Y (a0e (a0k (fun a ha=> ?_))))
 cases g
 exact⟨Y,ha.cut (l:= [0,8]) Y⟩
def b7e(_n:Nat)(c1:Int):Option Bool:=
 (bif decide (32<=c1)then
  some (decide (c1<=126))
 else
  some false).bind fun v1=>
 some v1
theorem c3w(n:Nat)(c1:Int)(r:Bool)(hm:b7e n c1=some r){w:World}:
 Calls Tryz.prog 221 #[.int .u8 c1] w fun e w'=>e= .returned (.bool r)/\w'=w:=by
 unfold b7e at hm
 refine a1v 9 Tryz.func221 Y Y Y (a0f (a0a (a0c Y Y Y (a0e (a0d (a0f (a0a (a0b Y Y Y (a0n Y Y Y Y Y (a0b Y Y Y ?_))))))))))
 obtain⟨v1,g,hm⟩:=Yb hm
 refine a6y 3 (fun a w'=>w=w'/\Has 9 a [(8,.bool v1)]) ?_ ?_
 rintro a j ⟨rfl,i⟩
 refine a1u i (a0c Y Y Y (a0e (a0d (a3b (a6z Y Y ?_)))))
 obtain rfl:=Yo hm
 exact⟨Y,Y⟩
 clear hm
 rcases a0g g with⟨h,g⟩|⟨h,g⟩
 refine a2q 5 Y h (a0b Y Y Y (a0n Y Y Y Y Y (a0m Y Y Y Y (a0e (a0k (fun a ha=> ?_))))))
 cases g
 exact⟨Y,ha.cut (l:= [8]) Y⟩
 refine a2q 5 Y h (a0x Y (by decide) Y (a0x Y (by decide) Y (a0j Y Y Y Y (a0e (a0k (fun a ha=> ?_))))))
 cases g
 exact⟨Y,ha.cut (l:= [8]) Y⟩
theorem u9:Tryz.prog.underlying 9=some .string:=by kernel_rfl
def lexer_span_L1(n:Nat)(s1:Bs)(isx1:(Int->Option Bool))(kont1:Int->Option Int):Nat->Int->Option Int
 |0,_=>none
 |mx1+1,nx1=>
  (bif decide (nx1<(s1.length:Int))then
   (sidx s1 nx1).bind fun c1=>
   (isx1 c1).bind fun v2=>
   some v2
  else
   some false).bind fun v1=>
  bif v1 then
   lexer_span_L1 n s1 isx1 kont1 mx1 (iadd .i64 nx1 1)
  else
   kont1 nx1
theorem lexer_span_L1_s:type_of% @lexer_span_L1.eq_2:= @lexer_span_L1.eq_2
def a4t(n:Nat)(s1:Bs)(isx1:(Int->Option Bool)):Option Int:=
 lexer_span_L1 n s1 isx1 (fun(nx2:Int)=>
  some nx2) n 0
theorem a7q(n:Nat)(s1:Bs)(isx1:(Int->Option Bool))(r:Int)(hm:a4t n s1 isx1=some r){w:World}{fvisx1:Value}(hpfisx1:PFn Tryz.prog fvisx1 (fun l v=>∃(q0:Int)(b:Bool),l= [.int .u8 q0]/\v=some (.bool b)/\isx1 q0=some b)):
 Calls Tryz.prog 176 #[vs s1,fvisx1] w fun e w'=>e= .returned (.int .i64 r)/\w'=w:=by
 unfold a4t at hm
 refine a1v 20 Tryz.func176 Y Y Y (a0f (a0a (a0c Y Y Y (a0e (a0d (a0f (a0a (a0c Y Y Y (a0e (a0d (a0f (a2c ?_))))))))))))
 intro a j
 obtain⟨kont1,hkont1⟩:∃kont1:Int->Option Int,kont1=(fun(nx2:Int)=>some nx2):=⟨_,Y⟩
 replace hm:(fun m(s:Int)=>lexer_span_L1 n s1 isx1 kont1 m s) n 0=some r:=by rw [hkont1];exact hm
 refine b5h (id:=0) (fun m(s:Int)=>lexer_span_L1 n s1 isx1 kont1 m s) (fun(y:Int)=>kont1 y) r (fun(s:Int)a w'=>w=w'/\Has 20 a [(0,vs s1),(1,fvisx1),(5,.int .i64 s)]) (fun(y:Int)a w'=>w=w'/\Has 20 a [(5,.int .i64 y)]) (fun _=>Y) ?_ ?_ hm ⟨Y,j.cut (l:= [0,1,5]) Y⟩
 clear hm;rintro nx2 a u hm ⟨rfl,k⟩
 rw [hkont1]at hm
 replace hm:=hm
 refine a5a (e:= .exit 0) k (a2m (a0d (a0f (a0a (a0b Y Y Y (a0c Y Y Y (a0e (a0d (a3b (a6z Y Y ?_))))))))))
 obtain rfl:=Yo hm
 exact⟨Y,Y⟩
 clear hm hkont1;intro hk1 mx1 K ihx1
 rintro nx1 a x hm ⟨rfl,o⟩
 simp only [lexer_span_L1_s]at hm
 refine a2a o (a0f (a0f (a0a (a0b Y Y Y (a0b Y Y Y (b1i u9 Y Y Y (a0n Y Y Y Y Y (a0b Y Y Y ?_))))))))
 obtain⟨v1,g,hm⟩:=Yb hm
 refine a6y 6 (fun a w'=>w=w'/\Has 20 a [(0,vs s1),(1,fvisx1),(5,.int .i64 nx1),(16,.bool v1)]) ?_ ?_
 rintro a z ⟨rfl,p⟩
 refine a1u p (a0e (a0d ?_))
 rcases a0g hm with⟨h,hm⟩|⟨h,hm⟩
 refine a0v 16 Y h (a1l Y (a1y (a0d (a2c (a0a (a0b Y Y Y (a0n Y Y Y Y Y (a0c Y Y Y (a0e (a3v (a0k (fun a ha=>ihx1 (iadd .i64 nx1 1) a _ hm ?_))))))))))))
 exact⟨Y,ha.cut (l:= [0,1,5]) Y⟩
 refine a0v 16 Y h (a0q Y (a9q (a0p (a0p (fun a ha=>hk1 nx1 a _ hm ?_)))))
 exact⟨Y,ha.cut (l:= [5]) Y⟩
 clear hm
 rcases a0g g with⟨i,g⟩|⟨i,g⟩
 refine a2q 10 Y i (a0b Y Y Y (a0b Y Y Y (a0b Y Y Y ?_)))
 obtain⟨c1,q,g⟩:=Yb g
 refine b0r u9 Y Y Y Y q ?_
 obtain⟨v2,t,g⟩:=Yb g
 refine e3a hpfisx1 Y Y Y Y ⟨_,_,Y,Y,t⟩ (a0m Y Y Y Y (a0e (a0k (fun a ha=> ?_))))
 cases g
 exact⟨Y,ha.cut (l:= [0,1,5,16]) Y⟩
 refine a2q 10 Y i (a0x Y (by decide) Y (a0x Y (by decide) Y (a0x Y (by decide) Y (a0x Y (by decide) Y (a0x Y (by decide) Y (a0j Y Y Y Y (a0e (a0k (fun a ha=> ?_)))))))))
 cases g
 exact⟨Y,ha.cut (l:= [0,1,5,16]) Y⟩
theorem ent177:Ent Tryz.prog 177:=fun _ _=>by kernel_rfl
theorem pf177:∀n,PFn Tryz.prog (.func (.func 177) #[] #[]) (fun l v=>∃(q0:Int)(b:Bool),l= [.int .u8 q0]/\v=some (.bool b)/\a5m n q0=some b):=fun n=>⟨177, #[], #[],rfl,ent177,by
 rintro args v w ⟨q0,b,rfl,hv,hb⟩
 obtain rfl:=Option.some.inj hv
 exact c4e n _ _ hb⟩
theorem ent176:Ent Tryz.prog 176:=fun _ _=>by kernel_rfl
def a4q(n:Nat)(s1:Bs):Option Bool:=
 (bif !(s1== [])then
  (sidx s1 0).bind fun c1=>
  (a5f n c1).bind fun v5=>
  some v5
 else
  some false).bind fun v1=>
 (bif v1 then
  some (decide ((s1.length:Int)<=20))
 else
  some false).bind fun v2=>
 (bif v2 then
  (a4t n s1 (a5m n)).bind fun v4=>
  some (v4==(s1.length:Int))
 else
  some false).bind fun v3=>
 some v3
theorem c5v(n:Nat)(s1:Bs)(r:Bool)(hm:a4q n s1=some r){w:World}:
 Calls Tryz.prog 113 #[vs s1] w fun e w'=>e= .returned (.bool r)/\w'=w:=by
 unfold a4q at hm
 refine a1v 22 Tryz.func113 Y Y Y (a0f (a0a (a0c Y Y Y (a0e (a0d (a0f (a0a (a0b Y Y Y (b9x Y Y Y Y Y (a0b Y Y Y ?_))))))))))
 obtain⟨v1,g,hm⟩:=Yb hm
 refine a6y 4 (fun a w'=>w=w'/\Has 22 a [(0,vs s1),(9,.bool v1)]) ?_ ?_
 rintro a v ⟨rfl,o⟩
 refine a1u o (a0b Y Y Y ?_)
 obtain⟨v2,i,hm⟩:=Yb hm
 refine a6y 4 (fun a w'=>w=w'/\Has 22 a [(0,vs s1),(14,.bool v2)]) ?_ ?_
 rintro a x ⟨rfl,p⟩
 refine a1u p (a0b Y Y Y ?_)
 obtain⟨v3,h,hm⟩:=Yb hm
 refine a6y 6 (fun a w'=>w=w'/\Has 22 a [(21,.bool v3)]) ?_ ?_
 rintro a y ⟨rfl,q⟩
 refine a1u q (a0c Y Y Y (a0e (a0d (a3b (a6z Y Y ?_)))))
 obtain rfl:=Yo hm
 exact⟨Y,Y⟩
 clear hm
 rcases a0g h with⟨j,h⟩|⟨j,h⟩
 refine a2q 15 Y j (a0b Y Y Y ?_)
 obtain⟨v4,s,h⟩:=Yb h
 refine a6o ent176 Y Y Y Y (a7q _ _ _ _ s (pf177 _)) (a0b Y Y Y (b1i u9 Y Y Y (a0n Y Y Y Y Y (a0m Y Y Y Y (a0e (a0k (fun a ha=> ?_)))))))
 cases h
 exact⟨Y,ha.cut (l:= [21]) Y⟩
 refine a2q 15 Y j (a0x Y (by decide) Y (a0x Y (by decide) Y (a0x Y (by decide) Y (a0x Y (by decide) Y (a0x Y (by decide) Y (a0j Y Y Y Y (a0e (a0k (fun a ha=> ?_)))))))))
 cases h
 exact⟨Y,ha.cut (l:= [21]) Y⟩
 clear hm
 rcases a0g i with⟨k,i⟩|⟨k,i⟩
 refine a2q 10 Y k (a0b Y Y Y (b1i u9 Y Y Y (a0n Y Y Y Y Y (a0m Y Y Y Y (a0e (a0k (fun a ha=> ?_)))))))
 cases i
 exact⟨Y,ha.cut (l:= [0,14]) Y⟩
 refine a2q 10 Y k (a0x Y (by decide) Y (a0x Y (by decide) Y (a0x Y (by decide) Y (a0j Y Y Y Y (a0e (a0k (fun a ha=> ?_)))))))
 cases i
 exact⟨Y,ha.cut (l:= [0,14]) Y⟩
 clear hm
 rcases a0g g with⟨m,g⟩|⟨m,g⟩
 refine a2q 5 Y m (a0b Y Y Y ?_)
 obtain⟨c1,t,g⟩:=Yb g
 refine b0r u9 Y Y Y Y t ?_
 obtain⟨v5,u,g⟩:=Yb g
 refine a6o ent175 Y Y Y Y (b1t _ _ _ u) (a0m Y Y Y Y (a0e (a0k (fun a ha=> ?_))))
 cases g
 exact⟨Y,ha.cut (l:= [0,9]) Y⟩
 refine a2q 5 Y m (a0x Y (by decide) Y (a0x Y (by decide) Y (a0x Y (by decide) Y (a0j Y Y Y Y (a0e (a0k (fun a ha=> ?_)))))))
 cases g
 exact⟨Y,ha.cut (l:= [0,9]) Y⟩
theorem u5:Tryz.prog.underlying 5=some (.int .u8):=by kernel_rfl
theorem u3:Tryz.prog.underlying 3=some (.int .i64):=by kernel_rfl
theorem pf213:∀n,PFn Tryz.prog (.func (.func 213) #[] #[]) (fun l v=>∃(q0:Int)(b:Bool),l= [.int .u8 q0]/\v=some (.bool b)/\a6m n q0=some b):=fun n=>⟨213, #[], #[],rfl,ent213,by
 rintro args v w ⟨q0,b,rfl,hv,hb⟩
 obtain rfl:=Option.some.inj hv
 exact b2o n _ _ hb⟩
def lexer_Number_L1(n:Nat)(s1:Bs)(kont1:Int->Option (Int×Bool)):Nat->Int->Int->Option (Int×Bool)
 |0,_,_=>none
 |mx1+1,nx1,i1=>
  bif decide (i1<(s1.length:Int))then
   (sidx s1 i1).bind fun c1=>
   lexer_Number_L1 n s1 kont1 mx1 (iadd .i64 (imul .i64 10 nx1) (IntKind.i64.wrap (isub .u8 c1 48))) (iadd .i64 i1 1)
  else
   kont1 nx1
theorem lexer_Number_L1_s:type_of% @lexer_Number_L1.eq_2:= @lexer_Number_L1.eq_2
def b4p(n:Nat)(s1:Bs):Option (Int×Bool):=
 (bif s1== []then
  some true
 else
  (a4t n s1 (a6m n)).bind fun v5=>
  some (v5 !=(s1.length:Int))).bind fun v1=>
 (bif v1 then
  some true
 else
  (sidx s1 0).bind fun c2=>
  (bif c2==48 then
   some (!(s1== [48]))
  else
   some false).bind fun v4=>
  some v4).bind fun v2=>
 (bif v2 then
  some true
 else
  some (decide (13<(s1.length:Int)))).bind fun v3=>
 bif v3 then
  some (0,false)
 else
  lexer_Number_L1 n s1 (fun(nx2:Int)=>
   bif decide (1099511627776<nx2)then
    some (0,false)
   else
    some (nx2,true)) n 0 0
theorem c1e(n:Nat)(s1:Bs)(r:(Int×Bool))(hm:b4p n s1=some r){w:World}:
 Calls Tryz.prog 217 #[vs s1] w fun e w'=>e= .returned (.tuple #[.int .i64 r.1,.bool r.2])/\w'=w:=by
 unfold b4p at hm
 refine a1v 46 Tryz.func217 Y Y Y (a0f (a0a (a0c Y Y Y (a0c Y Y Y (a0e (a0d (a0f (a0f (a0a (a0b Y Y Y (b9x Y Y Y Y Y (a0b Y Y Y ?_))))))))))))
 obtain⟨v1,h,hm⟩:=Yb hm
 refine a6y 6 (fun a w'=>w=w'/\Has 46 a [(0,vs s1),(14,.bool v1)]) ?_ ?_
 rintro a R ⟨rfl,x⟩
 refine a1u x (a0b Y Y Y ?_)
 obtain⟨v2,g,hm⟩:=Yb hm
 refine a6y 8 (fun a w'=>w=w'/\Has 46 a [(0,vs s1),(23,.bool v2)]) ?_ ?_
 rintro a T ⟨rfl,z⟩
 refine a1u z (a0b Y Y Y ?_)
 obtain⟨v3,i,hm⟩:=Yb hm
 refine a6y 4 (fun a w'=>w=w'/\Has 46 a [(0,vs s1),(28,.bool v3)]) ?_ ?_
 rintro a U ⟨rfl,G⟩
 refine a1u G (a0e (a0d ?_))
 rcases a0g hm with⟨p,hm⟩|⟨p,hm⟩
 refine a0v 28 Y p (a1l Y (a0f (a0a (a0c Y Y Y (a0c Y Y Y (a0e (a0d (a3b (a0l (a6h (vl:= [.int .i64 0,.bool false]) Y ⟨a3u Y,a3u Y,trivial⟩ (by simp) ?_))))))))))
 obtain rfl:=Yo hm
 exact⟨Y,Y⟩
 refine a0v 28 Y p (a0q Y (a1y (a0d (a0f (a0a (a0c Y Y Y (a0e (a0d (a0f (a0f (a0a (a0b Y Y Y (b1i u9 Y Y Y (a0b Y Y Y (a0e (a0d (a2c ?_)))))))))))))))))
 intro a H
 obtain⟨kont1,hkont1⟩:∃kont1:Int->Option (Int×Bool),kont1=(fun(nx2:Int)=>bif decide (1099511627776<nx2)then some (0,false)else some (nx2,true)):=⟨_,Y⟩
 replace hm:(fun m(s:Int×Int)=>lexer_Number_L1 n s1 kont1 m s.1 s.2) n (0,0)=some r:=by rw [hkont1];exact hm
 refine b5h (id:=0) (fun m(s:Int×Int)=>lexer_Number_L1 n s1 kont1 m s.1 s.2) (fun(y:Int)=>kont1 y) r (fun(s:Int×Int)a w'=>w=w'/\Has 46 a [(0,vs s1),(4,.int .i64 s.1),(30,.int .i64 (s1.length:Int)),(31,.int .i64 s.2)]) (fun(y:Int)a w'=>w=w'/\Has 46 a [(4,.int .i64 y)]) (fun _=>Y) ?_ ?_ hm ⟨Y,H.cut (l:= [0,4,30,31]) Y⟩
 clear hm;rintro nx2 a V hm ⟨rfl,I⟩
 rw [hkont1]at hm
 replace hm:=hm
 refine a5a (e:= .exit 0) I (a2m (a0d (a0f (a0f (a0a (a0b Y Y Y (a0n Y Y Y Y Y (a0e (a0d ?_)))))))))
 rcases a0g hm with⟨q,hm⟩|⟨q,hm⟩
 refine a0v 44 Y q (a1l Y (a0f (a0a (a0c Y Y Y (a0c Y Y Y (a0e (a0d (a3b (a0l (a6h (vl:= [.int .i64 0,.bool false]) Y ⟨a3u Y,a3u Y,trivial⟩ (by simp) ?_))))))))))
 obtain rfl:=Yo hm
 exact⟨Y,Y⟩
 refine a0v 44 Y q (a0q Y (a1y (a0d (a0f (a0a (a0b Y Y Y (a0c Y Y Y (a0c Y Y Y (a0e (a0d (a3b (a6h (vl:= [.int .i64 nx2,.bool true]) Y ⟨a3u Y,a3u Y,trivial⟩ (by simp) ?_))))))))))))
 obtain rfl:=Yo hm
 exact⟨Y,Y⟩
 clear hm hkont1;intro hk1 mx1 K ihx1
 rintro⟨nx1,i1⟩ a Z hm ⟨rfl,J⟩
 simp only [lexer_Number_L1_s]at hm
 refine a2a J (a0f (a0a (a0n Y Y Y Y Y (a0e (a0d (a0f ?_))))))
 rcases a0g hm with⟨t,hm⟩|⟨t,hm⟩
 refine a0v 32 Y t (a1l Y (a1y (a0d (a0f (a2c (a0f (a0a (a0b Y Y Y (a0c Y Y Y (a0e (a0d (a0a (a0b Y Y Y (a0n Y Y Y Y Y (a0b Y Y Y (a0b Y Y Y ?_))))))))))))))))
 obtain⟨c1,M,hm⟩:=Yb hm
 refine b0r u9 Y Y Y Y M (a0n Y Y Y Y Y (e5j u5 u3 Y Y Y (a0n Y Y Y Y Y (a0c Y Y Y (a0e (a3v (a0d (a0a (a0n Y Y Y Y Y (a0b Y Y Y (a0e ?_)))))))))))
 refine a0k (fun a ha=>ihx1 ((iadd .i64 (imul .i64 10 nx1) (IntKind.i64.wrap (isub .u8 c1 48))),(iadd .i64 i1 1)) a _ hm ?_)
 exact⟨Y,ha.cut (l:= [0,4,30,31]) Y⟩
 refine a0v 32 Y t (a0q Y (a9q (a0p (a0p (fun a ha=>hk1 nx1 a _ hm ?_)))))
 exact⟨Y,ha.cut (l:= [4]) Y⟩
 clear hm
 rcases a0g i with⟨u,i⟩|⟨u,i⟩
 refine a2q 24 Y u (a0x Y (by decide) Y (a0x Y (by decide) Y (a0x Y (by decide) Y (a0m Y Y Y Y (a0e (a0k (fun a ha=> ?_)))))))
 cases i
 exact⟨Y,ha.cut (l:= [0,28]) Y⟩
 refine a2q 24 Y u (a0b Y Y Y (b1i u9 Y Y Y (a0n Y Y Y Y Y (a0j Y Y Y Y (a0e (a0k (fun a ha=> ?_)))))))
 cases i
 exact⟨Y,ha.cut (l:= [0,28]) Y⟩
 clear hm
 rcases a0g g with⟨v,g⟩|⟨v,g⟩
 refine a2q 15 Y v (a0x Y (by decide) Y (a0x Y (by decide) Y (a0x Y (by decide) Y (a0x Y (by decide) Y (a0x Y (by decide) Y (a0x Y (by decide) Y (a0x Y (by decide) Y (a0m Y Y Y Y (a0e (a0k (fun a ha=> ?_)))))))))))
 cases g
 exact⟨Y,ha.cut (l:= [0,23]) Y⟩
 refine a2q 15 Y v (a0b Y Y Y ?_)
 obtain⟨c2,N,g⟩:=Yb g
 refine b0r u9 Y Y Y Y N (a0n Y Y Y Y Y (a0b Y Y Y ?_))
 obtain⟨v4,j,g⟩:=Yb g
 refine a6y 3 (fun a w'=>w=w'/\Has 46 a [(0,vs s1),(15,.bool false),(22,.bool v4)]) ?_ ?_
 rintro a g0 ⟨rfl,L⟩
 refine a1u L (a0j Y Y Y Y (a0e (a0k (fun a ha=> ?_))))
 cases g
 exact⟨Y,ha.cut (l:= [0,23]) Y⟩
 clear g
 rcases a0g j with⟨k,j⟩|⟨k,j⟩
 refine a2q 19 Y k (a0b Y Y Y (b9x Y Y Y Y Y (a0m Y Y Y Y (a0e (a0k (fun a ha=> ?_))))))
 cases j
 exact⟨Y,ha.cut (l:= [0,15,22]) Y⟩
 refine a2q 19 Y k (a0x Y (by decide) Y (a0x Y (by decide) Y (a0j Y Y Y Y (a0e (a0k (fun a ha=> ?_))))))
 cases j
 exact⟨Y,ha.cut (l:= [0,15,22]) Y⟩
 clear hm
 rcases a0g h with⟨o,h⟩|⟨o,h⟩
 refine a2q 8 Y o (a0x Y (by decide) Y (a0x Y (by decide) Y (a0x Y (by decide) Y (a0x Y (by decide) Y (a0x Y (by decide) Y (a0m Y Y Y Y (a0e (a0k (fun a ha=> ?_)))))))))
 cases h
 exact⟨Y,ha.cut (l:= [0,14]) Y⟩
 refine a2q 8 Y o (a0b Y Y Y ?_)
 obtain⟨v5,Q,h⟩:=Yb h
 refine a6o ent176 Y Y Y Y (a7q _ _ _ _ Q (pf213 _)) (a0b Y Y Y (b1i u9 Y Y Y (a0n Y Y Y Y Y (a0j Y Y Y Y (a0e (a0k (fun a ha=> ?_)))))))
 cases h
 exact⟨Y,ha.cut (l:= [0,14]) Y⟩
theorem ent216:Ent Tryz.prog 216:=fun _ _=>by kernel_rfl
theorem pf216:∀n,PFn Tryz.prog (.func (.func 216) #[] #[]) (fun l v=>∃(q0:Int)(b:Bool),l= [.int .u8 q0]/\v=some (.bool b)/\a9w n q0=some b):=fun n=>⟨216, #[], #[],rfl,ent216,by
 rintro args v w ⟨q0,b,rfl,hv,hb⟩
 obtain rfl:=Option.some.inj hv
 exact c3v n _ _ hb⟩
def lexer_gap_L2(n:Nat)(s1:Bs)(kont2:Int->Option Int):Nat->Int->Option Int
 |0,_=>none
 |mx2+1,nx3=>
  (bif decide (nx3<(s1.length:Int))then
   (sidx s1 nx3).bind fun c1=>
   some (c1 !=10)
  else
   some false).bind fun v4=>
  bif v4 then
   lexer_gap_L2 n s1 kont2 mx2 (iadd .i64 nx3 1)
  else
   kont2 nx3
theorem lexer_gap_L2_s:type_of% @lexer_gap_L2.eq_2:= @lexer_gap_L2.eq_2
def lexer_gap_L1(n:Nat)(s1:Bs)(kont1:Int->Option Int):Nat->Int->Option Int
 |0,_=>none
 |mx1+1,nx1=>
  (bif decide (nx1<(s1.length:Int))then
   (sidx s1 nx1).bind fun c2=>
   some (c2==35)
  else
   some false).bind fun v2=>
  bif v2 then
   lexer_gap_L2 n s1 (fun(nx4:Int)=>
    (ssl s1 nx4 s1.length).bind fun t1=>
    (a4t n t1 (a9w n)).bind fun v3=>
    lexer_gap_L1 n s1 kont1 mx1 (iadd .i64 nx4 v3)) n nx1
  else
   kont1 nx1
theorem lexer_gap_L1_s:type_of% @lexer_gap_L1.eq_2:= @lexer_gap_L1.eq_2
def c1k(n:Nat)(s1:Bs):Option Int:=
 (a4t n s1 (a9w n)).bind fun v1=>
 lexer_gap_L1 n s1 (fun(nx2:Int)=>
  some nx2) n v1
theorem c8m(n:Nat)(s1:Bs)(r:Int)(hm:c1k n s1=some r){w:World}:
 Calls Tryz.prog 186 #[vs s1] w fun e w'=>e= .returned (.int .i64 r)/\w'=w:=by
 unfold c1k at hm
 refine a1v 35 Tryz.func186 Y Y Y (a0f (a0a (a0c Y Y Y (a0e (a0d (a0f (a0a (a0b Y Y Y ?_))))))))
 obtain⟨v1,H,hm⟩:=Yb hm
 refine a6o ent176 Y Y Y Y (a7q _ _ _ _ H (pf216 _)) (a0c Y Y Y (a0e (a0d (a0f (a2c ?_)))))
 intro a p
 obtain⟨kont1,hkont1⟩:∃kont1:Int->Option Int,kont1=(fun(nx2:Int)=>some nx2):=⟨_,Y⟩
 replace hm:(fun m(s:Int)=>lexer_gap_L1 n s1 kont1 m s) n v1=some r:=by rw [hkont1];exact hm
 refine b5h (id:=0) (fun m(s:Int)=>lexer_gap_L1 n s1 kont1 m s) (fun(y:Int)=>kont1 y) r (fun(s:Int)a w'=>w=w'/\Has 35 a [(0,vs s1),(3,.int .i64 s)]) (fun(y:Int)a w'=>w=w'/\Has 35 a [(3,.int .i64 y)]) (fun _=>Y) ?_ ?_ hm ⟨Y,p.cut (l:= [0,3]) Y⟩
 clear hm;rintro nx2 a N hm ⟨rfl,q⟩
 rw [hkont1]at hm
 replace hm:=hm
 refine a5a (e:= .exit 0) q (a2m (a0d (a0f (a0a (a0b Y Y Y (a0c Y Y Y (a0e (a0d (a3b (a6z Y Y ?_))))))))))
 obtain rfl:=Yo hm
 exact⟨Y,Y⟩
 clear hm hkont1;intro hk1 mx1 K ihx1
 rintro nx1 a Q hm ⟨rfl,t⟩
 simp only [lexer_gap_L1_s]at hm
 refine a2a t (a0f (a0f (a0a (a0b Y Y Y (a0b Y Y Y (b1i u9 Y Y Y (a0n Y Y Y Y Y (a0b Y Y Y ?_))))))))
 obtain⟨v2,g,hm⟩:=Yb hm
 refine a6y 5 (fun a w'=>w=w'/\Has 35 a [(0,vs s1),(3,.int .i64 nx1),(15,.bool v2)]) ?_ ?_
 rintro a R ⟨rfl,u⟩
 refine a1u u (a0e (a0d ?_))
 rcases a0g hm with⟨i,hm⟩|⟨i,hm⟩
 refine a0v 15 Y i (a1l Y (a1y (a0d (a2c (a0f (a2c ?_))))))
 intro a v
 obtain⟨kont2,hkont2⟩:∃kont2:Int->Option Int,kont2=(fun(nx4:Int)=>(ssl s1 nx4 s1.length).bind fun t1=>(a4t n t1 (a9w n)).bind fun v3=>lexer_gap_L1 n s1 kont1 mx1 (iadd .i64 nx4 v3)):=⟨_,Y⟩
 replace hm:(fun m(s:Int)=>lexer_gap_L2 n s1 kont2 m s) n nx1=some r:=by rw [hkont2];exact hm
 refine b5h (id:=2) (fun m(s:Int)=>lexer_gap_L2 n s1 kont2 m s) (fun(y:Int)=>kont2 y) r (fun(s:Int)a w'=>w=w'/\Has 35 a [(0,vs s1),(3,.int .i64 s)]) (fun(y:Int)a w'=>w=w'/\Has 35 a [(0,vs s1),(3,.int .i64 y)]) (fun _=>Y) ?_ ?_ hm ⟨Y,v.cut (l:= [0,3]) Y⟩
 clear hm;rintro nx4 a T hm ⟨rfl,x⟩
 rw [hkont2]at hm
 replace hm:=hm
 refine a5a (e:= .exit 2) x (a2m (a0d (a0a (a0b Y Y Y (a0b Y Y Y (a0b Y Y Y ?_))))))
 obtain⟨t1,I,hm⟩:=Yb hm
 refine c9l u9 Y Y Y Y I ?_
 obtain⟨v3,J,hm⟩:=Yb hm
 refine a6o ent176 Y Y Y Y (a7q _ _ _ _ J (pf216 _)) (a0n Y Y Y Y Y (a0c Y Y Y (a0e (a3v (a0k (fun a ha=>ihx1 (iadd .i64 nx4 v3) a _ hm ?_))))))
 exact⟨Y,ha.cut (l:= [0,3]) Y⟩
 clear hm hkont2;intro hk2 mx2 K ihx2
 rintro nx3 a U hm ⟨rfl,z⟩
 simp only [lexer_gap_L2_s]at hm
 refine a2a z (a0f (a0f (a0a (a0b Y Y Y (a0b Y Y Y (b1i u9 Y Y Y (a0n Y Y Y Y Y (a0b Y Y Y ?_))))))))
 obtain⟨v4,h,hm⟩:=Yb hm
 refine a6y 5 (fun a w'=>w=w'/\Has 35 a [(0,vs s1),(3,.int .i64 nx3),(25,.bool v4)]) ?_ ?_
 rintro a V ⟨rfl,G⟩
 refine a1u G (a0e (a0d ?_))
 rcases a0g hm with⟨j,hm⟩|⟨j,hm⟩
 refine a0v 25 Y j (a1l Y (a1y (a0d (a2c (a0a (a0b Y Y Y (a0n Y Y Y Y Y (a0c Y Y Y (a0e (a3v (a0k (fun a ha=>ihx2 (iadd .i64 nx3 1) a _ hm ?_))))))))))))
 exact⟨Y,ha.cut (l:= [0,3]) Y⟩
 refine a0v 25 Y j (a0q Y (a9q (a0p (a0p (fun a ha=>hk2 nx3 a _ hm ?_)))))
 exact⟨Y,ha.cut (l:= [0,3]) Y⟩
 clear hm
 rcases a0g h with⟨k,h⟩|⟨k,h⟩
 refine a2q 20 Y k (a0b Y Y Y (a0b Y Y Y ?_))
 obtain⟨c1,L,h⟩:=Yb h
 refine b0r u9 Y Y Y Y L (a0n Y Y Y Y Y (a0m Y Y Y Y (a0e (a0k (fun a ha=> ?_)))))
 cases h
 exact⟨Y,ha.cut (l:= [0,3,25]) Y⟩
 refine a2q 20 Y k (a0x Y (by decide) Y (a0x Y (by decide) Y (a0x Y (by decide) Y (a0x Y (by decide) Y (a0j Y Y Y Y (a0e (a0k (fun a ha=> ?_))))))))
 cases h
 exact⟨Y,ha.cut (l:= [0,3,25]) Y⟩
 refine a0v 15 Y i (a0q Y (a9q (a0p (a0p (fun a ha=>hk1 nx1 a _ hm ?_)))))
 exact⟨Y,ha.cut (l:= [3]) Y⟩
 clear hm
 rcases a0g g with⟨o,g⟩|⟨o,g⟩
 refine a2q 10 Y o (a0b Y Y Y (a0b Y Y Y ?_))
 obtain⟨c2,M,g⟩:=Yb g
 refine b0r u9 Y Y Y Y M (a0n Y Y Y Y Y (a0m Y Y Y Y (a0e (a0k (fun a ha=> ?_)))))
 cases g
 exact⟨Y,ha.cut (l:= [0,3,15]) Y⟩
 refine a2q 10 Y o (a0x Y (by decide) Y (a0x Y (by decide) Y (a0x Y (by decide) Y (a0x Y (by decide) Y (a0j Y Y Y Y (a0e (a0k (fun a ha=> ?_))))))))
 cases g
 exact⟨Y,ha.cut (l:= [0,3,15]) Y⟩
theorem u213:Tryz.prog.underlying 213=some (.slice 5):=by kernel_rfl
theorem ap213:AppIs Tryz.prog 213 5 1 1:=AppIs.of (z:= .int .u8 0) (by kernel_rfl) (by kernel_rfl) rfl (by decide) (by decide)
theorem ent221:Ent Tryz.prog 221:=fun _ _=>by kernel_rfl
def lexer_quoted_L1(n:Nat)(s1:Bs)(kont1:Int->(List Int)->Option (Bs×Int)):Nat->Int->(List Int)->Option (Bs×Int)
 |0,_,_=>none
 |mx1+1,nx1,l1=>
  (bif decide ((s1.length:Int)<=nx1)then
   some true
  else
   (sidx s1 nx1).bind fun c7=>
   (b7e n c7).bind fun v4=>
   some (!v4)).bind fun v1=>
  bif v1 then
   some ([],0)
  else
   (sidx s1 nx1).bind fun c1=>
   bif c1==34 then
    kont1 nx1 l1
   else
    (sidx s1 nx1).bind fun c2=>
    bif c2==92 then
     (bif decide ((s1.length:Int)<=(iadd .i64 nx1 1))then
      some true
     else
      (sidx s1 (iadd .i64 nx1 1)).bind fun c4=>
      (bif c4 !=34 then
       (sidx s1 (iadd .i64 nx1 1)).bind fun c5=>
       some (c5 !=92)
      else
       some false).bind fun v3=>
      some v3).bind fun v2=>
     bif v2 then
      some ([],0)
     else
      (sidx s1 (iadd .i64 nx1 1)).bind fun c3=>
      (app 1 l1 [c3]).bind fun l3=>
      lexer_quoted_L1 n s1 kont1 mx1 (iadd .i64 (iadd .i64 nx1 1) 1) l3
    else
     (sidx s1 nx1).bind fun c6=>
     (app 1 l1 [c6]).bind fun l4=>
     lexer_quoted_L1 n s1 kont1 mx1 (iadd .i64 nx1 1) l4
theorem lexer_quoted_L1_s:type_of% @lexer_quoted_L1.eq_2:= @lexer_quoted_L1.eq_2
def b5j(n:Nat)(s1:Bs):Option (Bs×Int):=
 lexer_quoted_L1 n s1 (fun(nx2:Int)(l2:List Int)=>
  bif decide (400<(l2.length:Int))then
   some ([],0)
  else
   some (c7z l2,iadd .i64 nx2 1)) n 1 ([]:List Int)
theorem c2z(n:Nat)(s1:Bs)(r:(Bs×Int))(hm:b5j n s1=some r){w:World}{F:Frz}(hs:Sat F w):
 Calls Tryz.prog 218 #[vs s1] w fun e w'=>∃v F' O',e= .returned v/\HS F w [] F' O' w'/\(v= .tuple #[vs r.1,.int .i64 r.2]/\O'= []):=by
 unfold b5j at hm
 have h:=HS.init hs
 refine a1v 61 Tryz.func218 Y Y Y (a0f (a0a (a0c Y Y Y (a0c Y Y Y (a0e (a0d (d7a (a0f (a0a (a0c Y Y Y (a0e (a0d (a0f (a0a (a0c Y Y Y (a0e (a0d (a0f (d6c (a0d (a0f (a2c ?_))))))))))))))))))))))
 have ga:=h.nilRow 5 1
 intro a g4
 obtain⟨kont1,hkont1⟩:∃kont1:Int->(List Int)->Option (Bs×Int),kont1=(fun(nx2:Int)(l2:List Int)=>bif decide (400<(l2.length:Int))then some ([],0)else some (c7z l2,iadd .i64 nx2 1)):=⟨_,Y⟩
 replace hm:(fun m(s:Int×List Int)=>lexer_quoted_L1 n s1 kont1 m s.1 s.2) n (1,([]:List Int))=some r:=by rw [hkont1];exact hm
 refine b5h (id:=0) (fun m(s:Int×List Int)=>lexer_quoted_L1 n s1 kont1 m s.1 s.2) (fun(y:Int×List Int)=>kont1 y.1 y.2) r (fun(s:Int×List Int)a w'=>∃(x:Frz)(p:Option Addr)(g:Nat)(t:Nat)(xss2:List Value),Frz.le F x/\HS F w [] x [.row 5 1 p g t xss2] w'/\(RowN (Rp.int .u8) x g xss2 s.2)/\Has 61 a [(0,vs s1),(4,.slice p g t),(5,.int .i64 s.1)]) (fun(y:Int×List Int)a w'=>∃(I:Frz)(L:Option Addr)(J:Nat)(M:Nat)(xss3:List Value),Frz.le F I/\HS F w [] I [.row 5 1 L J M xss3] w'/\(RowN (Rp.int .u8) I J xss3 y.2)/\Has 61 a [(4,.slice L J M),(5,.int .i64 y.1)]) (fun _=>Y) ?_ ?_ hm ⟨_,none,0,0,[],Yf,ga.Yp [0] Y Y,((show RowN (Rp.int .u8) _ 0 [] []from⟨Y,Y⟩)),g4.cut (l:= [0,4,5]) Y⟩
 clear hm;rintro⟨nx2,l2⟩ a gv hm ⟨I,L,J,M,xss3,gw,N,g3,g5⟩
 rw [hkont1]at hm
 replace hm:=hm
 refine a5a (e:= .exit 0) g5 (a2m (a0d (a0f (a0f (a0a (a0b Y Y Y (a6c g3.len u213 Y Y Y (a0n Y Y Y Y Y (a0e (a0d ?_))))))))))
 rcases a0g hm with⟨Q,hm⟩|⟨Q,hm⟩
 refine a0v 56 Y Q (a1l Y (a0f (a0a (a0c Y Y Y (a0c Y Y Y (a0e (a0d (a3b (a0l (b1n (a6h (vl:= [vs [],.int .i64 0]) Y ⟨a3u Y,a3u Y,trivial⟩ (by simp) ?_)))))))))))
 obtain rfl:=Yo hm
 exact⟨_,_,_,Y,N.Yp [] Y Y,Y,Y⟩
 refine a0v 56 Y Q (a0q Y (a1y (a0d (a0f (a0a (a0b Y Y Y (e1g u213 u5 u9 Y Y N Y (i:=0) Y (d9p g3.2) (a0b Y Y Y (a0n Y Y Y Y Y (a0c Y Y Y (a0c Y Y Y (a0e (a0d (a3b (b1n (a6h (vl:= [vs (c7z l2),.int .i64 (iadd .i64 nx2 1)]) Y ⟨a3u Y,a3u Y,trivial⟩ (by simp) ?_))))))))))))))))
 obtain rfl:=Yo hm
 exact⟨_,_,_,Y,N.Yp [] Y Y,Y,Y⟩
 clear hm hkont1;intro hk1 mx1 K ihx1
 rintro⟨nx1,l1⟩ a R hm ⟨x,p,g,t,xss2,T,z,U,g6⟩
 simp only [lexer_quoted_L1_s]at hm
 refine a2a g6 (a2c (a0f (a2c (a0f (a0a (a0b Y Y Y (a0b Y Y Y (b1i u9 Y Y Y (a0n Y Y Y Y Y (a0b Y Y Y ?_))))))))))
 obtain⟨v1,o,hm⟩:=Yb hm
 refine a6y 6 (fun a w'=>R=w'/\Has 61 a [(0,vs s1),(4,.slice p g t),(5,.int .i64 nx1),(17,.bool v1)]) ?_ ?_
 rintro a gx ⟨rfl,g7⟩
 refine a1u g7 (a0c Y Y Y (a0e (a0d ?_)))
 rcases a0g hm with⟨V,hm⟩|⟨V,hm⟩
 refine a0v 6 Y V (a1l Y (a0f (a0a (a0c Y Y Y (a0c Y Y Y (a0e (a0d (a3b (a1e (a0l (a1e (a0l (a1e (a0l (b1n (a6h (vl:= [vs [],.int .i64 0]) Y ⟨a3u Y,a3u Y,trivial⟩ (by simp) ?_))))))))))))))))
 obtain rfl:=Yo hm
 exact⟨_,_,_,Y,z.Yp [] Y Y,Y,Y⟩
 refine a0v 6 Y V (a0q Y (a0f (a0a (a0b Y Y Y (a0b Y Y Y ?_)))))
 obtain⟨c1,gb,hm⟩:=Yb hm
 refine b0r u9 Y Y Y Y gb (a0n Y Y Y Y Y (a0c Y Y Y (a0e (a0d ?_))))
 rcases a0g hm with⟨Z,hm⟩|⟨Z,hm⟩
 refine a0v 18 Y Z (a1l Y (a9q (b5p (by decide) (a0p (b5p (by decide) (a0p (fun a ha=>hk1 (nx1,l1) a _ hm ?_)))))))
 exact⟨_,p,g,t,xss2,T,z.Yp [0] Y Y,U,ha.cut (l:= [4,5]) Y⟩
 refine a0v 18 Y Z (a0q Y (a0f (a0a (a0b Y Y Y (a0b Y Y Y ?_)))))
 obtain⟨c2,gc,hm⟩:=Yb hm
 refine b0r u9 Y Y Y Y gc (a0n Y Y Y Y Y (a0c Y Y Y (a0e (a0d ?_))))
 rcases a0g hm with⟨g0,hm⟩|⟨g0,hm⟩
 refine a0v 23 Y g0 (a1l Y (a0f (a0a (a0b Y Y Y (a0n Y Y Y Y Y (a0c Y Y Y (a0e (a0d (a0f (a0a (a0b Y Y Y (a0b Y Y Y (b1i u9 Y Y Y (a0n Y Y Y Y Y (a0b Y Y Y ?_)))))))))))))))
 obtain⟨v2,k,hm⟩:=Yb hm
 refine a6y 11 (fun a w'=>R=w'/\Has 61 a [(0,vs s1),(4,.slice p g t),(5,.int .i64 (iadd .i64 nx1 1)),(45,.bool v2)]) ?_ ?_
 rintro a gy ⟨rfl,g8⟩
 refine a1u g8 (a0e (a0d ?_))
 rcases a0g hm with⟨g1,hm⟩|⟨g1,hm⟩
 refine a0v 45 Y g1 (a1l Y (a0f (a0a (a0c Y Y Y (a0c Y Y Y (a0e (a0d (a3b (a1e (a0l (a1e (a0l (a1e (a0l (b1n (a6h (vl:= [vs [],.int .i64 0]) Y ⟨a3u Y,a3u Y,trivial⟩ (by simp) ?_))))))))))))))))
 obtain rfl:=Yo hm
 exact⟨_,_,_,Y,z.Yp [] Y Y,Y,Y⟩
 refine a0v 45 Y g1 (a0q Y (a1y (a3v (a0d (a0f (a0a (a0b Y Y Y (a0b Y Y Y (a0b Y Y Y ?_)))))))))
 obtain⟨c3,gd,hm⟩:=Yb hm
 refine b0r u9 Y Y Y Y gd (a0i (e:=5) (cs:= [.int .u8 c3]) (q:=1) Y Y z Y (fun _=>by kernel_rfl) Y Y ?_)
 intro b1 gz ge
 obtain⟨l3,gf,hm⟩:=Yb hm
 refine a6q (r:=(Rp.int .u8)) ap213 Y Y ge Y Y (i:=1) (j:=0) Y Y U ((show RowN (Rp.int .u8) x 1 [.int .u8 c3] [c3]from⟨Y,⟨_,_,Y,Y,(Y:RowR (Rp.int .u8) _ [] [])⟩⟩)) gf ?_
 intro gg gh h0 gi gj
 refine a0c Y Y Y (a0e (a0d (a0a (a0b Y Y Y (a0n Y Y Y Y Y (a0c Y Y Y (a0e (a3v (a0k (fun a ha=>ihx1 ((iadd .i64 (iadd .i64 nx1 1) 1),l3) a _ hm ?_))))))))))
 exact⟨_,gg,(g+1),gh,(xss2++ [.int .u8 c3]),T,gi.Yp [1] Y Y,gj,ha.cut (l:= [0,4,5]) Y⟩
 clear hm
 rcases a0g k with⟨g2,k⟩|⟨g2,k⟩
 refine a2q 34 Y g2 (a0x Y (by decide) Y (a0x Y (by decide) Y (a0x Y (by decide) Y (a0x Y (by decide) Y (a0x Y (by decide) Y (a0x Y (by decide) Y (a0x Y (by decide) Y (a0x Y (by decide) Y (a0x Y (by decide) Y (a0x Y (by decide) Y (a0m Y Y Y Y (a0e (a0k (fun a ha=> ?_))))))))))))))
 cases k
 exact⟨Y,ha.cut (l:= [0,4,5,45]) Y⟩
 refine a2q 34 Y g2 (a0b Y Y Y (a0b Y Y Y ?_))
 obtain⟨c4,gk,k⟩:=Yb k
 refine b0r u9 Y Y Y Y gk (a0n Y Y Y Y Y (a0b Y Y Y ?_))
 obtain⟨v3,u,k⟩:=Yb k
 refine a6y 5 (fun a w'=>R=w'/\Has 61 a [(0,vs s1),(4,.slice p g t),(5,.int .i64 (iadd .i64 nx1 1)),(34,.bool false),(44,.bool v3)]) ?_ ?_
 rintro a h1 ⟨rfl,g9⟩
 refine a1u g9 (a0j Y Y Y Y (a0e (a0k (fun a ha=> ?_))))
 cases k
 exact⟨Y,ha.cut (l:= [0,4,5,45]) Y⟩
 clear k
 rcases a0g u with⟨G,u⟩|⟨G,u⟩
 refine a2q 39 Y G (a0b Y Y Y (a0b Y Y Y ?_))
 obtain⟨c5,gl,u⟩:=Yb u
 refine b0r u9 Y Y Y Y gl (a0n Y Y Y Y Y (a0m Y Y Y Y (a0e (a0k (fun a ha=> ?_)))))
 cases u
 exact⟨Y,ha.cut (l:= [0,4,5,34,44]) Y⟩
 refine a2q 39 Y G (a0x Y (by decide) Y (a0x Y (by decide) Y (a0x Y (by decide) Y (a0x Y (by decide) Y (a0j Y Y Y Y (a0e (a0k (fun a ha=> ?_))))))))
 cases u
 exact⟨Y,ha.cut (l:= [0,4,5,34,44]) Y⟩
 refine a0v 23 Y g0 (a0q Y (a1y (a3v (a0d (a0f (a0a (a0b Y Y Y (a0b Y Y Y (a0b Y Y Y ?_)))))))))
 obtain⟨c6,gm,hm⟩:=Yb hm
 refine b0r u9 Y Y Y Y gm (a0i (e:=5) (cs:= [.int .u8 c6]) (q:=1) Y Y z Y (fun _=>by kernel_rfl) Y Y ?_)
 intro b2 h2 gn
 obtain⟨l4,go,hm⟩:=Yb hm
 refine a6q (r:=(Rp.int .u8)) ap213 Y Y gn Y Y (i:=1) (j:=0) Y Y U ((show RowN (Rp.int .u8) x 1 [.int .u8 c6] [c6]from⟨Y,⟨_,_,Y,Y,(Y:RowR (Rp.int .u8) _ [] [])⟩⟩)) go ?_
 intro gp gq h3 gr gs
 refine a0c Y Y Y (a0e (a0d (a0a (a0b Y Y Y (a0n Y Y Y Y Y (a0c Y Y Y (a0e (a3v (a0k (fun a ha=>ihx1 ((iadd .i64 nx1 1),l4) a _ hm ?_))))))))))
 exact⟨_,gp,(g+1),gq,(xss2++ [.int .u8 c6]),T,gr.Yp [1] Y Y,gs,ha.cut (l:= [0,4,5]) Y⟩
 clear hm
 rcases a0g o with⟨H,o⟩|⟨H,o⟩
 refine a2q 11 Y H (a0x Y (by decide) Y (a0x Y (by decide) Y (a0x Y (by decide) Y (a0x Y (by decide) Y (a0x Y (by decide) Y (a0m Y Y Y Y (a0e (a0k (fun a ha=> ?_)))))))))
 cases o
 exact⟨Y,ha.cut (l:= [0,4,5,17]) Y⟩
 refine a2q 11 Y H (a0b Y Y Y (a0b Y Y Y ?_))
 obtain⟨c7,gt,o⟩:=Yb o
 refine b0r u9 Y Y Y Y gt ?_
 obtain⟨v4,gu,o⟩:=Yb o
 refine a6o ent221 Y Y Y Y (c3w _ _ _ gu) (c3x Y Y Y (a0j Y Y Y Y (a0e (a0k (fun a ha=> ?_)))))
 cases o
 exact⟨Y,ha.cut (l:= [0,4,5,17]) Y⟩
structure Token where
 Kind:Int
 Text:Bs
 N:Int
 Pos:Int
 deriving DecidableEq,Inhabited
def rp_Token:Rp Token where
 k:=4
 R:=fun _ cs x=>cs= [.int .i64 x.Kind,vs x.Text,.int .i64 x.N,.int .i64 x.Pos]
 len:=by intros;simp_all
 mono:=fun _ h=>h
 one:=by intro F cs x h u hu;subst h;simp at hu;rcases hu with rfl|rfl|rfl|rfl<;>rfl
theorem ze152:b6q Tryz.prog 152 (.agg #[.int .i64 0,vs [],.int .i64 0,.int .i64 0]):=fun _=>by kernel_rfl
theorem ent113:Ent Tryz.prog 113:=fun _ _=>by kernel_rfl
theorem sz152:SizeIs Tryz.prog 152 4:=fun _=>by kernel_rfl
theorem ag152:a8x Tryz.prog 152 true:=fun _=>by kernel_rfl
theorem ent217:Ent Tryz.prog 217:=fun _ _=>by kernel_rfl
theorem ent218:Ent Tryz.prog 218:=fun _ _=>by kernel_rfl
theorem ag211:a8x Tryz.prog 211 true:=fun _=>by kernel_rfl
theorem sz211:SizeIs Tryz.prog 211 13:=fun _=>by kernel_rfl
theorem u211:Tryz.prog.underlying 211=some (.array 13 5):=by kernel_rfl
theorem ag5:a8x Tryz.prog 5 false:=fun _=>by kernel_rfl
theorem sz5:SizeIs Tryz.prog 5 1:=fun _=>by kernel_rfl
def lexer_next_L1(n:Nat)(s1:Bs)(kont1:Option (Token×Int×Int)):Nat->Int->Option (Token×Int×Int)
 |0,_=>none
 |mx1+1,i1=>
  bif decide (i1<13)then
   (ix [40,41,44,59,58,61,60,43,45,42,47,123,125] i1).bind fun c4=>
   (sidx s1 0).bind fun c5=>
   bif c5==c4 then
    (ssl s1 0 1).bind fun t3=>
    some ((⟨3,t3,0,0⟩:Token),1,0)
   else
    lexer_next_L1 n s1 kont1 mx1 (iadd .i64 i1 1)
  else
   kont1
theorem lexer_next_L1_s:type_of% @lexer_next_L1.eq_2:= @lexer_next_L1.eq_2
def b9p(n:Nat)(s1:Bs):Option (Token×Int×Int):=
 (sidx s1 0).bind fun c1=>
 (a5f n c1).bind fun v1=>
 bif v1 then
  (a4t n s1 (a5m n)).bind fun v2=>
  (ssl s1 0 v2).bind fun t1=>
  (a4q n t1).bind fun v3=>
  bif !v3 then
   some ((⟨0,[],0,0⟩:Token),0,3)
  else
   some ((⟨0,t1,0,0⟩:Token),(t1.length:Int),0)
 else
  (sidx s1 0).bind fun c2=>
  (a6m n c2).bind fun v4=>
  bif v4 then
   (a4t n s1 (a6m n)).bind fun v5=>
   (ssl s1 0 v5).bind fun t2=>
   (b4p n t2).bind fun v6=>
   bif !v6.2 then
    some ((⟨0,[],0,0⟩:Token),0,3)
   else
    some ((⟨1,t2,v6.1,0⟩:Token),(t2.length:Int),0)
  else
   (sidx s1 0).bind fun c3=>
   bif c3==34 then
    (b5j n s1).bind fun v7=>
    bif v7.2==0 then
     some ((⟨0,[],0,0⟩:Token),0,2)
    else
     some ((⟨2,v7.1,0,0⟩:Token),v7.2,0)
   else
    lexer_next_L1 n s1 (
     some ((⟨0,[],0,0⟩:Token),0,10)) n 0
theorem c6t(n:Nat)(s1:Bs)(r:(Token×Int×Int))(hm:b9p n s1=some r){w:World}{F:Frz}(hs:Sat F w)(hg0:FX F 0 [.int .u8 40,.int .u8 41,.int .u8 44,.int .u8 59,.int .u8 58,.int .u8 61,.int .u8 60,.int .u8 43,.int .u8 45,.int .u8 42,.int .u8 47,.int .u8 123,.int .u8 125]):
 Calls Tryz.prog 187 #[vs s1] w fun e w'=>∃v F' O',e= .returned v/\HS F w [] F' O' w'/\(v= .tuple #[.agg #[.int .i64 r.1.Kind,vs r.1.Text,.int .i64 r.1.N,.int .i64 r.1.Pos],.int .i64 r.2.1,.int .i64 r.2.2]/\O'= []):=by
 unfold b9p at hm
 have h:=HS.init hs
 refine a1v 78 Tryz.func187 Y Y Y (a0f (a0a (a2y ze152 Y Y Y h ?_)))
 intro b1 H g
 refine a0c Y Y Y (a0c Y Y Y (a0e (a0d (a0f (a2c (a0f (a0a (a0b Y Y Y ?_))))))))
 obtain⟨c1,g1,hm⟩:=Yb hm
 refine b0r u9 Y Y Y Y g1 ?_
 obtain⟨v1,g2,hm⟩:=Yb hm
 refine a6o ent175 Y Y Y Y (b1t _ _ _ g2) (a0c Y Y Y (a0e (a0d ?_)))
 rcases a0g hm with⟨k,hm⟩|⟨k,hm⟩
 refine a0v 13 Y k (a1l Y (a0f (a0a (a0b Y Y Y (a0b Y Y Y ?_)))))
 obtain⟨v2,g3,hm⟩:=Yb hm
 refine a6o ent176 Y Y Y Y (a7q _ _ _ _ g3 (pf177 _)) ?_
 obtain⟨t1,g4,hm⟩:=Yb hm
 refine c9g u9 Y Y Y Y g4 (a0c Y Y Y (a0e (a0d (a0f (a0f (a0a (a0b Y Y Y ?_)))))))
 obtain⟨v3,g5,hm⟩:=Yb hm
 refine a6o ent113 Y Y Y Y (c5v _ _ _ g5) (c3x Y Y Y (a0e (a0d ?_)))
 rcases a0g hm with⟨o,hm⟩|⟨o,hm⟩
 refine a0v 23 Y o (a1l Y (a0f (a0a (a4d (v:= .agg #[.int .i64 0,vs [],.int .i64 0,.int .i64 0]) Y Y Y (fun _=>by kernel_rfl) (a0o sz152 Y g Y Y Y Y (i:=0) Y Y Y Y ?_)))))
 intro gj I
 refine a0c Y Y Y (a0c Y Y Y (a0e (a0d (a3b (a0l (a1e (a0l (a6h (vl:= [.agg #[.int .i64 0,vs [],.int .i64 0,.int .i64 0],.int .i64 0,.int .i64 3]) Y ⟨b4k ag152 sz152 Y I Y (i:=0) Y,a3u Y,a3u Y,trivial⟩ (by simp) ?_))))))))
 obtain rfl:=Yo hm
 exact⟨_,_,_,Y,I.Yp [] Y Y,Y,Y⟩
 refine a0v 23 Y o (a0q Y (a1y (a0d (a0f (a0a (a0b Y Y Y (a4d (v:= .agg #[.int .i64 0,vs t1,.int .i64 0,.int .i64 0]) Y Y Y (fun _=>by kernel_rfl) (a0b Y Y Y (b1i u9 Y Y Y (a0o sz152 Y g Y Y Y Y (i:=0) Y Y Y Y ?_))))))))))
 intro gk J
 refine a0c Y Y Y (a0c Y Y Y (a0e (a0d (a3b (a1e (a0l (a6h (vl:= [.agg #[.int .i64 0,vs t1,.int .i64 0,.int .i64 0],.int .i64 (t1.length:Int),.int .i64 0]) Y ⟨b4k ag152 sz152 Y J Y (i:=0) Y,a3u Y,a3u Y,trivial⟩ (by simp) ?_)))))))
 obtain rfl:=Yo hm
 exact⟨_,_,_,Y,J.Yp [] Y Y,Y,Y⟩
 refine a0v 13 Y k (a0q Y (a0f (a0a (a0b Y Y Y ?_))))
 obtain⟨c2,g6,hm⟩:=Yb hm
 refine b0r u9 Y Y Y Y g6 ?_
 obtain⟨v4,g7,hm⟩:=Yb hm
 refine a6o ent213 Y Y Y Y (b2o _ _ _ g7) (a0c Y Y Y (a0e (a0d ?_)))
 rcases a0g hm with⟨p,hm⟩|⟨p,hm⟩
 refine a0v 29 Y p (a1l Y (a0f (a0a (a0b Y Y Y (a0b Y Y Y ?_)))))
 obtain⟨v5,g8,hm⟩:=Yb hm
 refine a6o ent176 Y Y Y Y (a7q _ _ _ _ g8 (pf213 _)) ?_
 obtain⟨t2,g9,hm⟩:=Yb hm
 refine c9g u9 Y Y Y Y g9 (a0c Y Y Y (a0e (a0d (a0f (a0a (a0b Y Y Y ?_))))))
 obtain⟨v6,ga,hm⟩:=Yb hm
 refine a6o ent217 Y Y Y Y (c1e _ _ _ ga) (a0b Y Y Y (a1a Y Y Y Y (a1a Y Y Y Y (a0c Y Y Y (a0c Y Y Y (a0e (a0d (a0f (a0f (a0a (a0b Y Y Y (c3x Y Y Y (a0e (a0d ?_))))))))))))))
 rcases a0g hm with⟨q,hm⟩|⟨q,hm⟩
 refine a0v 43 Y q (a1l Y (a0f (a0a (a4d (v:= .agg #[.int .i64 0,vs [],.int .i64 0,.int .i64 0]) Y Y Y (fun _=>by kernel_rfl) (a0o sz152 Y g Y Y Y Y (i:=0) Y Y Y Y ?_)))))
 intro gl L
 refine a0c Y Y Y (a0c Y Y Y (a0e (a0d (a3b (a0l (a1e (a0l (a6h (vl:= [.agg #[.int .i64 0,vs [],.int .i64 0,.int .i64 0],.int .i64 0,.int .i64 3]) Y ⟨b4k ag152 sz152 Y L Y (i:=0) Y,a3u Y,a3u Y,trivial⟩ (by simp) ?_))))))))
 obtain rfl:=Yo hm
 exact⟨_,_,_,Y,L.Yp [] Y Y,Y,Y⟩
 refine a0v 43 Y q (a0q Y (a1y (a0d (a0f (a0a (a0b Y Y Y (a0b Y Y Y (a4d (v:= .agg #[.int .i64 1,vs t2,.int .i64 v6.1,.int .i64 0]) Y Y Y (fun _=>by kernel_rfl) (a0b Y Y Y (b1i u9 Y Y Y (a0o sz152 Y g Y Y Y Y (i:=0) Y Y Y Y ?_)))))))))))
 intro gm M
 refine a0c Y Y Y (a0c Y Y Y (a0e (a0d (a3b (a1e (a0l (a6h (vl:= [.agg #[.int .i64 1,vs t2,.int .i64 v6.1,.int .i64 0],.int .i64 (t2.length:Int),.int .i64 0]) Y ⟨b4k ag152 sz152 Y M Y (i:=0) Y,a3u Y,a3u Y,trivial⟩ (by simp) ?_)))))))
 obtain rfl:=Yo hm
 exact⟨_,_,_,Y,M.Yp [] Y Y,Y,Y⟩
 refine a0v 29 Y p (a0q Y (a0f (a0a (a0b Y Y Y ?_))))
 obtain⟨c3,gb,hm⟩:=Yb hm
 refine b0r u9 Y Y Y Y gb (a0n Y Y Y Y Y (a0c Y Y Y (a0e (a0d ?_))))
 rcases a0g hm with⟨t,hm⟩|⟨t,hm⟩
 refine a0v 50 Y t (a1l Y (a0f (a0a (a0b Y Y Y ?_))))
 obtain⟨v7,gc,hm⟩:=Yb hm
 refine a1s ent218 Y Y Y Y g (c2z _ _ _ gc g.sat) ?_
 rintro _ gn _ go gp Q ⟨rfl,rfl⟩
 refine a0b Y Y Y (a1a Y Y Y Y (a1a Y Y Y Y (a0c Y Y Y (a0c Y Y Y (a0e (a0d (a0f (a0f (a0a (a0b Y Y Y (a0n Y Y Y Y Y (a0e (a0d ?_)))))))))))))
 rcases a0g hm with⟨u,hm⟩|⟨u,hm⟩
 refine a0v 60 Y u (a1l Y (a0f (a0a (a4d (v:= .agg #[.int .i64 0,vs [],.int .i64 0,.int .i64 0]) Y Y Y (fun _=>by kernel_rfl) (a0o sz152 Y Q Y Y Y Y (i:=0) Y Y Y Y ?_)))))
 intro gq R
 refine a0c Y Y Y (a0c Y Y Y (a0e (a0d (a3b (a0l (a1e (a0l (a6h (vl:= [.agg #[.int .i64 0,vs [],.int .i64 0,.int .i64 0],.int .i64 0,.int .i64 2]) Y ⟨b4k ag152 sz152 Y R Y (i:=0) Y,a3u Y,a3u Y,trivial⟩ (by simp) ?_))))))))
 obtain rfl:=Yo hm
 exact⟨_,_,_,Y,R.Yp [] Y Y,Y,Y⟩
 refine a0v 60 Y u (a0q Y (a1y (a0d (a0f (a0a (a0b Y Y Y (a4d (v:= .agg #[.int .i64 2,vs v7.1,.int .i64 0,.int .i64 0]) Y Y Y (fun _=>by kernel_rfl) (a0b Y Y Y (a0o sz152 Y Q Y Y Y Y (i:=0) Y Y Y Y ?_)))))))))
 intro gr T
 refine a0c Y Y Y (a0c Y Y Y (a0e (a0d (a3b (a1e (a0l (a6h (vl:= [.agg #[.int .i64 2,vs v7.1,.int .i64 0,.int .i64 0],.int .i64 v7.2,.int .i64 0]) Y ⟨b4k ag152 sz152 Y T Y (i:=0) Y,a3u Y,a3u Y,trivial⟩ (by simp) ?_)))))))
 obtain rfl:=Yo hm
 exact⟨_,_,_,Y,T.Yp [] Y Y,Y,Y⟩
 refine a0v 50 Y t (a0q Y (a1y (a3v (a0d (a0f (a0f (a0a (d2j (j:=0) ag211 sz211 Y Y g hg0.fc Y Y Y (a0b Y Y Y (a0e (a0d (a2c ?_))))))))))))
 intro a V
 obtain⟨kont1,hkont1⟩:∃kont1:Option (Token×Int×Int),kont1=(some ((⟨0,[],0,0⟩:Token),0,10)):=⟨_,Y⟩
 replace hm:(fun m(s:Int)=>lexer_next_L1 n s1 kont1 m s) n 0=some r:=by rw [hkont1];exact hm
 refine b5h (id:=1) (fun m(s:Int)=>lexer_next_L1 n s1 kont1 m s) (fun(y:Unit)=>kont1) r (fun(s:Int)a w'=>H=w'/\Has 78 a [(0,vs s1),(2,.pointer (some ⟨b1,0,none⟩)),(65,.agg #[.int .u8 40,.int .u8 41,.int .u8 44,.int .u8 59,.int .u8 58,.int .u8 61,.int .u8 60,.int .u8 43,.int .u8 45,.int .u8 42,.int .u8 47,.int .u8 123,.int .u8 125]),(66,.int .i64 s)]) (fun(y:Unit)a w'=>H=w'/\Has 78 a [(2,.pointer (some ⟨b1,0,none⟩))]) (fun _=>Y) ?_ ?_ hm ⟨Y,V.cut (l:= [0,2,65,66]) Y⟩
 clear hm;rintro _u a gs hm ⟨rfl,Z⟩
 rw [hkont1]at hm
 refine a5a (e:= .exit 1) Z (a2m (a0d (a0f (a0a (a4d (v:= .agg #[.int .i64 0,vs [],.int .i64 0,.int .i64 0]) Y Y Y (fun _=>by kernel_rfl) (a0o sz152 Y g Y Y Y Y (i:=0) Y Y Y Y ?_))))))
 intro gg U
 refine a0c Y Y Y (a0c Y Y Y (a0e (a0d (a3b (a6h (vl:= [.agg #[.int .i64 0,vs [],.int .i64 0,.int .i64 0],.int .i64 0,.int .i64 10]) Y ⟨b4k ag152 sz152 Y U Y (i:=0) Y,a3u Y,a3u Y,trivial⟩ (by simp) ?_)))))
 obtain rfl:=Yo hm
 exact⟨_,_,_,Y,U.Yp [] Y Y,Y,Y⟩
 clear hm hkont1;intro hk1 mx1 K ihx1
 rintro i1 a gh hm ⟨rfl,g0⟩
 simp only [lexer_next_L1_s]at hm
 refine a2a g0 (a0f (a0a (a0n Y Y Y Y Y (a0e (a0d (a0f ?_))))))
 rcases a0g hm with⟨x,hm⟩|⟨x,hm⟩
 refine a0v 67 Y x (a1l Y (a1y (a0d (a0f (a2c (a0f (a0a ?_)))))))
 obtain⟨c4,gd,hm⟩:=Yb hm
 refine e4m u211 ag5 sz5 Y Y Y Y Y Y gd (a0c Y Y Y (a0e (a0d (a0f (a0a (a0b Y Y Y ?_))))))
 obtain⟨c5,ge,hm⟩:=Yb hm
 refine b0r u9 Y Y Y Y ge (a0b Y Y Y (a0n Y Y Y Y Y (a0e (a0d ?_))))
 rcases a0g hm with⟨z,hm⟩|⟨z,hm⟩
 refine a0v 72 Y z (a1l Y (a0f (a0a (a0b Y Y Y ?_))))
 obtain⟨t3,gf,hm⟩:=Yb hm
 refine c9g u9 Y Y Y Y gf (a4d (v:= .agg #[.int .i64 3,vs t3,.int .i64 0,.int .i64 0]) Y Y Y (fun _=>by kernel_rfl) (a0o sz152 Y g Y Y Y Y (i:=0) Y Y Y Y ?_))
 intro gi G
 refine a0c Y Y Y (a0c Y Y Y (a0e (a0d (a3b (a1e (a0l (a0l (a1e (a0l (a6h (vl:= [.agg #[.int .i64 3,vs t3,.int .i64 0,.int .i64 0],.int .i64 1,.int .i64 0]) Y ⟨b4k ag152 sz152 Y G Y (i:=0) Y,a3u Y,a3u Y,trivial⟩ (by simp) ?_))))))))))
 obtain rfl:=Yo hm
 exact⟨_,_,_,Y,G.Yp [] Y Y,Y,Y⟩
 refine a0v 72 Y z (a0q Y (a1y (a3v (a0d (a0a (a0n Y Y Y Y Y (a0b Y Y Y (a0e (a0k (fun a ha=>ihx1 (iadd .i64 i1 1) a _ hm ?_))))))))))
 exact⟨Y,ha.cut (l:= [0,2,65,66]) Y⟩
 refine a0v 67 Y x (a0q Y (a9q (a0p (a0p (fun a ha=>hk1 () a _ hm ?_)))))
 exact⟨Y,ha.cut (l:= [2]) Y⟩
theorem ent186:Ent Tryz.prog 186:=fun _ _=>by kernel_rfl
theorem ent187:Ent Tryz.prog 187:=fun _ _=>by kernel_rfl
theorem fa152_3:a8p Tryz.prog 152 3 3:=fun _ _ _=>by kernel_rfl
theorem sz3:SizeIs Tryz.prog 3 1:=fun _=>by kernel_rfl
theorem ap144:AppIs Tryz.prog 144 152 4 40:=AppIs.of (z:= .agg #[.int .i64 0,vs [],.int .i64 0,.int .i64 0]) (by kernel_rfl) (by kernel_rfl) rfl (by decide) (by decide)
def lexer_Scan_L1(n:Nat)(s1:Bs):Nat->Int->(List Token)->Option ((List Token)×Int×Int)
 |0,_,_=>none
 |mx1+1,atx1,l1=>
  (ssl s1 atx1 s1.length).bind fun t1=>
  (c1k n t1).bind fun v1=>
  bif(iadd .i64 atx1 v1)==(s1.length:Int)then
   some (l1,0,0)
  else
   (ssl s1 (iadd .i64 atx1 v1) s1.length).bind fun t2=>
   (b9p n t2).bind fun v2=>
   bif v2.2.2 !=0 then
    some ([],iadd .i64 atx1 v1,v2.2.2)
   else
    (app 40 l1 [(⟨v2.1.Kind,v2.1.Text,v2.1.N,iadd .i64 atx1 v1⟩:Token)]).bind fun l2=>
    lexer_Scan_L1 n s1 mx1 (iadd .i64 (iadd .i64 atx1 v1) v2.2.1) l2
theorem lexer_Scan_L1_s:type_of% @lexer_Scan_L1.eq_2:= @lexer_Scan_L1.eq_2
def b9e(n:Nat)(s1:Bs):Option ((List Token)×Int×Int):=
 bif decide (4000<(s1.length:Int))then
  some ([],0,6)
 else
  lexer_Scan_L1 n s1 n 0 ([]:List Token)
theorem c5p(n:Nat)(s1:Bs)(r:((List Token)×Int×Int))(hm:b9e n s1=some r){w:World}{F:Frz}(hs:Sat F w)(hg0:FX F 0 [.int .u8 40,.int .u8 41,.int .u8 44,.int .u8 59,.int .u8 58,.int .u8 61,.int .u8 60,.int .u8 43,.int .u8 45,.int .u8 42,.int .u8 47,.int .u8 123,.int .u8 125]):
 Calls Tryz.prog 131 #[vs s1] w fun e w'=>∃v F' O',e= .returned v/\HS F w [] F' O' w'/\(∃(a0_0:Option Addr)(n0_0:Nat)(c0_0:Nat),v= .tuple #[.slice a0_0 n0_0 c0_0,.int .i64 r.2.1,.int .i64 r.2.2]/\O'= []/\SlR rp_Token F' a0_0 n0_0 c0_0 r.1):=by
 unfold b9e at hm
 have h:=HS.init hs
 refine a1v 45 Tryz.func131 Y Y Y (a0f (a0a (a0c Y Y Y (a0c Y Y Y (a0c Y Y Y (a0e (a0d (a0f (a0f (a0a (a0b Y Y Y (b1i u9 Y Y Y (a0n Y Y Y Y Y (a0e (a0d ?_)))))))))))))))
 rcases a0g hm with⟨t,hm⟩|⟨t,hm⟩
 refine a0v 12 Y t (a1l Y (a0f (a0a (a0c Y Y Y (a0c Y Y Y (a0c Y Y Y (a0e (a0d (a3b (a0l (a6h (vl:= [.slice none 0 0,.int .i64 0,.int .i64 6]) Y ⟨a3u Y,a3u Y,a3u Y,trivial⟩ (by simp) ?_)))))))))))
 obtain rfl:=Yo hm
 exact⟨_,_,_,Y,h.Yp [] Y Y,none,0,0,Y,Y,SlR.nil _ _⟩
 refine a0v 12 Y t (a0q Y (a1y (a0d (a0f (a0a (a0c Y Y Y (a0e (a0d (a0f (a0a (a0c Y Y Y (a0e (a0d (a2c ?_))))))))))))))
 have Q:=h.nilRow 152 4
 intro a L
 replace hm:(fun m(s:Int×List Token)=>lexer_Scan_L1 n s1 m s.1 s.2) n (0,([]:List Token))=some r:=hm
 refine loopR (fun m(s:Int×List Token)=>lexer_Scan_L1 n s1 m s.1 s.2) r (fun(s:Int×List Token)a w'=>∃(p:Frz)(k:Option Addr)(g:Nat)(o:Nat)(xss2:List Value),Frz.le F p/\HS F w [] p [.row 152 4 k g o xss2] w'/\(RowN rp_Token p g xss2 s.2)/\Has 45 a [(0,vs s1),(5,.slice k g o),(6,.int .i64 s.1)]) (fun _=>Y) ?_ hm ⟨_,none,0,0,[],Yf,Q.Yp [0] Y Y,((show RowN rp_Token _ 0 [] []from⟨Y,Y⟩)),L.cut (l:= [0,5,6]) Y⟩
 clear hm;intro mx1 K ihx1
 rintro⟨atx1,l1⟩ a g9 hm ⟨p,k,g,o,xss2,z,u,G,M⟩
 simp only [lexer_Scan_L1_s]at hm
 refine a2a M (a2c (a0f (a0a (a0b Y Y Y (a0b Y Y Y (a0b Y Y Y ?_))))))
 obtain⟨t1,R,hm⟩:=Yb hm
 refine c9l u9 Y Y Y Y R ?_
 obtain⟨v1,T,hm⟩:=Yb hm
 refine a6o ent186 Y Y Y Y (c8m _ _ _ T) (a0n Y Y Y Y Y (a0c Y Y Y (a0e (a0d (a0f (a0f (a0a (a0b Y Y Y (a0b Y Y Y (b1i u9 Y Y Y (a0n Y Y Y Y Y (a0e (a0d ?_)))))))))))))
 rcases a0g hm with⟨x,hm⟩|⟨x,hm⟩
 refine a0v 22 Y x (a1l Y (a0f (a0a (a0b Y Y Y (a0c Y Y Y (a0c Y Y Y (a0c Y Y Y (a0e (a0d (a3b (a0l (a1e (a0l (a1e ?_))))))))))))))
 obtain⟨ga,gb,U,hsx1⟩:=a1n u (i:=0) Y G
 refine a6h (vl:= [.slice k g o,.int .i64 0,.int .i64 0]) Y ⟨a3u Y,a3u Y,a3u Y,trivial⟩ (by simp) ?_
 obtain rfl:=Yo hm
 exact⟨_,_,_,Y,U.Yp [] Y Y,k,g,o,Y,Y,hsx1⟩
 refine a0v 22 Y x (a0q Y (a1y (a0d (a0f (a0a (a0b Y Y Y (a0b Y Y Y ?_)))))))
 obtain⟨t2,V,hm⟩:=Yb hm
 refine c9l u9 Y Y Y Y V ?_
 obtain⟨v2,Z,hm⟩:=Yb hm
 refine a1s ent187 Y Y Y Y u (c6t _ _ _ Z u.sat (hg0.mono z)) ?_
 rintro _ g0 _ gc H g1 ⟨rfl,rfl⟩
 refine a0b Y Y Y (a1a Y Y Y Y (a1a Y Y Y Y (a1a Y Y Y Y (a2y ze152 Y Y Y g1 ?_))))
 intro b1 gd g2
 refine a0o sz152 Y g2 Y Y Y Y (i:=0) Y Y Y Y ?_
 intro ge I
 refine a0c Y Y Y (a0c Y Y Y (a0e (a0d (a0f (a0f (a0a (a0b Y Y Y (a0n Y Y Y Y Y (a0e (a0d ?_))))))))))
 rcases a0g hm with⟨y,hm⟩|⟨y,hm⟩
 refine a0v 33 Y y (a1l Y (a0f (a0a (a0b Y Y Y (a0b Y Y Y (a0c Y Y Y (a0c Y Y Y (a0c Y Y Y (a0e (a0d (a3b (a0l (a1e (a0l (a1e (a6h (vl:= [.slice none 0 0,.int .i64 (iadd .i64 atx1 v1),.int .i64 v2.2.2]) Y ⟨a3u Y,a3u Y,a3u Y,trivial⟩ (by simp) ?_))))))))))))))))
 obtain rfl:=Yo hm
 exact⟨_,_,_,Y,I.Yp [] Y Y,none,0,0,Y,Y,SlR.nil _ _⟩
 refine a0v 33 Y y (a0q Y (a1y (a0d (a0f (a0a (a0b Y Y Y (a0h fa152_3 Y Y Y (a0o sz3 Y I Y Y Y Y (i:=0) Y Y Y Y ?_))))))))
 intro gf J
 refine a0e (a0d (a0f (a0a (a0b Y Y Y (a5b ag152 sz152 Y Y J Y (i:=0) Y Y (a0i (e:=152) (cs:= [.int .i64 v2.1.Kind,vs v2.1.Text,.int .i64 v2.1.N,.int .i64 (iadd .i64 atx1 v1)]) (q:=4) Y Y J Y (fun _=>by kernel_rfl) Y Y ?_))))))
 intro b2 gg g3
 obtain⟨l2,g4,hm⟩:=Yb hm
 refine a6q (r:=rp_Token) ap144 Y Y g3 Y Y (i:=2) (j:=0) Y Y (G.mono H) ((show RowN rp_Token g0 1 [.int .i64 v2.1.Kind,vs v2.1.Text,.int .i64 v2.1.N,.int .i64 (iadd .i64 atx1 v1)] [(⟨v2.1.Kind,v2.1.Text,v2.1.N,iadd .i64 atx1 v1⟩:Token)]from⟨Y,⟨_,_,Y,Y,(Y:RowR rp_Token _ [] [])⟩⟩)) g4 ?_
 intro g5 g6 gh g7 g8
 refine a0c Y Y Y (a0e (a0d (a0a (a0b Y Y Y (a0b Y Y Y (a0n Y Y Y Y Y (a0c Y Y Y (a0e (a3v (a0k (fun a ha=>ihx1 ((iadd .i64 (iadd .i64 atx1 v1) v2.2.1),l2) a _ hm ?_)))))))))))
 exact⟨_,g5,(g+1),g6,(xss2++ [.int .i64 v2.1.Kind,vs v2.1.Text,.int .i64 v2.1.N,.int .i64 (iadd .i64 atx1 v1)]),(z.trans H),g7.Yp [2] Y Y,g8,ha.cut (l:= [0,5,6]) Y⟩
theorem u28:Tryz.prog.underlying 28=some (.slice 3):=by kernel_rfl
theorem ag3:a8x Tryz.prog 3 false:=fun _=>by kernel_rfl
def big_trim_L1(n:Nat)(l1:(List Int))(kont1:Int->Option (List Int)):Nat->Int->Option (List Int)
 |0,_=>none
 |mx1+1,nx1=>
  (bif decide (0<nx1)then
   (ix l1 (isub .i64 nx1 1)).bind fun ex1=>
   some (ex1==0)
  else
   some false).bind fun v1=>
  bif v1 then
   big_trim_L1 n l1 kont1 mx1 (isub .i64 nx1 1)
  else
   kont1 nx1
theorem big_trim_L1_s:type_of% @big_trim_L1.eq_2:= @big_trim_L1.eq_2
def a2r(n:Nat)(l1:(List Int)):Option (List Int):=
 big_trim_L1 n l1 (fun(nx2:Int)=>
  (lsl l1 0 nx2).bind fun l2=>
  some l2) n (l1.length:Int)
theorem b1u(n:Nat)(l1:(List Int))(r:(List Int))(hm:a2r n l1=some r){w:World}{F:Frz}(hs:Sat F w){k:Option Addr}{o:Nat}{g:Nat}(p:SlR (Rp.int .i64) F k o g l1):
 Calls Tryz.prog 191 #[.slice k o g] w fun e w'=>∃m',e= .returned (.slice k m' g)/\w'=w/\m'<=o/\r=l1.take m':=by
 unfold a2r at hm
 have h:=HS.init hs
 refine a1v 21 Tryz.func191 Y Y Y (a0f (a0a (a0c Y Y Y (a0e (a0d (a0f (a0a (a0b Y Y Y (a6c p.len u28 Y Y Y (a0c Y Y Y (a0e (a0d (a0f (a2c ?_))))))))))))))
 intro a u
 obtain⟨kont1,hkont1⟩:∃kont1:Int->Option (List Int),kont1=(fun(nx2:Int)=>(lsl l1 0 nx2).bind fun l2=>some l2):=⟨_,Y⟩
 replace hm:(fun m(s:Int)=>big_trim_L1 n l1 kont1 m s) n (l1.length:Int)=some r:=by rw [hkont1];exact hm
 refine b5h (id:=0) (fun m(s:Int)=>big_trim_L1 n l1 kont1 m s) (fun(y:Int)=>kont1 y) r (fun(s:Int)a w'=>w=w'/\Has 21 a [(0,.slice k o g),(3,.int .i64 s)]) (fun(y:Int)a w'=>w=w'/\Has 21 a [(0,.slice k o g),(3,.int .i64 y)]) (fun _=>Y) ?_ ?_ hm ⟨Y,u.cut (l:= [0,3]) Y⟩
 clear hm;rintro nx2 a M hm ⟨rfl,v⟩
 rw [hkont1]at hm
 replace hm:=hm
 refine a5a (e:= .exit 0) v (a2m (a0d (a0f (a0a (a0b Y Y Y (a0b Y Y Y ?_))))))
 obtain⟨l2,G,hm⟩:=Yb hm
 refine e4s u28 (r:=(Rp.int .i64)) sz3 Y Y Y Y p G ?_
 intro N hvs2 hns2
 refine a0c Y Y Y (a0e (a0d (a3b (a6z Y Y ?_))))
 obtain rfl:=Yo hm
 exact⟨_,Y,Y,hns2,hvs2⟩
 clear hm hkont1;intro hk1 mx1 K ihx1
 rintro nx1 a Q hm ⟨rfl,x⟩
 simp only [big_trim_L1_s]at hm
 refine a2a x (a0f (a0f (a0a (a0b Y Y Y (a0n Y Y Y Y Y (a0b Y Y Y ?_))))))
 obtain⟨v1,i,hm⟩:=Yb hm
 refine a6y 7 (fun a w'=>w=w'/\Has 21 a [(0,.slice k o g),(3,.int .i64 nx1),(15,.bool v1)]) ?_ ?_
 rintro a R ⟨rfl,z⟩
 refine a1u z (a0e (a0d ?_))
 rcases a0g hm with⟨q,hm⟩|⟨q,hm⟩
 refine a0v 15 Y q (a1l Y (a1y (a0d (a2c (a0a (a0b Y Y Y (a0n Y Y Y Y Y (a0c Y Y Y (a0e (a3v (a0k (fun a ha=>ihx1 (isub .i64 nx1 1) a _ hm ?_))))))))))))
 exact⟨Y,ha.cut (l:= [0,3]) Y⟩
 refine a0v 15 Y q (a0q Y (a9q (a0p (a0p (fun a ha=>hk1 nx1 a _ hm ?_)))))
 exact⟨Y,ha.cut (l:= [0,3]) Y⟩
 clear hm
 rcases a0g i with⟨t,i⟩|⟨t,i⟩
 refine a2q 8 Y t (a0b Y Y Y (a0b Y Y Y (a0n Y Y Y Y Y ?_)))
 obtain⟨ex1,H,i⟩:=Yb i
 refine a9j (r:=(Rp.int .i64)) u28 sz3 Y Y Y Y p H ?_
 intro b1 o1 g I J
 have L:g= [.int .i64 ex1]:=J
 subst L
 refine a6k (j:=0) ag3 Y Y h I Y Y (a0n Y Y Y Y Y (a0m Y Y Y Y (a0e (a0k (fun a ha=> ?_)))))
 cases i
 exact⟨Y,ha.cut (l:= [0,3,15]) Y⟩
 refine a2q 8 Y t (a0x Y (by decide) Y (a0x Y (by decide) Y (a0x Y (by decide) Y (a0x Y (by decide) Y (a0x Y (by decide) Y (a0x Y (by decide) Y (a0j Y Y Y Y (a0e (a0k (fun a ha=> ?_))))))))))
 cases i
 exact⟨Y,ha.cut (l:= [0,3,15]) Y⟩
structure Big where
 Sign:Int
 Digits:(List Int)
 deriving DecidableEq,Inhabited
def rp_Big:Rp Big where
 k:=2
 R:=fun F cs x=>∃(a1:Option Addr)(n1:Nat)(c1:Nat),cs= [.int .i64 x.Sign,.slice a1 n1 c1]/\SlR (Rp.int .i64) F a1 n1 c1 x.Digits
 len:=by rintro F cs x ⟨a1,n1,c1,h,_⟩;simp [h]
 mono:=by rintro F F' cs x hF ⟨a1,n1,c1,h,h0⟩;exact⟨a1,n1,c1,h,h0.mono hF⟩
 one:=by rintro F cs x ⟨a1,n1,c1,h,_⟩ u hu;subst h;simp at hu;rcases hu with rfl|rfl<;>rfl
theorem ent191:Ent Tryz.prog 191:=fun _ _=>by kernel_rfl
def a3x(n:Nat)(sign1:Int)(l1:(List Int)):Option Big:=
 (a2r n l1).bind fun v1=>
 bif(v1.length:Int)==0 then
  some (⟨0,[]⟩:Big)
 else
  some (⟨sign1,v1⟩:Big)
def big_Right_L1(n:Nat)(ax1:Big)(kont1:Option Bool):Nat->Int->Option Bool
 |0,_=>none
 |mx1+1,i1=>
  bif decide (i1<(ax1.Digits.length:Int))then
   (ix ax1.Digits i1).bind fun ex2=>
   (bif decide (ex2<0)then
    some true
   else
    some (decide (1048575<ex2))).bind fun v3=>
   bif v3 then
    some false
   else
    big_Right_L1 n ax1 kont1 mx1 (iadd .i64 i1 1)
  else
   kont1
theorem big_Right_L1_s:type_of% @big_Right_L1.eq_2:= @big_Right_L1.eq_2
def a2x(n:Nat)(ax1:Big):Option Bool:=
 big_Right_L1 n ax1 (
  bif(ax1.Digits.length:Int)==0 then
   some (ax1.Sign==0)
  else
   (bif ax1.Sign==1 then
    some true
   else
    some (ax1.Sign==(-1))).bind fun v1=>
   (bif v1 then
    (ix ax1.Digits (isub .i64 (ax1.Digits.length:Int) 1)).bind fun ex1=>
    some (ex1 !=0)
   else
    some false).bind fun v2=>
   some v2) n 0
def a8z(_n:Nat)(x1:Int):Option Bool:=
 some (x1 !=x1)
def a4v(n:Nat)(x1:Int)(y1:Int):Option Int:=
 (a8z n x1).bind fun v1=>
 (a8z n y1).bind fun v2=>
 bif v1 then
  bif v2 then
   some 0
  else
   some (-1)
 else
  bif v2 then
   some 1
  else
   bif decide (x1<y1)then
    some (-1)
   else
    bif decide (y1<x1)then
     some 1
    else
     some 0
def big_compare_L1(n:Nat)(ax1:(List Int))(b1:(List Int))(kont1:Option Int):Nat->Int->Option Int
 |0,_=>none
 |mx1+1,i1=>
  bif decide (0<=i1)then
   (ix ax1 i1).bind fun ex1=>
   (ix b1 i1).bind fun ex2=>
   bif ex1 !=ex2 then
    (ix ax1 i1).bind fun ex3=>
    (ix b1 i1).bind fun ex4=>
    (a4v n ex3 ex4).bind fun v2=>
    some v2
   else
    big_compare_L1 n ax1 b1 kont1 mx1 (isub .i64 i1 1)
  else
   kont1
theorem big_compare_L1_s:type_of% @big_compare_L1.eq_2:= @big_compare_L1.eq_2
def a6l(n:Nat)(ax1:(List Int))(b1:(List Int)):Option Int:=
 bif(ax1.length:Int) !=(b1.length:Int)then
  (a4v n (ax1.length:Int) (b1.length:Int)).bind fun v1=>
  some v1
 else
  big_compare_L1 n ax1 b1 (
   some 0) n (isub .i64 (ax1.length:Int) 1)
theorem ent169:Ent Tryz.prog 169:=fun _ _=>by kernel_rfl
def b1v(n:Nat)(ax1:Big)(b1:Big):Option Int:=
 (a2x n ax1).bind fun v1=>
 (bif !v1 then
  some true
 else
  (a2x n b1).bind fun v5=>
  some (!v5)).bind fun v2=>
 bif v2 then
  some 0
 else
  bif ax1.Sign !=b1.Sign then
   (a4v n ax1.Sign b1.Sign).bind fun v3=>
   some v3
  else
   (a6l n ax1.Digits b1.Digits).bind fun v4=>
   some (imul .i64 ax1.Sign v4)
theorem ap28:AppIs Tryz.prog 28 3 1 8:=AppIs.of (z:= .int .i64 0) (by kernel_rfl) (by kernel_rfl) rfl (by decide) (by decide)
def a0u(_n:Nat)(s1:(List Int)):Option (List Int):=app 8 [] s1
theorem a9o(n:Nat)(s1:(List Int))(r:(List Int))(hm:a0u n s1=some r){w:World}{F:Frz}(hs:Sat F w){g:Option Addr}{j:Nat}{k:Nat}(l:SlR (Rp.int .i64) F g j k s1):
 Calls Tryz.prog 110 #[.slice g j k] w fun e w'=>∃v F' O',e= .returned v/\HS F w [] F' O' w'/\(∃(a0_0:Option Addr)(n0_0:Nat)(c0_0:Nat)(xs0_0:List Value),v= .slice a0_0 n0_0 c0_0/\O'= [.row 3 1 a0_0 n0_0 c0_0 xs0_0]/\RowN (Rp.int .i64) F' n0_0 xs0_0 r):=by
 unfold a0u at hm
 have h:=HS.init hs
 refine a1v (args:= [.slice g j k]) 8 Tryz.func110 Y Y Y (a0f (a0a (a0c Y Y Y (a0e (a0d (a0f (a0f (a0a (a0b Y Y Y (e0d u28 Y Y Y (a0e (a0d ?_))))))))))))
 cases g with
 |none=>
  have h0:s1= []:=by
   rcases l.2.2.2 with h0|⟨_,_,_,h0,_⟩
   ·exact h0
   ·cases h0
  subst h0
  simp only [app,List.length_nil,Nat.add_zero,Nat.zero_mul,Nat.zero_le,if_true,List.append_nil,Option.some.injEq]at hm
  subst hm
  refine a1l Y (a0f (a0a (a0c Y Y Y (a0e (a0d (a3b (a0l (a6z Y Y ?_))))))))
  exact⟨_,_,_,Y,h.nilRow 3 1,none,0,0,[],Y,Y,Y,Y⟩
 |some ad=>
  refine a0q Y (a1y (a0d (a0f (a0a (a0i (e:=3) (cs:= []) (q:=1) Y Y h Y (fun _=>by kernel_rfl) Y Y ?_)))))
  intro b1 w1 h1
  refine a0b Y Y Y (b8g (r:=(Rp.int .i64)) ap28 Y Y Y h1 Y Y (i:=0) Y (show RowN (Rp.int .i64) _ 0 [] []from⟨Y,Y⟩) l hm ?_)
  intro a2 c2 w2 xs2 h2 m
  refine a0c Y Y Y (a0e (a0d (a3b (a6z Y Y ?_))))
  exact⟨_,_,_,Y,h2,a2,_,c2,xs2,Y,Y,m⟩
theorem ent110:Ent Tryz.prog 110:=fun _ _=>by kernel_rfl
def b2u(n:Nat)(ax1:Big):Option Big:=
 (a2x n ax1).bind fun v1=>
 bif !v1 then
  some (⟨0,[]⟩:Big)
 else
  (a0u n ax1.Digits).bind fun v2=>
  (a3x n (IntKind.i64.wrap (0-ax1.Sign)) v2).bind fun v3=>
  some v3
theorem zi3:(Tryz.prog.info? 3).map (·.zero)=some (some (.int .i64 0)):=by kernel_rfl
def big_add_L1(n:Nat)(ax2:(List Int))(b2:(List Int))(kont1:Int->(List Int)->Option (List Int)):Nat->Int->Int->(List Int)->Option (List Int)
 |0,_,_,_=>none
 |mx1+1,carry1,i1,l2=>
  bif decide (i1<(ax2.length:Int))then
   (ix ax2 i1).bind fun ex2=>
   (bif decide (i1<(b2.length:Int))then
    (ix b2 i1).bind fun ex4=>
    some (iadd .i64 (iadd .i64 carry1 ex2) ex4)
   else
    some (iadd .i64 carry1 ex2)).bind fun carry3=>
   (ix l2 i1).bind fun _=>
   (lset l2 i1 (iand .i64 carry3 1048575)).bind fun l5=>
   (shr .i64 carry3 20).bind fun q1=>
   big_add_L1 n ax2 b2 kont1 mx1 q1 (iadd .i64 i1 1) l5
  else
   kont1 carry1 l2
theorem big_add_L1_s:type_of% @big_add_L1.eq_2:= @big_add_L1.eq_2
def b6x(n:Nat)(ax1:(List Int))(b1:(List Int)):Option (List Int):=
 (bif decide ((ax1.length:Int)<(b1.length:Int))then
  some (b1,ax1)
 else
  some (ax1,b1)).bind fun(ax2,b2)=>
 (mks 8 0 (iadd .i64 (ax2.length:Int) 1)).bind fun l1=>
 big_add_L1 n ax2 b2 (fun(carry2:Int)(l3:List Int)=>
  (ix l3 (ax2.length:Int)).bind fun _=>
  (lset l3 (ax2.length:Int) carry2).bind fun l4=>
  (a2r n l4).bind fun v1=>
  some v1) n 0 0 l1
def big_sub_L1(n:Nat)(b1:(List Int))(v1:(List Int))(kont1:(List Int)->Option (List Int)):Nat->Int->Int->(List Int)->Option (List Int)
 |0,_,_,_=>none
 |mx1+1,borrow1,i1,l1=>
  bif decide (i1<(v1.length:Int))then
   (ix l1 i1).bind fun ex1=>
   (bif decide (i1<(b1.length:Int))then
    (ix b1 i1).bind fun ex3=>
    some (isub .i64 (isub .i64 ex1 borrow1) ex3)
   else
    some (isub .i64 ex1 borrow1)).bind fun nx1=>
   (shr .i64 nx1 20).bind fun q1=>
   (ix l1 i1).bind fun _=>
   (lset l1 i1 (iand .i64 nx1 1048575)).bind fun l3=>
   big_sub_L1 n b1 v1 kont1 mx1 (iand .i64 q1 1) (iadd .i64 i1 1) l3
  else
   kont1 l1
theorem big_sub_L1_s:type_of% @big_sub_L1.eq_2:= @big_sub_L1.eq_2
def b5k(n:Nat)(ax1:(List Int))(b1:(List Int)):Option (List Int):=
 (a0u n ax1).bind fun v1=>
 big_sub_L1 n b1 v1 (fun(l2:List Int)=>
  (a2r n l2).bind fun v2=>
  some v2) n 0 0 v1
def big_mul_L2(n:Nat)(b1:(List Int))(i1:Int)(ex1:Int)(kont2:Int->(List Int)->Option (List Int)):Nat->Int->Int->(List Int)->Option (List Int)
 |0,_,_,_=>none
 |mx2+1,carry1,i2,l4=>
  bif decide (i2<(b1.length:Int))then
   (ix b1 i2).bind fun ex4=>
   (ix l4 (iadd .i64 i1 i2)).bind fun ex5=>
   (shr .i64 (iadd .i64 (iadd .i64 ex5 (imul .i64 ex1 ex4)) carry1) 20).bind fun q1=>
   (ix l4 (iadd .i64 i1 i2)).bind fun _=>
   (lset l4 (iadd .i64 i1 i2) (iand .i64 (iadd .i64 (iadd .i64 ex5 (imul .i64 ex1 ex4)) carry1) 1048575)).bind fun l7=>
   big_mul_L2 n b1 i1 ex1 kont2 mx2 q1 (iadd .i64 i2 1) l7
  else
   kont2 carry1 l4
theorem big_mul_L2_s:type_of% @big_mul_L2.eq_2:= @big_mul_L2.eq_2
def big_mul_L1(n:Nat)(ax1:(List Int))(b1:(List Int))(kont1:(List Int)->Option (List Int)):Nat->Int->(List Int)->Option (List Int)
 |0,_,_=>none
 |mx1+1,i1,l2=>
  bif decide (i1<(ax1.length:Int))then
   (ix ax1 i1).bind fun ex1=>
   big_mul_L2 n b1 i1 ex1 (fun(carry2:Int)(l5:List Int)=>
    (ix l5 (iadd .i64 i1 (b1.length:Int))).bind fun ex2=>
    (ix l5 (iadd .i64 i1 (b1.length:Int))).bind fun _=>
    (lset l5 (iadd .i64 i1 (b1.length:Int)) (iadd .i64 ex2 carry2)).bind fun l6=>
    big_mul_L1 n ax1 b1 kont1 mx1 (iadd .i64 i1 1) l6) n 0 0 l2
  else
   kont1 l2
theorem big_mul_L1_s:type_of% @big_mul_L1.eq_2:= @big_mul_L1.eq_2
def b0v(n:Nat)(ax1:(List Int))(b1:(List Int)):Option (List Int):=
 (mks 8 0 (iadd .i64 (ax1.length:Int) (b1.length:Int))).bind fun l1=>
 big_mul_L1 n ax1 b1 (fun(l3:List Int)=>
  (a2r n l3).bind fun v1=>
  some v1) n 0 l1
theorem c4i(n:Nat)(ax1:(List Int))(b1:(List Int))(r:(List Int))(hm:b0v n ax1 b1=some r){w:World}{F:Frz}(hs:Sat F w){J t:Option Addr}{L i u g:Nat}(g6:SlR (Rp.int .i64) F J L i ax1)(R:SlR (Rp.int .i64) F t u g b1):
 Calls Tryz.prog 207 #[.slice J L i,.slice t u g] w fun e w'=>∃v F' O',e= .returned v/\HS F w [] F' O' w'/\(∃(a0_0:Option Addr)(n0_0:Nat)(c0_0:Nat)(xs0_0:List Value),v= .slice a0_0 n0_0 c0_0/\O'= [.row 3 1 a0_0 n0_0 c0_0 xs0_0]/\RowN (Rp.int .i64) F' n0_0 xs0_0 r):=by
 unfold b0v at hm
 have h:=HS.init hs
 refine a1v 67 Tryz.func207 Y Y Y (a0f (a0a (a0c Y Y Y (a0e (a0d (a0f (a0a (a0b Y Y Y (a6c g6.len u28 Y Y Y (a0b Y Y Y (a6c R.len u28 Y Y Y (a0n Y Y Y Y Y ?_))))))))))))
 obtain⟨l1,gs,hm⟩:=Yb hm
 refine d1e (r:=(Rp.int .i64)) ap28 zi3 (fun _=>Y) Y Y Y h Y Y gs ?_
 intro b2 hq xs1 gt gu
 refine a0c Y Y Y (a0e (a0d (a0f (a0f (a0a (a0b Y Y Y (a6c g6.len u28 Y Y Y (a0b Y Y Y (a0e (a0d (a2c ?_)))))))))))
 intro a gc
 obtain⟨kont1,hkont1⟩:∃kont1:(List Int)->Option (List Int),kont1=(fun(l3:List Int)=>(a2r n l3).bind fun v1=>some v1):=⟨_,Y⟩
 replace hm:(fun m(s:Int×List Int)=>big_mul_L1 n ax1 b1 kont1 m s.1 s.2) n (0,l1)=some r:=by rw [hkont1];exact hm
 refine b5h (id:=0) (fun m(s:Int×List Int)=>big_mul_L1 n ax1 b1 kont1 m s.1 s.2) (fun(y:List Int)=>kont1 y) r (fun(s:Int×List Int)a w'=>∃(x:Frz)(M:Option Addr)(z:Nat)(o:Nat)(xss3:List Value),Frz.le F x/\HS F w [] x [.row 3 1 M z o xss3] w'/\(RowN (Rp.int .i64) x z xss3 s.2)/\Has 67 a [(1,.slice t u g),(5,.slice M z o),(18,.slice J L i),(19,.int .i64 (ax1.length:Int)),(20,.int .i64 s.1)]) (fun(y:List Int)a w'=>∃(T:Frz)(U:Option Addr)(V:Nat)(G:Nat)(xss4:List Value),Frz.le F T/\HS F w [] T [.row 3 1 U V G xss4] w'/\(RowN (Rp.int .i64) T V xss4 y)/\Has 67 a [(5,.slice U V G)]) (fun _=>Y) ?_ ?_ hm ⟨_,(some ⟨b2,0,none⟩),((iadd .i64 (ax1.length:Int) (b1.length:Int)).toNat),((iadd .i64 (ax1.length:Int) (b1.length:Int)).toNat),xs1,Yf,gt.Yp [0] Y Y,gu,gc.cut (l:= [1,5,18,19,20]) Y⟩
 clear hm;rintro l3 a hr hm ⟨T,U,V,G,xss4,ht,gd,ge,gi⟩
 rw [hkont1]at hm
 replace hm:=hm
 refine a5a (e:= .exit 0) gi (a2m (a0d (a0f (a0a (a0b Y Y Y ?_)))))
 obtain⟨v1,gv,hm⟩:=Yb hm
 refine c3o ent191 Y Y Y Y (b1u _ _ _ gv (b8c _) (gd.viewRow (p:=0) Y Y ge)) ?_
 intro gf hles5 hvs5
 obtain⟨gw,gg⟩:=gd.cutN (p:=0) Y ge hles5
 rw [<-hvs5]at gg
 refine a0c Y Y Y (a0e (a0d (a3b (a6z Y Y ?_))))
 obtain rfl:=Yo hm
 exact⟨_,_,_,Y,gw.Yp [0] Y Y,U,gf,G,(xss4.take (gf*((Rp.int .i64)).k)),Y,Y,gg⟩
 clear hm hkont1;intro hk1 mx1 K ihx1
 rintro⟨i1,l2⟩ a hu hm ⟨x,M,z,o,xss3,Z,g7,gh,gj⟩
 simp only [big_mul_L1_s]at hm
 refine a2a gj (a0f (a0a (a0n Y Y Y Y Y (a0e (a0d (a0f ?_))))))
 rcases a0g hm with⟨g8,hm⟩|⟨g8,hm⟩
 refine a0v 21 Y g8 (a1l Y (a1y (a0d (a0f (a2c (a0f (a0a (a0b Y Y Y ?_))))))))
 obtain⟨ex1,gx,hm⟩:=Yb hm
 refine a9j (r:=(Rp.int .i64)) u28 sz3 Y Y Y Y (g6.mono Z) gx ?_
 intro b3 o1 i gy gz
 have h0:i= [.int .i64 ex1]:=gz
 subst h0
 refine a6k (j:=0) ag3 Y Y g7 gy Y Y (a0c Y Y Y (a0c Y Y Y (a0e (a0d (a0f (a0a (a0c Y Y Y (a0e (a0d (a0f (a0f (a0a (a0b Y Y Y (a6c R.len u28 Y Y Y (a0b Y Y Y (a0e (a0d (a2c ?_))))))))))))))))))
 intro a gk
 obtain⟨kont2,hkont2⟩:∃kont2:Int->(List Int)->Option (List Int),kont2=(fun(carry2:Int)(l5:List Int)=>(ix l5 (iadd .i64 i1 (b1.length:Int))).bind fun ex2=>(ix l5 (iadd .i64 i1 (b1.length:Int))).bind fun ex3=>(lset l5 (iadd .i64 i1 (b1.length:Int)) (iadd .i64 ex2 carry2)).bind fun l6=>big_mul_L1 n ax1 b1 kont1 mx1 (iadd .i64 i1 1) l6):=⟨_,Y⟩
 replace hm:(fun m(s:Int×Int×List Int)=>big_mul_L2 n b1 i1 ex1 kont2 m s.1 s.2.1 s.2.2) n (0,0,l2)=some r:=by rw [hkont2];exact hm
 refine b5h (id:=2) (fun m(s:Int×Int×List Int)=>big_mul_L2 n b1 i1 ex1 kont2 m s.1 s.2.1 s.2.2) (fun(y:Int×List Int)=>kont2 y.1 y.2) r (fun(s:Int×Int×List Int)a w'=>∃(g0:Frz)(N:Option Addr)(H:Nat)(q:Nat)(xss6:List Value),Frz.le x g0/\HS F w [] g0 [.row 3 1 N H q xss6] w'/\(RowN (Rp.int .i64) g0 H xss6 s.2.2)/\Has 67 a [(1,.slice t u g),(5,.slice N H q),(6,.int .i64 i1),(7,.int .i64 ex1),(8,.int .i64 s.1),(18,.slice J L i),(19,.int .i64 (ax1.length:Int)),(20,.int .i64 i1),(25,.slice t u g),(26,.int .i64 (b1.length:Int)),(27,.int .i64 s.2.1)]) (fun(y:Int×List Int)a w'=>∃(g1:Frz)(g2:Option Addr)(Q:Nat)(g3:Nat)(xss7:List Value),Frz.le x g1/\HS F w [] g1 [.row 3 1 g2 Q g3 xss7] w'/\(RowN (Rp.int .i64) g1 Q xss7 y.2)/\Has 67 a [(1,.slice t u g),(5,.slice g2 Q g3),(6,.int .i64 i1),(8,.int .i64 y.1),(18,.slice J L i),(19,.int .i64 (ax1.length:Int)),(20,.int .i64 i1)]) (fun _=>Y) ?_ ?_ hm ⟨_,M,z,o,xss3,Yf,g7.Yp [0] Y Y,gh,gk.cut (l:= [1,5,6,7,8,18,19,20,25,26,27]) Y⟩
 clear hm;rintro⟨carry2,l5⟩ a hv hm ⟨g1,g2,Q,g3,xss7,h1,g4,g9,gl⟩
 rw [hkont2]at hm
 replace hm:=hm
 refine a5a (e:= .exit 2) gl (a2m (a0d (a0a (a0b Y Y Y (a0b Y Y Y (a0b Y Y Y (a6c R.len u28 Y Y Y (a0n Y Y Y Y Y ?_))))))))
 obtain⟨ex2,h2,hm⟩:=Yb hm
 refine b0i (r:=(Rp.int .i64)) u28 sz3 Y Y g4 Y Y (p:=0) Y Y g9 h2 ?_
 intro b4 o2 g gm ho1 h3 hp1
 have h4:g= [.int .i64 ex2]:=h3
 subst h4
 refine b3z (j:=0) ag3 Y Y g4 Y (p:=0) Y Y gm ho1 hp1 Y (a0b Y Y Y (a0n Y Y Y Y Y ?_))
 obtain⟨ex3,h5,hm⟩:=Yb hm
 refine b0i (r:=(Rp.int .i64)) u28 sz3 Y Y g4 Y Y (p:=0) Y Y g9 h5 ?_
 intro b5 o3 o gn ho2 h6 hp2
 have h7:o= [.int .i64 ex3]:=h6
 subst h7
 obtain⟨l6,h8,hm⟩:=Yb hm
 refine b3b (r:=(Rp.int .i64)) sz3 Y g4 Y Y Y Y Y (p:=0) Y Y gn ho2 g9 Y Y h8 ?_
 intro hw xs2 h9 hb
 refine a0e (a3v (a0d (a0a (a0n Y Y Y Y Y (a0b Y Y Y (a0e (a0k (fun a ha=>ihx1 ((iadd .i64 i1 1),l6) a _ hm ?_))))))))
 exact⟨_,g2,Q,g3,xs2,(Z.trans h1),h9.Yp [0] Y Y,hb,ha.cut (l:= [1,5,18,19,20]) Y⟩
 clear hm hkont2;intro hk2 mx2 K ihx2
 rintro⟨carry1,i2,l4⟩ a hx hm ⟨g0,N,H,q,xss6,ga,I,g5,go⟩
 simp only [big_mul_L2_s]at hm
 refine a2a go (a0f (a0a (a0n Y Y Y Y Y (a0e (a0d (a0f ?_))))))
 rcases a0g hm with⟨gb,hm⟩|⟨gb,hm⟩
 refine a0v 28 Y gb (a1l Y (a1y (a0d (a0f (a2c (a0f (a0a (a0b Y Y Y ?_))))))))
 obtain⟨ex4,hc,hm⟩:=Yb hm
 refine a9j (r:=(Rp.int .i64)) u28 sz3 Y Y Y Y ((R.mono Z).mono ga) hc ?_
 intro b6 o4 G hd he
 have hf:G= [.int .i64 ex4]:=he
 subst hf
 refine a6k (j:=0) ag3 Y Y I hd Y Y (a0c Y Y Y (a0c Y Y Y (a0e (a0d (a0f (a0a (a0b Y Y Y (a0b Y Y Y (a0b Y Y Y (a0n Y Y Y Y Y ?_))))))))))
 obtain⟨ex5,hg,hm⟩:=Yb hm
 refine b0i (r:=(Rp.int .i64)) u28 sz3 Y Y I Y Y (p:=0) Y Y g5 hg ?_
 intro b7 o5 hh gp ho3 hi hp3
 have hj:hh= [.int .i64 ex5]:=hi
 subst hj
 refine b3z (j:=0) ag3 Y Y I Y (p:=0) Y Y gp ho3 hp3 Y (a0b Y Y Y (a0b Y Y Y (a0n Y Y Y Y Y (a0n Y Y Y Y Y (a0b Y Y Y (a0n Y Y Y Y Y (a0c Y Y Y (a0e (a0d (a0a (a0b Y Y Y (a0b Y Y Y (a0b Y Y Y ?_)))))))))))))
 refine a0n Y Y Y Y Y (a0b Y Y Y (a0n Y Y Y Y Y (a0b Y Y Y ?_)))
 obtain⟨q1,hq1,hm⟩:=Yb hm
 refine e3f Y Y Y Y hq1 ?_
 obtain⟨ex6,hk,hm⟩:=Yb hm
 refine b0i (r:=(Rp.int .i64)) u28 sz3 Y Y I Y Y (p:=0) Y Y g5 hk ?_
 intro b8 o6 q gq ho4 hl hp4
 have hn:q= [.int .i64 ex6]:=hl
 subst hn
 obtain⟨l7,ho,hm⟩:=Yb hm
 refine b3b (r:=(Rp.int .i64)) sz3 Y I Y Y Y Y Y (p:=0) Y Y gq ho4 g5 Y Y ho ?_
 intro hy xs3 hp gr
 refine a0c Y Y Y (a0e (a3v (a0d (a0a (a0n Y Y Y Y Y (a0b Y Y Y (a0e (a0k (fun a ha=>ihx2 (q1,(iadd .i64 i2 1),l7) a _ hm ?_)))))))))
 exact⟨_,N,H,q,xs3,ga,hp.Yp [0] Y Y,gr,ha.cut (l:= [1,5,6,7,8,18,19,20,25,26,27]) Y⟩
 refine a0v 28 Y gb (a0q Y (a9q (a0p (a0p (fun a ha=>hk2 (carry1,l4) a _ hm ?_)))))
 exact⟨_,N,H,q,xss6,ga,I.Yp [0] Y Y,g5,ha.cut (l:= [1,5,6,8,18,19,20]) Y⟩
 refine a0v 21 Y g8 (a0q Y (a9q (a0p (a0p (fun a ha=>hk1 l2 a _ hm ?_)))))
 exact⟨_,M,z,o,xss3,Z,g7.Yp [0] Y Y,gh,ha.cut (l:= [5]) Y⟩
def big_short_L1(n:Nat)(ax1:(List Int))(d1:Int)(kont1:Int->(List Int)->Option ((List Int)×Int)):Nat->Int->Int->(List Int)->Option ((List Int)×Int)
 |0,_,_,_=>none
 |mx1+1,rx1,i1,l2=>
  bif decide (0<=i1)then
   (shl .i64 rx1 20).bind fun q1=>
   (ix ax1 i1).bind fun ex1=>
   (quo .i64 (ior .i64 q1 ex1) d1).bind fun q2=>
   (ix l2 i1).bind fun _=>
   (lset l2 i1 q2).bind fun l4=>
   (rem (ior .i64 q1 ex1) d1).bind fun q3=>
   big_short_L1 n ax1 d1 kont1 mx1 q3 (isub .i64 i1 1) l4
  else
   kont1 rx1 l2
theorem big_short_L1_s:type_of% @big_short_L1.eq_2:= @big_short_L1.eq_2
def a8b(n:Nat)(ax1:(List Int))(d1:Int):Option ((List Int)×Int):=
 (mks 8 0 (ax1.length:Int)).bind fun l1=>
 big_short_L1 n ax1 d1 (fun(rx2:Int)(l3:List Int)=>
  (a2r n l3).bind fun v1=>
  some (v1,rx2)) n 0 (isub .i64 (ax1.length:Int) 1) l1
theorem c0c(n:Nat)(ax1:(List Int))(d1:Int)(r:((List Int)×Int))(hm:a8b n ax1 d1=some r){w:World}{F:Frz}(hs:Sat F w){I:Option Addr}{J:Nat}{o:Nat}(L:SlR (Rp.int .i64) F I J o ax1):
 Calls Tryz.prog 206 #[.slice I J o,.int .i64 d1] w fun e w'=>∃v F' O',e= .returned v/\HS F w [] F' O' w'/\(∃(a0_0:Option Addr)(n0_0:Nat)(c0_0:Nat)(xs0_0:List Value),v= .tuple #[.slice a0_0 n0_0 c0_0,.int .i64 r.2]/\O'= [.row 3 1 a0_0 n0_0 c0_0 xs0_0]/\RowN (Rp.int .i64) F' n0_0 xs0_0 r.1):=by
 unfold a8b at hm
 have h:=HS.init hs
 refine a1v 38 Tryz.func206 Y Y Y (a0f (a0a (a0c Y Y Y (a0c Y Y Y (a0e (a0d (a0f (a0a (a0b Y Y Y (a6c L.len u28 Y Y Y ?_))))))))))
 obtain⟨l1,g3,hm⟩:=Yb hm
 refine d1e (r:=(Rp.int .i64)) ap28 zi3 (fun _=>Y) Y Y Y h Y Y g3 ?_
 intro b1 gi xs1 g4 g5
 refine a0c Y Y Y (a0e (a0d (a0f (a0a (a0c Y Y Y (a0e (a0d (a0f (a0f (a0a (a0b Y Y Y (a6c L.len u28 Y Y Y (a0n Y Y Y Y Y (a0c Y Y Y (a0e (a0d (a2c ?_)))))))))))))))))
 intro a Z
 obtain⟨kont1,hkont1⟩:∃kont1:Int->(List Int)->Option ((List Int)×Int),kont1=(fun(rx2:Int)(l3:List Int)=>(a2r n l3).bind fun v1=>some (v1,rx2)):=⟨_,Y⟩
 replace hm:(fun m(s:Int×Int×List Int)=>big_short_L1 n ax1 d1 kont1 m s.1 s.2.1 s.2.2) n (0,(isub .i64 (ax1.length:Int) 1),l1)=some r:=by rw [hkont1];exact hm
 refine b5h (id:=0) (fun m(s:Int×Int×List Int)=>big_short_L1 n ax1 d1 kont1 m s.1 s.2.1 s.2.2) (fun(y:Int×List Int)=>kont1 y.1 y.2) r (fun(s:Int×Int×List Int)a w'=>∃(x:Frz)(q:Option Addr)(i:Nat)(g:Nat)(xss2:List Value),Frz.le F x/\HS F w [] x [.row 3 1 q i g xss2] w'/\(RowN (Rp.int .i64) x i xss2 s.2.2)/\Has 38 a [(0,.slice I J o),(1,.int .i64 d1),(6,.slice q i g),(7,.int .i64 s.1),(8,.int .i64 s.2.1)]) (fun(y:Int×List Int)a w'=>∃(z:Frz)(t:Option Addr)(G:Nat)(u:Nat)(xss3:List Value),Frz.le F z/\HS F w [] z [.row 3 1 t G u xss3] w'/\(RowN (Rp.int .i64) z G xss3 y.2)/\Has 38 a [(6,.slice t G u),(7,.int .i64 y.1)]) (fun _=>Y) ?_ ?_ hm ⟨_,(some ⟨b1,0,none⟩),((ax1.length:Int).toNat),((ax1.length:Int).toNat),xs1,Yf,g4.Yp [0] Y Y,g5,Z.cut (l:= [0,1,6,7,8]) Y⟩
 clear hm;rintro⟨rx2,l3⟩ a gj hm ⟨z,t,G,u,xss3,gk,T,U,g0⟩
 rw [hkont1]at hm
 replace hm:=hm
 refine a5a (e:= .exit 0) g0 (a2m (a0d (a0f (a0a (a0b Y Y Y ?_)))))
 obtain⟨v1,g6,hm⟩:=Yb hm
 refine c3o ent191 Y Y Y Y (b1u _ _ _ g6 (b8c _) (T.viewRow (p:=0) Y Y U)) ?_
 intro M hles4 hvs4
 obtain⟨g7,V⟩:=T.cutN (p:=0) Y U hles4
 rw [<-hvs4]at V
 refine a0b Y Y Y (a0c Y Y Y (a0c Y Y Y (a0e (a0d (a3b (a6h (vl:= [.slice t M u,.int .i64 rx2]) Y ⟨a3u Y,a3u Y,trivial⟩ (by simp) ?_))))))
 obtain rfl:=Yo hm
 exact⟨_,_,_,Y,g7.Yp [0] Y Y,t,M,u,(xss3.take (M*((Rp.int .i64)).k)),Y,Y,V⟩
 clear hm hkont1;intro hk1 mx1 K ihx1
 rintro⟨rx1,i1,l2⟩ a gl hm ⟨x,q,i,g,xss2,N,H,Q,g1⟩
 simp only [big_short_L1_s]at hm
 refine a2a g1 (a0f (a0f (a0a (a0b Y Y Y (a0n Y Y Y Y Y (a0e (a0d ?_)))))))
 rcases a0g hm with⟨R,hm⟩|⟨R,hm⟩
 refine a0v 16 Y R (a1l Y (a1y (a0d (a0f (a2c (a0f (a0a (a0b Y Y Y ?_))))))))
 obtain⟨q1,hq1,hm⟩:=Yb hm
 refine e2g Y Y Y Y hq1 (a0b Y Y Y (a0b Y Y Y ?_))
 obtain⟨ex1,g8,hm⟩:=Yb hm
 refine a9j (r:=(Rp.int .i64)) u28 sz3 Y Y Y Y (L.mono N) g8 ?_
 intro b2 o1 o g9 ga
 have gb:o= [.int .i64 ex1]:=ga
 subst gb
 refine a6k (j:=0) ag3 Y Y H g9 Y Y (a0n Y Y Y Y Y (a0c Y Y Y (a0e (a0d (a0f (a0a (a0b Y Y Y (a0b Y Y Y (a0b Y Y Y (a0b Y Y Y ?_))))))))))
 obtain⟨q2,hq2,hm⟩:=Yb hm
 refine e4i Y Y Y Y hq2 ?_
 obtain⟨ex2,gc,hm⟩:=Yb hm
 refine b0i (r:=(Rp.int .i64)) u28 sz3 Y Y H Y Y (p:=0) Y Y Q gc ?_
 intro b3 o2 g g2 ho1 gd hp1
 have ge:g= [.int .i64 ex2]:=gd
 subst ge
 obtain⟨l4,gf,hm⟩:=Yb hm
 refine b3b (r:=(Rp.int .i64)) sz3 Y H Y Y Y Y Y (p:=0) Y Y g2 ho1 Q Y Y gf ?_
 intro gm xs2 gg gh
 refine a0e (a0d (a0a (a0b Y Y Y (a0b Y Y Y ?_))))
 obtain⟨q3,hq3,hm⟩:=Yb hm
 refine e4o Y Y Y Y hq3 (a0c Y Y Y (a0e (a3v (a0d (a0a (a0b Y Y Y (a0n Y Y Y Y Y (a0c Y Y Y (a0e (a0k (fun a ha=>ihx1 (q3,(isub .i64 i1 1),l4) a _ hm ?_)))))))))))
 exact⟨_,q,i,g,xs2,N,gg.Yp [0] Y Y,gh,ha.cut (l:= [0,1,6,7,8]) Y⟩
 refine a0v 16 Y R (a0q Y (a9q (a0p (a0p (fun a ha=>hk1 (rx1,l2) a _ hm ?_)))))
 exact⟨_,q,i,g,xss2,N,H.Yp [0] Y Y,Q,ha.cut (l:= [6,7]) Y⟩
def big_settle_L2(n:Nat)(v1:(List Int))(l2:List Int)(kont1:(List Int)->Option ((List Int)×Int)):Nat->Int->Int->(List Int)->Option ((List Int)×Int)
 |0,_,_,_=>none
 |mx1+1,carry1,i2,l3=>
  bif decide (i2<(l2.length:Int))then
   (ix l3 i2).bind fun ex1=>
   (bif decide (i2<(v1.length:Int))then
    (ix v1 i2).bind fun ex3=>
    some (iadd .i64 (iadd .i64 carry1 ex1) ex3)
   else
    some (iadd .i64 carry1 ex1)).bind fun carry2=>
   (ix l3 i2).bind fun _=>
   (lset l3 i2 (iand .i64 carry2 1048575)).bind fun l5=>
   (shr .i64 carry2 20).bind fun q1=>
   big_settle_L2 n v1 l2 kont1 mx1 q1 (iadd .i64 i2 1) l5
  else
   kont1 l3
theorem big_settle_L2_s:type_of% @big_settle_L2.eq_2:= @big_settle_L2.eq_2
def big_settle_L1(n:Nat)(u1:(List Int))(v1:(List Int))(guess1:Int)(kont2:Int->(List Int)->Option ((List Int)×Int)):Nat->Int->Int->(List Int)->Option ((List Int)×Int)
 |0,_,_,_=>none
 |mx2+1,borrow1,i1,l1=>
  bif decide (i1<(u1.length:Int))then
   (ix l1 i1).bind fun ex4=>
   (bif decide (i1<(v1.length:Int))then
    (ix v1 i1).bind fun ex6=>
    some (isub .i64 (isub .i64 ex4 borrow1) (imul .i64 guess1 ex6))
   else
    some (isub .i64 ex4 borrow1)).bind fun nx1=>
   (ix l1 i1).bind fun _=>
   (lset l1 i1 (iand .i64 nx1 1048575)).bind fun l6=>
   (shr .i64 nx1 20).bind fun q2=>
   big_settle_L1 n u1 v1 guess1 kont2 mx2 (IntKind.i64.wrap (0-q2)) (iadd .i64 i1 1) l6
  else
   kont2 borrow1 l1
theorem big_settle_L1_s:type_of% @big_settle_L1.eq_2:= @big_settle_L1.eq_2
def b0c(n:Nat)(u1:(List Int))(v1:(List Int))(guess1:Int):Option ((List Int)×Int):=
 big_settle_L1 n u1 v1 guess1 (fun(borrow2:Int)(l2:List Int)=>
  bif borrow2==0 then
   some (l2,guess1)
  else
   big_settle_L2 n v1 l2 (fun(l4:List Int)=>
    some (l4,isub .i64 guess1 1)) n 0 0 l2) n 0 0 u1
theorem c5o(n:Nat)(u1:(List Int))(v1:(List Int))(guess1:Int)(r:((List Int)×Int))(hm:b0c n u1 v1 guess1=some r){w:World}{F:Frz}(hs:Sat F w){au1:Option Addr}{nu1:Nat}{cu1:Nat}{preu1 xsu1 postu1:List Value}{i:Option Addr}{k:Nat}{g:Nat}(hbu1:(OE.win 3 1 au1 nu1 cu1 preu1 xsu1 postu1).ok w)(hfu1:∀b,(OE.win 3 1 au1 nu1 cu1 preu1 xsu1 postu1).blk=some b->F b=none)(hru1:RowN (Rp.int .i64) F nu1 xsu1 u1)(z:SlR (Rp.int .i64) F i k g v1):
 Calls Tryz.prog 208 #[.slice au1 nu1 cu1,.slice i k g,.int .i64 guess1] w fun e w'=>∃v F' xs' O',e= .returned v/\HS F w (blks (OE.win 3 1 au1 nu1 cu1 preu1 xsu1 postu1)) F' (.win 3 1 au1 nu1 cu1 preu1 xs' postu1::O') w'/\(v= .int .i64 r.2/\O'= []/\RowN (Rp.int .i64) F' nu1 xs' r.1):=by
 unfold b0c at hm
 have h:=HS.lendE hs hbu1 hfu1
 refine a1v 78 Tryz.func208 Y Y Y (a0f (a0a (a0c Y Y Y (a0e (a0d (a0f (a0a (a0c Y Y Y (a0e (a0d (a0f (a0f (a0a (a0b Y Y Y (a6c hru1.len u28 Y Y Y (a0b Y Y Y (a0e (a0d (a2c ?_)))))))))))))))))))
 intro a g0
 obtain⟨kont2,hkont2⟩:∃kont2:Int->(List Int)->Option ((List Int)×Int),kont2=(fun(borrow2:Int)(l2:List Int)=>bif borrow2==0 then some (l2,guess1)else big_settle_L2 n v1 l2 (fun(l4:List Int)=>some (l4,isub .i64 guess1 1)) n 0 0 l2):=⟨_,Y⟩
 replace hm:(fun m(s:Int×Int×List Int)=>big_settle_L1 n u1 v1 guess1 kont2 m s.1 s.2.1 s.2.2) n (0,0,u1)=some r:=by rw [hkont2];exact hm
 refine b5h (id:=0) (fun m(s:Int×Int×List Int)=>big_settle_L1 n u1 v1 guess1 kont2 m s.1 s.2.1 s.2.2) (fun(y:Int×List Int)=>kont2 y.1 y.2) r (fun(s:Int×Int×List Int)a w'=>∃(G:Frz)(xss2:List Value),Frz.le F G/\HS F w (blks (OE.win 3 1 au1 nu1 cu1 preu1 xsu1 postu1)) G [.win 3 1 au1 nu1 cu1 preu1 xss2 postu1] w'/\(RowN (Rp.int .i64) G nu1 xss2 s.2.2)/\Has 78 a [(0,.slice au1 nu1 cu1),(1,.slice i k g),(2,.int .i64 guess1),(7,.int .i64 s.1),(13,.int .i64 (u1.length:Int)),(14,.int .i64 s.2.1)]) (fun(y:Int×List Int)a w'=>∃(t:Frz)(xss3:List Value),Frz.le F t/\HS F w (blks (OE.win 3 1 au1 nu1 cu1 preu1 xsu1 postu1)) t [.win 3 1 au1 nu1 cu1 preu1 xss3 postu1] w'/\(RowN (Rp.int .i64) t nu1 xss3 y.2)/\Has 78 a [(0,.slice au1 nu1 cu1),(1,.slice i k g),(2,.int .i64 guess1),(7,.int .i64 y.1)]) (fun _=>Y) ?_ ?_ hm ⟨_,xsu1,Yf,h.Yp [0] Y Y,hru1,g0.cut (l:= [0,1,2,7,13,14]) Y⟩
 clear hm;rintro⟨borrow2,l2⟩ a he hm ⟨t,xss3,gd,g3,M,g4⟩
 rw [hkont2]at hm
 replace hm:=hm
 refine a5a (e:= .exit 0) g4 (a2m (a0d (a0f (a0f (a0a (a0b Y Y Y (a0n Y Y Y Y Y (a0e (a0d ?_)))))))))
 rcases a0g hm with⟨N,hm⟩|⟨N,hm⟩
 refine a0v 45 Y N (a1l Y (a0f (a0a (a0b Y Y Y (a0c Y Y Y (a0e (a0d (a3b (a0l (a6z Y Y ?_))))))))))
 obtain rfl:=Yo hm
 exact⟨_,_,_,_,Y,g3.Yp [0] Y Y,Y,Y,M⟩
 refine a0v 45 Y N (a0q Y (a1y (a0d (a0f (a0a (a0c Y Y Y (a0e (a0d (a0f (a0f (a0a (a0b Y Y Y (a6c M.len u28 Y Y Y (a0b Y Y Y (a0e (a0d (a2c ?_)))))))))))))))))
 intro a g5
 obtain⟨kont1,hkont1⟩:∃kont1:(List Int)->Option ((List Int)×Int),kont1=(fun(l4:List Int)=>some (l4,isub .i64 guess1 1)):=⟨_,Y⟩
 replace hm:(fun m(s:Int×Int×List Int)=>big_settle_L2 n v1 l2 kont1 m s.1 s.2.1 s.2.2) n (0,0,l2)=some r:=by rw [hkont1];exact hm
 refine b5h (id:=2) (fun m(s:Int×Int×List Int)=>big_settle_L2 n v1 l2 kont1 m s.1 s.2.1 s.2.2) (fun(y:List Int)=>kont1 y) r (fun(s:Int×Int×List Int)a w'=>∃(H:Frz)(xss4:List Value),Frz.le t H/\HS F w (blks (OE.win 3 1 au1 nu1 cu1 preu1 xsu1 postu1)) H [.win 3 1 au1 nu1 cu1 preu1 xss4 postu1] w'/\(RowN (Rp.int .i64) H nu1 xss4 s.2.2)/\Has 78 a [(0,.slice au1 nu1 cu1),(1,.slice i k g),(2,.int .i64 guess1),(10,.int .i64 s.1),(48,.int .i64 (l2.length:Int)),(49,.int .i64 s.2.1)]) (fun(y:List Int)a w'=>∃(I:Frz)(xss5:List Value),Frz.le t I/\HS F w (blks (OE.win 3 1 au1 nu1 cu1 preu1 xsu1 postu1)) I [.win 3 1 au1 nu1 cu1 preu1 xss5 postu1] w'/\(RowN (Rp.int .i64) I nu1 xss5 y)/\Has 78 a [(2,.int .i64 guess1)]) (fun _=>Y) ?_ ?_ hm ⟨_,xss3,Yf,g3.Yp [0] Y Y,M,g5.cut (l:= [0,1,2,10,48,49]) Y⟩
 clear hm;rintro l4 a hf hm ⟨I,xss5,hg,ge,gf,g6⟩
 rw [hkont1]at hm
 replace hm:=hm
 refine a5a (e:= .exit 2) g6 (a2m (a0d (a0f (a0a (a0b Y Y Y (a0n Y Y Y Y Y (a0c Y Y Y (a0e (a0d (a3b (a6z Y Y ?_)))))))))))
 obtain rfl:=Yo hm
 exact⟨_,_,_,_,Y,ge.Yp [0] Y Y,Y,Y,gf⟩
 clear hm hkont1;intro hk1 mx1 K ihx1
 rintro⟨carry1,i2,l3⟩ a gg hm ⟨H,xss4,Q,u,J,g7⟩
 simp only [big_settle_L2_s]at hm
 refine a2a g7 (a0f (a0a (a0n Y Y Y Y Y (a0e (a0d (a0f ?_))))))
 rcases a0g hm with⟨R,hm⟩|⟨R,hm⟩
 refine a0v 50 Y R (a1l Y (a1y (a0d (a0f (a2c (a0f (a0a (a0b Y Y Y (a0c Y Y Y (a0e (a0d (a0f (a0a (a0b Y Y Y (a0b Y Y Y (a0b Y Y Y ?_))))))))))))))))
 obtain⟨ex1,gh,hm⟩:=Yb hm
 refine b0i (r:=(Rp.int .i64)) u28 sz3 Y Y u Y Y (p:=0) Y Y J gh ?_
 intro b1 o1 g g8 ho1 gi hp1
 have gj:g= [.int .i64 ex1]:=gi
 subst gj
 refine b3z (j:=0) ag3 Y Y u Y (p:=0) Y Y g8 ho1 hp1 Y (a0n Y Y Y Y Y (a0c Y Y Y (a0e (a0d (a0f (a0f (a0a (a0b Y Y Y (a0b Y Y Y (a6c z.len u28 Y Y Y (a0n Y Y Y Y Y (a0e (a0d ?_)))))))))))))
 obtain⟨carry2,o,hm⟩:=Yb hm
 refine b5l (fun a w'=>gg=w'/\Has 78 a [(0,.slice au1 nu1 cu1),(1,.slice i k g),(2,.int .i64 guess1),(10,.int .i64 carry2),(11,.int .i64 i2),(48,.int .i64 (l2.length:Int)),(49,.int .i64 i2)]) ?_ ?_
 rintro a hh ⟨rfl,g9⟩
 refine a2a g9 (a0f (a0a (a0b Y Y Y (a0b Y Y Y (a0b Y Y Y (a0n Y Y Y Y Y ?_))))))
 obtain⟨ex2,gk,hm⟩:=Yb hm
 refine b0i (r:=(Rp.int .i64)) u28 sz3 Y Y u Y Y (p:=0) Y Y J gk ?_
 intro b2 o2 gl ga ho2 gm hp2
 have gn:gl= [.int .i64 ex2]:=gm
 subst gn
 obtain⟨l5,go,hm⟩:=Yb hm
 refine b3b (r:=(Rp.int .i64)) sz3 Y u Y Y Y Y Y (p:=0) Y Y ga ho2 J Y Y go ?_
 intro hi xs1 gp gq
 refine a0e (a0d (a0a (a0b Y Y Y ?_)))
 obtain⟨q1,hq1,hm⟩:=Yb hm
 refine e3f Y Y Y Y hq1 (a0c Y Y Y (a0e (a3v (a0d (a0a (a0n Y Y Y Y Y (a0b Y Y Y (a0e (a0k (fun a ha=>ihx1 (q1,(iadd .i64 i2 1),l5) a _ hm ?_))))))))))
 exact⟨_,xs1,Q,gp.Yp [0] Y Y,gq,ha.cut (l:= [0,1,2,10,48,49]) Y⟩
 clear hm
 rcases a0g o with⟨T,o⟩|⟨T,o⟩
 refine a0v 61 Y T (a1l Y (a0a (a0b Y Y Y (a0b Y Y Y (a0b Y Y Y ?_)))))
 obtain⟨ex3,gr,o⟩:=Yb o
 refine a9j (r:=(Rp.int .i64)) u28 sz3 Y Y Y Y ((z.mono gd).mono Q) gr ?_
 intro b3 o3 gs gt gu
 have gv:gs= [.int .i64 ex3]:=gu
 subst gv
 refine a6k (j:=0) ag3 Y Y u gt Y Y (a0n Y Y Y Y Y (a0c Y Y Y (a0e (a0k (fun a ha=> ?_)))))
 cases o
 exact⟨Y,ha.cut (l:= [0,1,2,10,11,48,49]) Y⟩
 refine a0v 61 Y T (a0q Y (a1y (a0k (fun a ha=> ?_))))
 cases o
 exact⟨Y,ha.cut (l:= [0,1,2,10,11,48,49]) Y⟩
 refine a0v 50 Y R (a0q Y (a9q (a0p (a0p (fun a ha=>hk1 l3 a _ hm ?_)))))
 exact⟨_,xss4,Q,u.Yp [0] Y Y,J,ha.cut (l:= [2]) Y⟩
 clear hm hkont2;intro hk2 mx2 K ihx2
 rintro⟨borrow1,i1,l1⟩ a gw hm ⟨G,xss2,U,x,L,gb⟩
 simp only [big_settle_L1_s]at hm
 refine a2a gb (a0f (a0a (a0n Y Y Y Y Y (a0e (a0d (a0f ?_))))))
 rcases a0g hm with⟨V,hm⟩|⟨V,hm⟩
 refine a0v 15 Y V (a1l Y (a1y (a0d (a0f (a2c (a0f (a0a (a0b Y Y Y (a0c Y Y Y (a0e (a0d (a0f (a0a (a0b Y Y Y (a0b Y Y Y ?_)))))))))))))))
 obtain⟨ex4,gx,hm⟩:=Yb hm
 refine b0i (r:=(Rp.int .i64)) u28 sz3 Y Y x Y Y (p:=0) Y Y L gx ?_
 intro b4 o4 gy gc ho3 gz hp3
 have h0:gy= [.int .i64 ex4]:=gz
 subst h0
 refine b3z (j:=0) ag3 Y Y x Y (p:=0) Y Y gc ho3 hp3 Y (a0b Y Y Y (a0n Y Y Y Y Y (a0c Y Y Y (a0e (a0d (a0f (a0f (a0a (a0b Y Y Y (a0b Y Y Y (a6c z.len u28 Y Y Y (a0n Y Y Y Y Y (a0e (a0d ?_))))))))))))))
 obtain⟨nx1,q,hm⟩:=Yb hm
 refine b5l (fun a w'=>gw=w'/\Has 78 a [(0,.slice au1 nu1 cu1),(1,.slice i k g),(2,.int .i64 guess1),(8,.int .i64 i1),(9,.int .i64 nx1),(13,.int .i64 (u1.length:Int)),(14,.int .i64 i1)]) ?_ ?_
 rintro a hj ⟨rfl,g1⟩
 refine a2a g1 (a0f (a0a (a0b Y Y Y (a0b Y Y Y (a0b Y Y Y (a0n Y Y Y Y Y ?_))))))
 obtain⟨ex5,h1,hm⟩:=Yb hm
 refine b0i (r:=(Rp.int .i64)) u28 sz3 Y Y x Y Y (p:=0) Y Y L h1 ?_
 intro b5 o5 h2 g2 ho4 h3 hp4
 have h4:h2= [.int .i64 ex5]:=h3
 subst h4
 obtain⟨l6,h5,hm⟩:=Yb hm
 refine b3b (r:=(Rp.int .i64)) sz3 Y x Y Y Y Y Y (p:=0) Y Y g2 ho4 L Y Y h5 ?_
 intro hk xs2 h6 h7
 refine a0e (a0d (a0a (a0b Y Y Y ?_)))
 obtain⟨q2,hq2,hm⟩:=Yb hm
 refine e3f Y Y Y Y hq2 (e5w Y Y Y (a0c Y Y Y (a0e (a3v (a0d (a0a (a0n Y Y Y Y Y (a0b Y Y Y (a0e (a0k (fun a ha=>ihx2 ((IntKind.i64.wrap (0-q2)),(iadd .i64 i1 1),l6) a _ hm ?_)))))))))))
 exact⟨_,xs2,U,h6.Yp [0] Y Y,h7,ha.cut (l:= [0,1,2,7,13,14]) Y⟩
 clear hm
 rcases a0g q with⟨Z,q⟩|⟨Z,q⟩
 refine a0v 26 Y Z (a1l Y (a0a (a0b Y Y Y (a0b Y Y Y (a0b Y Y Y (a0b Y Y Y ?_))))))
 obtain⟨ex6,h8,q⟩:=Yb q
 refine a9j (r:=(Rp.int .i64)) u28 sz3 Y Y Y Y (z.mono U) h8 ?_
 intro b6 o6 h9 hb hc
 have hd:h9= [.int .i64 ex6]:=hc
 subst hd
 refine a6k (j:=0) ag3 Y Y x hb Y Y (a0n Y Y Y Y Y (a0n Y Y Y Y Y (a0c Y Y Y (a0e (a0k (fun a ha=> ?_))))))
 cases q
 exact⟨Y,ha.cut (l:= [0,1,2,8,9,13,14]) Y⟩
 refine a0v 26 Y Z (a0q Y (a1y (a0k (fun a ha=> ?_))))
 cases q
 exact⟨Y,ha.cut (l:= [0,1,2,8,9,13,14]) Y⟩
 refine a0v 15 Y V (a0q Y (a9q (a0p (a0p (fun a ha=>hk2 (borrow1,l1) a _ hm ?_)))))
 exact⟨_,xss2,U,x.Yp [0] Y Y,L,ha.cut (l:= [0,1,2,7]) Y⟩
end Go.Proofs.YthaegflpecbfgaaGreatDoor.M
namespace Go.Proofs.YthaegflpecbfgaaGreatDoor.M
open Go Go.RowKit Rt
set_option linter.unusedVariables false
theorem ent206:Ent Tryz.prog 206:=fun _ _=>by kernel_rfl
theorem ent207:Ent Tryz.prog 207:=fun _ _=>by kernel_rfl
theorem ent208:Ent Tryz.prog 208:=fun _ _=>by kernel_rfl
def big_div_L3(n:Nat)(v6:(List Int))(i1:Int)(l5:List Int)(kont2:Int->Option ((List Int)×(List Int))):Nat->Int->Int->Option ((List Int)×(List Int))
 |0,_,_=>none
 |mx2+1,guess1,rest1=>
  (bif decide (1048576<=guess1)then
   some true
  else
   (bif decide (rest1<1048576)then
    (ix v6 (isub .i64 (v6.length:Int) 2)).bind fun ex8=>
    (shl .i64 rest1 20).bind fun q4=>
    (ix l5 (isub .i64 (iadd .i64 i1 (v6.length:Int)) 2)).bind fun ex9=>
    some (decide ((ior .i64 q4 ex9)<(imul .i64 guess1 ex8)))
   else
    some false).bind fun v12=>
   some v12).bind fun v11=>
  bif v11 then
   (ix v6 (isub .i64 (v6.length:Int) 1)).bind fun ex7=>
   big_div_L3 n v6 i1 l5 kont2 mx2 (isub .i64 guess1 1) (iadd .i64 rest1 ex7)
  else
   kont2 guess1
theorem big_div_L3_s:type_of% @big_div_L3.eq_2:= @big_div_L3.eq_2
def big_div_L2(n:Nat)(v6:(List Int))(kont1:(List Int)->(List Int)->Option ((List Int)×(List Int))):Nat->Int->(List Int)->(List Int)->Option ((List Int)×(List Int))
 |0,_,_,_=>none
 |mx1+1,i1,l4,l5=>
  bif decide (0<=i1)then
   (ix l5 (iadd .i64 i1 (v6.length:Int))).bind fun ex2=>
   (shl .i64 ex2 20).bind fun q1=>
   (ix l5 (isub .i64 (iadd .i64 i1 (v6.length:Int)) 1)).bind fun ex3=>
   (ix v6 (isub .i64 (v6.length:Int) 1)).bind fun ex4=>
   (quo .i64 (ior .i64 q1 ex3) ex4).bind fun q2=>
   (ix v6 (isub .i64 (v6.length:Int) 1)).bind fun ex5=>
   (rem (ior .i64 q1 ex3) ex5).bind fun q3=>
   big_div_L3 n v6 i1 l5 (fun(guess2:Int)=>
    (lsl l5 i1 (iadd .i64 (iadd .i64 i1 (v6.length:Int)) 1)).bind fun l8=>
    (b0c n l8 v6 guess2).bind fun v10=>
    (ix l4 i1).bind fun _=>
    (lset l4 i1 v10.2).bind fun l9=>
    big_div_L2 n v6 kont1 mx1 (isub .i64 i1 1) l9 (lput l5 i1 v10.1 (iadd .i64 (iadd .i64 i1 (v6.length:Int)) 1))) n q2 q3
  else
   kont1 l4 l5
theorem big_div_L2_s:type_of% @big_div_L2.eq_2:= @big_div_L2.eq_2
def big_div_L1(n:Nat)(b1:(List Int))(kont3:Int->Option ((List Int)×(List Int))):Nat->Int->Option ((List Int)×(List Int))
 |0,_=>none
 |mx3+1,shift1=>
  (ix b1 (isub .i64 (b1.length:Int) 1)).bind fun ex10=>
  bif decide ((imul .i64 ex10 shift1)<524288)then
   big_div_L1 n b1 kont3 mx3 (imul .i64 shift1 2)
  else
   kont3 shift1
theorem big_div_L1_s:type_of% @big_div_L1.eq_2:= @big_div_L1.eq_2
def b4r(n:Nat)(ax1:(List Int))(b1:(List Int)):Option ((List Int)×(List Int)):=
 (a6l n ax1 b1).bind fun v1=>
 bif decide (v1<0)then
  (a0u n ax1).bind fun v2=>
  some ([],v2)
 else
  bif(b1.length:Int)==1 then
   (ix b1 0).bind fun ex1=>
   (a8b n ax1 ex1).bind fun v3=>
   (a2r n [v3.2]).bind fun v4=>
   some (v3.1,v4)
  else
   big_div_L1 n b1 (fun(shift2:Int)=>
    (b0v n ax1 [shift2]).bind fun v5=>
    (app 8 v5 [0]).bind fun l1=>
    (b0v n b1 [shift2]).bind fun v6=>
    (bif(l1.length:Int)==(ax1.length:Int)then
     (app 8 l1 [0]).bind fun l10=>
     some l10
    else
     some l1).bind fun l2=>
    (mks 8 0 (isub .i64 (l2.length:Int) (v6.length:Int))).bind fun l3=>
    big_div_L2 n v6 (fun(l6:List Int)(l7:List Int)=>
     (a2r n l7).bind fun v7=>
     (a8b n v7 shift2).bind fun v8=>
     (a2r n l6).bind fun v9=>
     some (v9,v8.1)) n (isub .i64 (l3.length:Int) 1) l3 l2) n 1
def a4u(_n:Nat)(right1:Bool)(c1:Big):Option (Big×Int):=
 bif !right1 then
  some ((⟨0,[]⟩:Big),1)
 else
  some (c1,0)
def cmp_Or_int_L1(n:Nat)(vals1:(List Int))(kont1:Option Int):Nat->Int->Option Int
 |0,_=>none
 |mx1+1,i1=>
  bif decide (i1<(vals1.length:Int))then
   (ix vals1 i1).bind fun ex1=>
   bif ex1 !=0 then
    some ex1
   else
    cmp_Or_int_L1 n vals1 kont1 mx1 (iadd .i64 i1 1)
  else
   kont1
theorem cmp_Or_int_L1_s:type_of% @cmp_Or_int_L1.eq_2:= @cmp_Or_int_L1.eq_2
def b3e(n:Nat)(vals1:(List Int)):Option Int:=
 cmp_Or_int_L1 n vals1 (
  some 0) n 0
def c2b(n:Nat)(ax1:Big)(b1:Big):Option (Big×Int):=
 (a2x n ax1).bind fun v1=>
 (bif !v1 then
  some true
 else
  (a2x n b1).bind fun v15=>
  some (!v15)).bind fun v2=>
 bif v2 then
  (a4u n false (⟨0,[]⟩:Big)).bind fun v3=>
  some (v3.1,v3.2)
 else
  bif decide (0<=(imul .i64 ax1.Sign b1.Sign))then
   (b3e n [ax1.Sign,b1.Sign]).bind fun v4=>
   (b6x n ax1.Digits b1.Digits).bind fun v5=>
   (a3x n v4 v5).bind fun v6=>
   (a4u n true v6).bind fun v7=>
   some (v7.1,v7.2)
  else
   (a6l n ax1.Digits b1.Digits).bind fun v8=>
   bif decide (v8<0)then
    (b5k n b1.Digits ax1.Digits).bind fun v9=>
    (a3x n b1.Sign v9).bind fun v10=>
    (a4u n true v10).bind fun v11=>
    some (v11.1,v11.2)
   else
    (b5k n ax1.Digits b1.Digits).bind fun v12=>
    (a3x n ax1.Sign v12).bind fun v13=>
    (a4u n true v13).bind fun v14=>
    some (v14.1,v14.2)
def c2t(n:Nat)(ax1:Big)(b1:Big):Option (Big×Int):=
 (a2x n ax1).bind fun v1=>
 (bif !v1 then
  some true
 else
  (a2x n b1).bind fun v7=>
  some (!v7)).bind fun v2=>
 bif v2 then
  (a4u n false (⟨0,[]⟩:Big)).bind fun v3=>
  some (v3.1,v3.2)
 else
  (b0v n ax1.Digits b1.Digits).bind fun v4=>
  (a3x n (imul .i64 ax1.Sign b1.Sign) v4).bind fun v5=>
  (a4u n true v5).bind fun v6=>
  some (v6.1,v6.2)
def b2r(n:Nat)(ax1:Big)(b1:Big):Option (Big×Big×Int):=
 (a2x n ax1).bind fun v1=>
 (bif !v1 then
  some true
 else
  (a2x n b1).bind fun v11=>
  some (!v11)).bind fun v2=>
 bif v2 then
  some ((⟨0,[]⟩:Big),(⟨0,[]⟩:Big),1)
 else
  bif b1.Sign==0 then
   some ((⟨0,[]⟩:Big),(⟨0,[]⟩:Big),14)
  else
   (b4r n ax1.Digits b1.Digits).bind fun v3=>
   (bif decide ((imul .i64 ax1.Sign b1.Sign)<0)then
    some (decide (0<(v3.2.length:Int)))
   else
    some false).bind fun v4=>
   bif v4 then
    (b6x n v3.1 [1]).bind fun v5=>
    (a3x n (-1) v5).bind fun v6=>
    (b5k n b1.Digits v3.2).bind fun v7=>
    (a3x n b1.Sign v7).bind fun v8=>
    some (v6,v8,0)
   else
    (a3x n (imul .i64 ax1.Sign b1.Sign) v3.1).bind fun v9=>
    (a3x n ax1.Sign v3.2).bind fun v10=>
    some (v9,v10,0)
def big_Gcd_L1(n:Nat)(kont1:(List Int)->Option (Big×Int)):Nat->(List Int)->(List Int)->Option (Big×Int)
 |0,_,_=>none
 |mx1+1,x1,y1=>
  bif decide (0<(y1.length:Int))then
   (b4r n x1 y1).bind fun v8=>
   big_Gcd_L1 n kont1 mx1 y1 v8.2
  else
   kont1 x1
theorem big_Gcd_L1_s:type_of% @big_Gcd_L1.eq_2:= @big_Gcd_L1.eq_2
def b5f(n:Nat)(ax1:Big)(b1:Big):Option (Big×Int):=
 (a2x n ax1).bind fun v1=>
 (bif !v1 then
  some true
 else
  (a2x n b1).bind fun v9=>
  some (!v9)).bind fun v2=>
 bif v2 then
  (a4u n false (⟨0,[]⟩:Big)).bind fun v3=>
  some (v3.1,v3.2)
 else
  (a0u n ax1.Digits).bind fun v4=>
  big_Gcd_L1 n (fun(x2:(List Int))=>
   (a0u n x2).bind fun v5=>
   (a3x n 1 v5).bind fun v6=>
   (a4u n true v6).bind fun v7=>
   some (v7.1,v7.2)) n v4 b1.Digits
def c2s(n:Nat)(kont1:(List Int)->Option Big):Nat->Int->(List Int)->Option Big
 |0,_,_=>none
 |mx1+1,u2,l1=>
  bif decide (0<u2)then
   (app 8 l1 [IntKind.i64.wrap (iand .u64 u2 1048575)]).bind fun l3=>
   (shr .u64 u2 20).bind fun q1=>
   c2s n kont1 mx1 q1 l3
  else
   kont1 l1
def c4w(n:Nat)(nx1:Int):Option Big:=
 (bif decide (nx1<0)then
  some ((-1),IntKind.u64.wrap (0-(IntKind.u64.wrap nx1)))
 else
  some (1,IntKind.u64.wrap nx1)).bind fun(sign1,u1)=>
 c2s n (fun(l2:List Int)=>
  (a3x n sign1 l2).bind fun v1=>
  some v1) n u1 ([]:List Int)
def big_Int_L1(n:Nat)(ax1:Big)(kont1:Int->Option (Int×Bool)):Nat->Int->Int->Option (Int×Bool)
 |0,_,_=>none
 |mx1+1,u1,i1=>
  bif decide (i1<(ax1.Digits.length:Int))then
   (ix ax1.Digits i1).bind fun ex1=>
   (bif i1==3 then
    some (decide (8<ex1))
   else
    some false).bind fun v5=>
   bif v5 then
    some (0,false)
   else
    (shl .u64 (IntKind.u64.wrap ex1) (imul .i64 20 i1)).bind fun q1=>
    big_Int_L1 n ax1 kont1 mx1 (ior .u64 u1 q1) (iadd .i64 i1 1)
  else
   kont1 u1
theorem big_Int_L1_s:type_of% @big_Int_L1.eq_2:= @big_Int_L1.eq_2
def c2y(n:Nat)(ax1:Big):Option (Int×Bool):=
 (a2x n ax1).bind fun v1=>
 (bif !v1 then
  some true
 else
  some (decide (4<(ax1.Digits.length:Int)))).bind fun v2=>
 bif v2 then
  some (0,false)
 else
  big_Int_L1 n ax1 (fun(u2:Int)=>
   (bif decide (ax1.Sign<0)then
    some (decide (u2<=9223372036854775808))
   else
    some false).bind fun v3=>
   bif v3 then
    some (IntKind.i64.wrap (IntKind.u64.wrap (0-u2)),true)
   else
    (bif decide (0<=ax1.Sign)then
     some (decide (u2<9223372036854775808))
    else
     some false).bind fun v4=>
    bif v4 then
     some (IntKind.i64.wrap u2,true)
    else
     some (0,false)) n 0 0
end Go.Proofs.YthaegflpecbfgaaGreatDoor.M
namespace Go.Proofs.YthaegflpecbfgaaGreatDoor.M
open Go Go.RowKit Rt
set_option linter.unusedVariables false
def ref05_SameBig_L1(n:Nat)(ax1:Big)(b1:Big)(kont1:Option Bool):Nat->Int->Option Bool
 |0,_=>none
 |mx1+1,i1=>
  bif decide (i1<(ax1.Digits.length:Int))then
   (ix ax1.Digits i1).bind fun ex1=>
   (ix b1.Digits i1).bind fun ex2=>
   bif ex1 !=ex2 then
    some false
   else
    ref05_SameBig_L1 n ax1 b1 kont1 mx1 (iadd .i64 i1 1)
  else
   kont1
theorem ref05_SameBig_L1_s:type_of% @ref05_SameBig_L1.eq_2:= @ref05_SameBig_L1.eq_2
def a7l(n:Nat)(ax1:Big)(b1:Big):Option Bool:=
 (bif ax1.Sign !=b1.Sign then
  some true
 else
  some ((ax1.Digits.length:Int) !=(b1.Digits.length:Int))).bind fun v1=>
 bif v1 then
  some false
 else
  ref05_SameBig_L1 n ax1 b1 (
   some true) n 0
structure Frac where
 P:Big
 Q:Big
 deriving DecidableEq,Inhabited
def rp_Frac:Rp Frac where
 k:=4
 R:=fun F cs x=>∃(a1:Option Addr)(n1:Nat)(c1:Nat)(a3:Option Addr)(n3:Nat)(c3:Nat),cs= [.int .i64 x.P.Sign,.slice a1 n1 c1,.int .i64 x.Q.Sign,.slice a3 n3 c3]/\SlR (Rp.int .i64) F a1 n1 c1 x.P.Digits/\SlR (Rp.int .i64) F a3 n3 c3 x.Q.Digits
 len:=by rintro F cs x ⟨a1,n1,c1,a3,n3,c3,h,_⟩;simp [h]
 mono:=by rintro F F' cs x hF ⟨a1,n1,c1,a3,n3,c3,h,h0,h1⟩;exact⟨a1,n1,c1,a3,n3,c3,h,h0.mono hF,h1.mono hF⟩
 one:=by rintro F cs x ⟨a1,n1,c1,a3,n3,c3,h,_⟩ u hu;subst h;simp at hu;rcases hu with rfl|rfl|rfl|rfl<;>rfl
def a4s(n:Nat)(ax1:Frac)(b1:Frac):Option Bool:=
 (a7l n ax1.P b1.P).bind fun v1=>
 (bif v1 then
  (a7l n ax1.Q b1.Q).bind fun v3=>
  some v3
 else
  some false).bind fun v2=>
 some v2
def a9l(_n:Nat)(f1:Frac)(nx1:Int):Option Bool:=
 (bif decide ((f1.P.Digits.length:Int)<=nx1)then
  some (decide ((f1.Q.Digits.length:Int)<=nx1))
 else
  some false).bind fun v1=>
 some v1
def b8t(n:Nat)(ax1:Big):Option Bool:=
 (c2y n ax1).bind fun v1=>
 (bif v1.2 then
  some (v1.1==1)
 else
  some false).bind fun v2=>
 some v2
def a2h(n:Nat)(f1:Frac):Option Bool:=
 (a2x n f1.P).bind fun v1=>
 (bif !v1 then
  some true
 else
  (a2x n f1.Q).bind fun v7=>
  some (!v7)).bind fun v2=>
 (bif v2 then
  some true
 else
  some (f1.Q.Sign !=1)).bind fun v3=>
 bif v3 then
  some false
 else
  (b5f n f1.P f1.Q).bind fun v4=>
  (bif v4.2==0 then
   (b8t n v4.1).bind fun v6=>
   some v6
  else
   some false).bind fun v5=>
  some v5
theorem ze44:b6q Tryz.prog 44 (.agg #[.int .i64 0,.slice none 0 0,.int .i64 0,.slice none 0 0]):=fun _=>by kernel_rfl
theorem sz44:SizeIs Tryz.prog 44 4:=fun _=>by kernel_rfl
theorem ag44:a8x Tryz.prog 44 true:=fun _=>by kernel_rfl
def b2d(n:Nat)(p1:Big)(q1:Big):Option (Frac×Int):=
 (a2x n p1).bind fun v1=>
 (bif !v1 then
  some true
 else
  (a2x n q1).bind fun v11=>
  some (!v11)).bind fun v2=>
 bif v2 then
  some ((⟨(⟨0,[]⟩:Big),(⟨0,[]⟩:Big)⟩:Frac),1)
 else
  bif q1.Sign==0 then
   some ((⟨(⟨0,[]⟩:Big),(⟨0,[]⟩:Big)⟩:Frac),14)
  else
   bif decide (q1.Sign<0)then
    (b2u n p1).bind fun v3=>
    (b2u n q1).bind fun v4=>
    (b5f n v3 v4).bind fun v5=>
    (b2r n v3 v5.1).bind fun v6=>
    (b2r n v4 v5.1).bind fun v7=>
    some ((⟨v6.1,v7.1⟩:Frac),0)
   else
    (b5f n p1 q1).bind fun v8=>
    (b2r n p1 v8.1).bind fun v9=>
    (b2r n q1 v8.1).bind fun v10=>
    some ((⟨v9.1,v10.1⟩:Frac),0)
def d0o(n:Nat)(p1:Int)(q1:Int):Option (Frac×Int):=
 (c4w n p1).bind fun v1=>
 (c4w n q1).bind fun v2=>
 (b2d n v1 v2).bind fun v3=>
 some (v3.1,v3.2)
def a5s(n:Nat)(nx1:Int):Option Frac:=
 (c4w n nx1).bind fun v1=>
 (c4w n 1).bind fun v2=>
 some (⟨v1,v2⟩:Frac)
def a3o(n:Nat)(ax1:Big)(b1:Big):Option Big:=
 (c2t n ax1 b1).bind fun v1=>
 some v1.1
def b0h(n:Nat)(ax1:Frac)(b1:Frac):Option (Frac×Int):=
 (a2h n ax1).bind fun v1=>
 (bif !v1 then
  some true
 else
  (a2h n b1).bind fun v8=>
  some (!v8)).bind fun v2=>
 bif v2 then
  some ((⟨(⟨0,[]⟩:Big),(⟨0,[]⟩:Big)⟩:Frac),1)
 else
  ((a3o n ax1.P b1.Q).bind fun v5=>
  (a3o n b1.P ax1.Q).bind fun v6=>
  (c2b n v5 v6).bind fun v7=>
  some (v7.1.Sign,v7.1.Digits)).bind fun(f1,f2)=>
  (a3o n ax1.Q b1.Q).bind fun v3=>
  (b2d n (⟨f1,f2⟩:Big) v3).bind fun v4=>
  some (v4.1,v4.2)
def c5r(n:Nat)(ax1:Frac)(b1:Frac):Option (Frac×Int):=
 (a2h n ax1).bind fun v1=>
 (bif !v1 then
  some true
 else
  (a2h n b1).bind fun v5=>
  some (!v5)).bind fun v2=>
 bif v2 then
  some ((⟨(⟨0,[]⟩:Big),(⟨0,[]⟩:Big)⟩:Frac),1)
 else
  (b2u n b1.P).bind fun v3=>
  (b0h n ax1 (⟨v3,b1.Q⟩:Frac)).bind fun v4=>
  some (v4.1,v4.2)
def b2i(n:Nat)(ax1:Frac)(b1:Frac):Option (Frac×Int):=
 (a2h n ax1).bind fun v1=>
 (bif !v1 then
  some true
 else
  (a2h n b1).bind fun v6=>
  some (!v6)).bind fun v2=>
 bif v2 then
  some ((⟨(⟨0,[]⟩:Big),(⟨0,[]⟩:Big)⟩:Frac),1)
 else
  (a3o n ax1.P b1.P).bind fun v3=>
  (a3o n ax1.Q b1.Q).bind fun v4=>
  (b2d n v3 v4).bind fun v5=>
  some (v5.1,v5.2)
def c6x(n:Nat)(ax1:Frac)(b1:Frac):Option (Frac×Int):=
 (a2h n ax1).bind fun v1=>
 (bif !v1 then
  some true
 else
  (a2h n b1).bind fun v6=>
  some (!v6)).bind fun v2=>
 bif v2 then
  some ((⟨(⟨0,[]⟩:Big),(⟨0,[]⟩:Big)⟩:Frac),1)
 else
  bif b1.P.Sign==0 then
   some ((⟨(⟨0,[]⟩:Big),(⟨0,[]⟩:Big)⟩:Frac),14)
  else
   (a3o n ax1.P b1.Q).bind fun v3=>
   (a3o n ax1.Q b1.P).bind fun v4=>
   (b2d n v3 v4).bind fun v5=>
   some (v5.1,v5.2)
def b1y(n:Nat)(ax1:Big):Option Big:=
 (b2u n ax1).bind fun v1=>
 (b2u n v1).bind fun v2=>
 some v2
def c5m(n:Nat)(f1:Frac):Option Frac:=
 (a2h n f1).bind fun v1=>
 bif !v1 then
  some (⟨(⟨0,[]⟩:Big),(⟨0,[]⟩:Big)⟩:Frac)
 else
  (b2u n f1.P).bind fun v2=>
  (b1y n f1.Q).bind fun v3=>
  some (⟨v2,v3⟩:Frac)
def b4t(n:Nat)(f1:Frac):Option Int:=
 (a2h n f1).bind fun v1=>
 bif !v1 then
  some 0
 else
  some f1.P.Sign
def a4e(n:Nat)(ax1:Frac)(b1:Frac):Option Int:=
 (a2h n ax1).bind fun v1=>
 (bif !v1 then
  some true
 else
  (a2h n b1).bind fun v6=>
  some (!v6)).bind fun v2=>
 bif v2 then
  some 0
 else
  (a3o n ax1.P b1.Q).bind fun v3=>
  (a3o n b1.P ax1.Q).bind fun v4=>
  (b1v n v3 v4).bind fun v5=>
  some v5
def b0d(n:Nat)(ax1:Frac)(b1:Frac)(sign1:Int):Option (Frac×Int):=
 (a2h n ax1).bind fun v1=>
 (bif !v1 then
  some true
 else
  (a2h n b1).bind fun v6=>
  some (!v6)).bind fun v2=>
 bif v2 then
  some ((⟨(⟨0,[]⟩:Big),(⟨0,[]⟩:Big)⟩:Frac),1)
 else
  (a4e n ax1 b1).bind fun v3=>
  (bif decide ((imul .i64 v3 sign1)<0)then
   some (b1.P.Sign,b1.P.Digits,b1.Q.Sign,b1.Q.Digits)
  else
   some (ax1.P.Sign,ax1.P.Digits,ax1.Q.Sign,ax1.Q.Digits)).bind fun(f1,f2,f3,f4)=>
  (b1y n (⟨f1,f2⟩:Big)).bind fun v4=>
  (b1y n (⟨f3,f4⟩:Big)).bind fun v5=>
  some ((⟨v4,v5⟩:Frac),0)
def c5e(n:Nat)(ax1:Frac)(b1:Frac):Option (Frac×Int):=
 (b0d n ax1 b1 (-1)).bind fun v1=>
 some (v1.1,v1.2)
def b3w(n:Nat)(ax1:Frac)(b1:Frac):Option (Frac×Int):=
 (b0d n ax1 b1 1).bind fun v1=>
 some (v1.1,v1.2)
theorem fa24_3:a8p Tryz.prog 24 3 3:=fun _ _ _=>by kernel_rfl
theorem ag22:a8x Tryz.prog 22 false:=fun _=>by kernel_rfl
theorem u22:Tryz.prog.underlying 22=some (.slice 24):=by kernel_rfl
theorem sz24:SizeIs Tryz.prog 24 4:=fun _=>by kernel_rfl
theorem ag24:a8x Tryz.prog 24 true:=fun _=>by kernel_rfl
def ref35_size_L1(n:Nat)(rec_ref35_size:Expr->Int->Int->Option Int)(x1:Expr)(levels1:Int)(kont1:Int->Option Int):Nat->Int->Int->Option Int
 |0,_,_=>none
 |mx1+1,nx2,i1=>
  (bif decide (i1<(x1.Args.length:Int))then
   some (decide (0<=nx2))
  else
   some false).bind fun v1=>
  bif v1 then
   (ix x1.Args i1).bind fun ex1=>
   (rec_ref35_size ex1 nx2 (isub .i64 levels1 1)).bind fun v2=>
   ref35_size_L1 n rec_ref35_size x1 levels1 kont1 mx1 v2 (iadd .i64 i1 1)
  else
   kont1 nx2
theorem ref35_size_L1_s:type_of% @ref35_size_L1.eq_2:= @ref35_size_L1.eq_2
def ref35_size:Nat->Expr->Int->Int->Option Int
 |0,_,_,_=>none
 |n+1,x1,nx1,levels1=>
  bif decide (levels1<1)then
   some (-1)
  else
   ref35_size_L1 n (ref35_size n) x1 levels1 (fun(nx3:Int)=>
    some nx3) n (isub .i64 nx1 1) 0
theorem ref35_size_s:type_of% @ref35_size.eq_2:= @ref35_size.eq_2
def c2j(n:Nat)(x1:Expr)(nodes1:Int)(levels1:Int):Option Bool:=
 (ref35_size n x1 nodes1 levels1).bind fun v1=>
 some (decide (0<=v1))
theorem ze24:b6q Tryz.prog 24 (.agg #[.int .i64 0,.int .i64 0,vs [],.slice none 0 0]):=fun _=>by kernel_rfl
theorem ent129:Ent Tryz.prog 129:=fun _ _=>by kernel_rfl
def tariff_sized_L1(n:Nat)(rec_tariff_sized:Expr->Int->Int->Option (Int×Bool))(x1:Expr)(levels1:Int)(kont1:Int->Option (Int×Bool)):Nat->Int->Int->Option (Int×Bool)
 |0,_,_=>none
 |mx1+1,i1,f1=>
  bif decide (i1<(x1.Args.length:Int))then
   (ix x1.Args i1).bind fun ex1=>
   (rec_tariff_sized ex1 (isub .i64 levels1 1) f1).bind fun v2=>
   bif !v2.2 then
    some (v2.1,false)
   else
    tariff_sized_L1 n rec_tariff_sized x1 levels1 kont1 mx1 (iadd .i64 i1 1) v2.1
  else
   kont1 f1
theorem tariff_sized_L1_s:type_of% @tariff_sized_L1.eq_2:= @tariff_sized_L1.eq_2
def tariff_sized:Nat->Expr->Int->Int->Option (Int×Bool)
 |0,_,_,_=>none
 |n+1,x1,levels1,left1=>
  (bif decide (levels1<1)then
   some true
  else
   some (decide ((isub .i64 left1 1)<0))).bind fun v1=>
  bif v1 then
   some (isub .i64 left1 1,false)
  else
   tariff_sized_L1 n (tariff_sized n) x1 levels1 (fun(f2:Int)=>
    some (f2,true)) n 0 (isub .i64 left1 1)
theorem tariff_sized_s:type_of% @tariff_sized.eq_2:= @tariff_sized.eq_2
theorem c0i(n:Nat):(∀(x1:Expr)(levels1:Int)(left1:Int)(r:(Int×Bool))(_:tariff_sized n x1 levels1 left1=some r){w:World}{F:Frz}(_:Sat F w){o:Option Addr}{p:Nat}{g:Nat}{bleft1:Nat}(_:SlR rp_Expr F o p g x1.Args)(_:(OE.box bleft1 3 [.int .i64 left1]).ok w)(_:F bleft1=none),Calls Tryz.prog 129 #[.agg #[.int .i64 x1.Op,.int .i64 x1.N,vs x1.Name,.slice o p g],.int .i64 levels1,.pointer (some ⟨bleft1,0,none⟩)] w fun e w'=>∃v F' cs' O',e= .returned v/\HS F w [bleft1] F' (.box bleft1 3 cs'::O') w'/\(v= .bool r.2/\cs'= [.int .i64 r.1]/\O'= [])):=by
 induction n with
 |zero=>
  intro x1 levels1 left1 r hm
  exact absurd (show(none:Option (Int×Bool))=some r from hm) (by simp)
 |succ n ih=>
  intro x1 levels1 left1 r hm w F hs o p g bleft1 L hbleft1 hfleft1
  rw [tariff_sized_s]at hm
  have h:=HS.lend hs hbleft1 hfleft1
  refine a1v 36 Tryz.func129 Y Y Y (a0f (a0a (e4y Y Y Y Y h ?_)))
  intro b1 g9 M
  refine a0c Y Y Y (a0e (a0d (a0f (a0a (a0b Y Y Y (a9p Y Y Y (a1m ag3 Y Y M Y (i:=1) Y Y (a0n Y Y Y Y Y (a9p Y Y Y (a0o sz3 Y M Y Y Y Y (i:=1) Y Y Y Y ?_))))))))))
  intro Z q
  refine a0e (a0d (a0f (a0f (a0a (a0b Y Y Y (a0n Y Y Y Y Y (a0b Y Y Y ?_)))))))
  obtain⟨v1,j,hm⟩:=Yb hm
  refine a6y 5 (fun a w'=>Z=w'/\Has 36 a [(1,.int .i64 levels1),(2,.pointer (some ⟨bleft1,0,none⟩)),(3,.pointer (some ⟨b1,0,none⟩)),(21,.bool v1)]) ?_ ?_
  rintro a ga ⟨rfl,R⟩
  refine a1u R (a0e (a0d ?_))
  rcases a0g hm with⟨t,hm⟩|⟨t,hm⟩
  refine a0v 21 Y t (a1l Y (a0f (a0a (a0c Y Y Y (a0e (a0d (a3b (a0l (a6z Y Y ?_)))))))))
  obtain rfl:=Yo hm
  exact⟨_,_,_,_,Y,q.Yp [1] Y Y,Y,Y,Y⟩
  refine a0v 21 Y t (a0q Y (a1y (a0d (a0f (a0f (a0a (a0h fa24_3 Y Y Y (a1m ag22 Y Y q Y (i:=0) Y Y (a6c L.len u22 Y Y Y (a0b Y Y Y (a0e (a0d (a2c ?_)))))))))))))
  intro a T
  obtain⟨kont1,hkont1⟩:∃kont1:Int->Option (Int×Bool),kont1=(fun(f2:Int)=>some (f2,true)):=⟨_,Y⟩
  replace hm:(fun m(s:Int×Int)=>tariff_sized_L1 n (tariff_sized n) x1 levels1 kont1 m s.1 s.2) n (0,(isub .i64 left1 1))=some r:=by rw [hkont1];exact hm
  refine b5h (id:=0) (fun m(s:Int×Int)=>tariff_sized_L1 n (tariff_sized n) x1 levels1 kont1 m s.1 s.2) (fun(y:Int)=>kont1 y) r (fun(s:Int×Int)a w'=>∃(u:Frz),Frz.le F u/\HS F w [bleft1] u [.box bleft1 3 [.int .i64 s.2]] w'/\Has 36 a [(1,.int .i64 levels1),(2,.pointer (some ⟨bleft1,0,none⟩)),(23,.slice o p g),(24,.int .i64 (x1.Args.length:Int)),(25,.int .i64 s.1)]) (fun(y:Int)a w'=>∃(x:Frz),Frz.le F x/\HS F w [bleft1] x [.box bleft1 3 [.int .i64 y]] w'/\Has 36 a []) (fun _=>Y) ?_ ?_ hm ⟨_,Yf,q.Yp [1] Y Y,T.cut (l:= [1,2,23,24,25]) Y⟩
  clear hm;rintro f2 a gb hm ⟨x,gc,g0,U⟩
  rw [hkont1]at hm
  replace hm:=hm
  refine a5a (e:= .exit 0) U (a2m (a0d (a0f (a0a (a0c Y Y Y (a0e (a0d (a3b (a6z Y Y ?_)))))))))
  obtain rfl:=Yo hm
  exact⟨_,_,_,_,Y,g0.Yp [0] Y Y,Y,Y,Y⟩
  clear hm hkont1;intro hk1 mx1 K ihx1
  rintro⟨i1,f1⟩ a gd hm ⟨u,z,G,V⟩
  simp only [tariff_sized_L1_s]at hm
  refine a2a V (a0f (a0a (a0n Y Y Y Y Y (a0e (a0d (a0f ?_))))))
  rcases a0g hm with⟨H,hm⟩|⟨H,hm⟩
  refine a0v 26 Y H (a1l Y (a1y (a0d (a0f (a2c (a0f (a0a ?_)))))))
  obtain⟨ex1,g1,hm⟩:=Yb hm
  refine a9j (r:=rp_Expr) u22 sz24 Y Y Y Y (L.mono z) g1 ?_
  intro b2 o1 g g2 g3
  obtain⟨ge,gf,gg,g4,g5⟩:=a6j.1 g3
  subst g4
  refine d1u ag24 sz24 Y Y G g2 Y Y (a2y ze24 Y Y Y G ?_)
  intro b3 gh g6
  refine a0o sz24 Y g6 Y Y Y Y (i:=0) Y Y Y Y ?_
  intro gi k
  refine a0e (a0d (a0f (a0a (a5b ag24 sz24 Y Y k Y (i:=0) Y Y (a0b Y Y Y (a0n Y Y Y Y Y (a0b Y Y Y ?_)))))))
  obtain⟨v2,g7,hm⟩:=Yb hm
  refine a1q ent129 Y Y Y Y k (i:=1) Y (ih _ _ _ _ g7 k.sat g5 (k.get (i:=1) Y) (k.lendable (i:=1) Y)) ?_
  rintro _ gj _ _ gk g8 Q ⟨rfl,rfl,rfl⟩
  refine c3x Y Y Y (a0e (a0d ?_))
  rcases a0g hm with⟨I,hm⟩|⟨I,hm⟩
  refine a0v 34 Y I (a1l Y (a0f (a0a (a0c Y Y Y (a0e (a0d (a3b (a1e (a0l (a0l (a1e (a0l (a6z Y Y ?_)))))))))))))
  obtain rfl:=Yo hm
  exact⟨_,_,_,_,Y,Q.Yp [1] Y Y,Y,Y,Y⟩
  refine a0v 34 Y I (a0q Y (a1y (a3v (a0d (a0a (a0n Y Y Y Y Y (a0b Y Y Y (a0e (a0k (fun a ha=>ihx1 ((iadd .i64 i1 1),v2.1) a _ hm ?_))))))))))
  exact⟨_,(z.trans g8),Q.Yp [1] Y Y,ha.cut (l:= [1,2,23,24,25]) Y⟩
  refine a0v 26 Y H (a0q Y (a9q (a0p (a0p (fun a ha=>hk1 f1 a _ hm ?_)))))
  exact⟨_,z,G.Yp [0] Y Y,ha.cut (l:= []) Y⟩
  clear hm
  rcases a0g j with⟨J,j⟩|⟨J,j⟩
  refine a2q 16 Y J (a0x Y (by decide) Y (a0x Y (by decide) Y (a0x Y (by decide) Y (a0x Y (by decide) Y (a0m Y Y Y Y (a0e (a0k (fun a ha=> ?_))))))))
  cases j
  exact⟨Y,ha.cut (l:= [1,2,3,21]) Y⟩
  refine a2q 16 Y J (a0b Y Y Y (a9p Y Y Y (a1m ag3 Y Y q Y (i:=1) Y Y (a0n Y Y Y Y Y (a0j Y Y Y Y (a0e (a0k (fun a ha=> ?_))))))))
  cases j
  exact⟨Y,ha.cut (l:= [1,2,3,21]) Y⟩
theorem c1o(n:Nat)(x1:Expr)(levels1:Int)(left1:Int)(r:(Int×Bool))(hm:tariff_sized n x1 levels1 left1=some r){w:World}{F:Frz}(hs:Sat F w){g:Option Addr}{h:Nat}{i:Nat}{bleft1:Nat}(j:SlR rp_Expr F g h i x1.Args)(hbleft1:(OE.box bleft1 3 [.int .i64 left1]).ok w)(hfleft1:F bleft1=none):
 Calls Tryz.prog 129 #[.agg #[.int .i64 x1.Op,.int .i64 x1.N,vs x1.Name,.slice g h i],.int .i64 levels1,.pointer (some ⟨bleft1,0,none⟩)] w fun e w'=>∃v F' cs' O',e= .returned v/\HS F w [bleft1] F' (.box bleft1 3 cs'::O') w'/\(v= .bool r.2/\cs'= [.int .i64 r.1]/\O'= []):=
 (c0i n) x1 levels1 left1 r hm hs j hbleft1 hfleft1
theorem u27:Tryz.prog.underlying 27=some (.slice 9):=by kernel_rfl
theorem sz9:SizeIs Tryz.prog 9 1:=fun _=>by kernel_rfl
theorem ag9:a8x Tryz.prog 9 false:=fun _=>by kernel_rfl
def slices_Index_string_string_L1(n:Nat)(s1:(List Bs))(v1:Bs)(kont1:Option Int):Nat->Int->Option Int
 |0,_=>none
 |mx1+1,i1=>
  bif decide (i1<(s1.length:Int))then
   (ix s1 i1).bind fun ex1=>
   bif v1==ex1 then
    some i1
   else
    slices_Index_string_string_L1 n s1 v1 kont1 mx1 (iadd .i64 i1 1)
  else
   kont1
theorem slices_Index_string_string_L1_s:type_of% @slices_Index_string_string_L1.eq_2:= @slices_Index_string_string_L1.eq_2
def a1g(n:Nat)(s1:(List Bs))(v1:Bs):Option Int:=
 slices_Index_string_string_L1 n s1 v1 (
  some (-1)) n 0
def a0z(n:Nat)(s1:(List Bs))(v1:Bs):Option Bool:=
 (a1g n s1 v1).bind fun v2=>
 some (decide (0<=v2))
def tariff_named_L1(n:Nat)(l1:(List Bs))(kont1:Option Bool):Nat->Int->Option Bool
 |0,_=>none
 |mx1+1,i1=>
  bif decide (i1<(l1.length:Int))then
   (ix l1 i1).bind fun ex1=>
   (a4q n ex1).bind fun v1=>
   (bif !v1 then
    some true
   else
    (lsl l1 0 i1).bind fun l2=>
    (a0z n l2 ex1).bind fun v3=>
    some v3).bind fun v2=>
   bif v2 then
    some false
   else
    tariff_named_L1 n l1 kont1 mx1 (iadd .i64 i1 1)
  else
   kont1
theorem tariff_named_L1_s:type_of% @tariff_named_L1.eq_2:= @tariff_named_L1.eq_2
def b0n(n:Nat)(l1:(List Bs)):Option Bool:=
 tariff_named_L1 n l1 (
  some (decide ((l1.length:Int)<=6))) n 0
def a1j(_n:Nat)(ax1:Int)(b1:Int):Option (Int×Int):=
 (bif ax1==0 then
  some true
 else
  some (b1==0)).bind fun v1=>
 bif v1 then
  some (0,13)
 else
  (bif ax1==2 then
   some true
  else
   some (b1==2)).bind fun v2=>
  bif v2 then
   some (2,0)
  else
   some (1,0)
def a9z(_n:Nat)(op1:Int):Option Int:=
 bif decide (op1<=4)then
  some 0
 else
  bif op1==14 then
   some 1
  else
   bif op1==11 then
    some 3
   else
    some 2
def b2h(_n:Nat)(nx1:Int)(cap1:Int):Option Bool:=
 some (nx1 !=cap1)
def a4w(n:Nat)(s1:(List Int))(f1:(Int->Option Bool))(kont1:Option Int):Nat->Int->Option Int
 |0,_=>none
 |mx1+1,i1=>
  bif decide (i1<(s1.length:Int))then
   (ix s1 i1).bind fun ex1=>
   (f1 ex1).bind fun v1=>
   bif v1 then
    some i1
   else
    a4w n s1 f1 kont1 mx1 (iadd .i64 i1 1)
  else
   kont1
def a6e(n:Nat)(s1:(List Int))(f1:(Int->Option Bool)):Option Int:=
 a4w n s1 f1 (
  some (-1)) n 0
def a3k(n:Nat)(s1:(List Int))(f1:(Int->Option Bool)):Option Bool:=
 (a6e n s1 f1).bind fun v1=>
 some (decide (0<=v1))
def a3q(n:Nat)(k1:Int)(l1:(List Int))(want1:Int):Option (Int×Int):=
 (a3k n l1 (fun(q0:Int)=>b2h n q0 want1)).bind fun v1=>
 bif v1 then
  some (0,13)
 else
  some (k1,0)
theorem fa24_0:a8p Tryz.prog 24 0 0:=fun _ _ _=>by kernel_rfl
theorem fa24_2:a8p Tryz.prog 24 2 2:=fun _ _ _=>by kernel_rfl
def tariff_typed_L1(n:Nat)(rec_tariff_typed:Expr->(List Bs)->Option (Int×Int))(x1:Expr)(names1:(List Bs))(kont1:(List Int)->Option (Int×Int)):Nat->Int->(List Int)->Option (Int×Int)
 |0,_,_=>none
 |mx1+1,i1,l1=>
  bif decide (i1<(x1.Args.length:Int))then
   (ix x1.Args i1).bind fun ex13=>
   (rec_tariff_typed ex13 names1).bind fun v13=>
   bif v13.2 !=0 then
    some (0,v13.2)
   else
    (app 8 l1 [v13.1]).bind fun l3=>
    tariff_typed_L1 n rec_tariff_typed x1 names1 kont1 mx1 (iadd .i64 i1 1) l3
  else
   kont1 l1
theorem tariff_typed_L1_s:type_of% @tariff_typed_L1.eq_2:= @tariff_typed_L1.eq_2
def tariff_typed:Nat->Expr->(List Bs)->Option (Int×Int)
 |0,_,_=>none
 |n+1,x1,names1=>
  tariff_typed_L1 n (tariff_typed n) x1 names1 (fun(l2:List Int)=>
   (bif x1.Op==1 then
    some true
   else
    some (x1.Op==4)).bind fun v1=>
   bif v1 then
    (a0z n names1 x1.Name).bind fun v2=>
    bif !v2 then
     some (0,11)
    else
     bif x1.Op==4 then
      some (2,0)
     else
      some (1,0)
   else
    (bif x1.Op==0 then
     some true
    else
     bif x1.Op==2 then
      some true
     else
      some (x1.Op==3)).bind fun v3=>
    bif v3 then
     some (1,0)
    else
     (bif x1.Op==12 then
      some true
     else
      some (x1.Op==13)).bind fun v4=>
     bif v4 then
      (a3q n 0 l2 1).bind fun v5=>
      some (v5.1,v5.2)
     else
      (bif x1.Op==14 then
       some true
      else
       bif x1.Op==15 then
        some true
       else
        some (x1.Op==16)).bind fun v6=>
      bif v6 then
       (a3q n 0 l2 0).bind fun v7=>
       some (v7.1,v7.2)
      else
       bif x1.Op==11 then
        (ix l2 0).bind fun ex1=>
        bif ex1 !=0 then
         some (0,13)
        else
         (ix l2 1).bind fun ex2=>
         (ix l2 2).bind fun ex3=>
         (a1j n ex2 ex3).bind fun v8=>
         some (v8.1,v8.2)
       else
        bif x1.Op==7 then
         (ix l2 0).bind fun ex4=>
         (bif ex4==2 then
          (ix l2 1).bind fun ex7=>
          some (ex7==2)
         else
          some false).bind fun v9=>
         bif v9 then
          some (0,13)
         else
          (ix l2 0).bind fun ex5=>
          (ix l2 1).bind fun ex6=>
          (a1j n ex5 ex6).bind fun v10=>
          some (v10.1,v10.2)
        else
         bif x1.Op==8 then
          (ix x1.Args 1).bind fun ex8=>
          bif ex8.Op !=0 then
           some (0,13)
          else
           bif ex8.N==0 then
            some (0,14)
           else
            (ix l2 0).bind fun ex9=>
            (ix l2 1).bind fun ex10=>
            (a1j n ex9 ex10).bind fun v11=>
            some (v11.1,v11.2)
         else
          (ix l2 0).bind fun ex11=>
          (ix l2 1).bind fun ex12=>
          (a1j n ex11 ex12).bind fun v12=>
          some (v12.1,v12.2)) n 0 ([]:List Int)
theorem tariff_typed_s:type_of% @tariff_typed.eq_2:= @tariff_typed.eq_2
def slices_IndexFunc_api_Expr_api_Expr_L1(n:Nat)(s1:(List Expr))(f1:(Expr->Option Bool))(kont1:Option Int):Nat->Int->Option Int
 |0,_=>none
 |mx1+1,i1=>
  bif decide (i1<(s1.length:Int))then
   (ix s1 i1).bind fun ex1=>
   (f1 ex1).bind fun v1=>
   bif v1 then
    some i1
   else
    slices_IndexFunc_api_Expr_api_Expr_L1 n s1 f1 kont1 mx1 (iadd .i64 i1 1)
  else
   kont1
theorem slices_IndexFunc_api_Expr_api_Expr_L1_s:type_of% @slices_IndexFunc_api_Expr_api_Expr_L1.eq_2:= @slices_IndexFunc_api_Expr_api_Expr_L1.eq_2
def a1t(n:Nat)(s1:(List Expr))(f1:(Expr->Option Bool)):Option Int:=
 slices_IndexFunc_api_Expr_api_Expr_L1 n s1 f1 (
  some (-1)) n 0
def a0s(n:Nat)(s1:(List Expr))(f1:(Expr->Option Bool)):Option Bool:=
 (a1t n s1 f1).bind fun v1=>
 some (decide (0<=v1))
mutual
def tariff_shaped:Nat->Expr->Option Bool
 |0,_=>none
 |n+1,x1=>
  (bif decide (x1.Op<0)then
   some true
  else
   some (decide (17<=x1.Op))).bind fun v1=>
  (bif v1 then
   some true
  else
   (a9z n x1.Op).bind fun v11=>
   some ((x1.Args.length:Int) !=v11)).bind fun v2=>
  bif v2 then
   some false
  else
   bif x1.Op==0 then
    (bif decide (0<=x1.N)then
     some (decide (x1.N<=1099511627776))
    else
     some false).bind fun v3=>
    (bif v3 then
     some (x1.Name== [])
    else
     some false).bind fun v4=>
    some v4
   else
    (bif x1.Op==1 then
     some true
    else
     some (x1.Op==4)).bind fun v5=>
    bif v5 then
     (bif x1.N==0 then
      (a4q n x1.Name).bind fun v7=>
      some v7
     else
      some false).bind fun v6=>
     some v6
    else
     (bif x1.N==0 then
      some (x1.Name== [])
     else
      some false).bind fun v8=>
     (bif v8 then
      (a0s n x1.Args (tariff_shaped_1 n)).bind fun v10=>
      some (!v10)
     else
      some false).bind fun v9=>
     some v9
def tariff_shaped_1:Nat->Expr->Option Bool
 |0,_=>none
 |n+1,ax1=>
  (tariff_shaped n ax1).bind fun v1=>
  some (!v1)
 end
theorem tariff_shaped_s:type_of% @tariff_shaped.eq_2:= @tariff_shaped.eq_2
theorem b0g(n:Nat)(ax1:Expr):tariff_shaped_1 (n+1) ax1=
 (tariff_shaped n ax1).bind fun v1=>
 some (!v1):=rfl
theorem ze3:b6q Tryz.prog 3 (.int .i64 0):=fun _=>by kernel_rfl
def a9v(n:Nat)(x1:Expr):Option Bool:=
 (tariff_sized n x1 10 100).bind fun v1=>
 (bif v1.2 then
  (tariff_shaped n x1).bind fun v3=>
  some v3
 else
  some false).bind fun v2=>
 some v2
structure Tariff where
 Name:Bs
 Fee:Expr
 Cap:Int
 deriving Inhabited
theorem fa26_2:a8p Tryz.prog 26 2 5:=fun _ _ _=>by kernel_rfl
theorem fa26_1:a8p Tryz.prog 26 1 1:=fun _ _ _=>by kernel_rfl
def a7c(n:Nat)(t1:Tariff):Option Bool:=
 (a4q n t1.Name).bind fun v1=>
 (bif v1 then
  (a9v n t1.Fee).bind fun v5=>
  some v5
 else
  some false).bind fun v2=>
 (bif v2 then
  some (decide ((-1)<=t1.Cap))
 else
  some false).bind fun v3=>
 (bif v3 then
  some (decide (t1.Cap<=1099511627776))
 else
  some false).bind fun v4=>
 some v4
theorem ag26:a8x Tryz.prog 26 true:=fun _=>by kernel_rfl
theorem sz26:SizeIs Tryz.prog 26 6:=fun _=>by kernel_rfl
def b0j(n:Nat)(t1:Tariff)(names1:(List Bs)):Option Int:=
 (b0n n names1).bind fun v1=>
 bif !v1 then
  some 1
 else
  (a7c n t1).bind fun v2=>
  bif !v2 then
   some 2
  else
   (tariff_typed n t1.Fee names1).bind fun v3=>
   (bif v3.2==0 then
    some (v3.1==0)
   else
    some false).bind fun v4=>
   bif v4 then
    some 13
   else
    some v3.2
def b7l(n:Nat)(x1:Expr)(names1:(List Bs)):Option (Int×Int):=
 (b0n n names1).bind fun v1=>
 bif !v1 then
  some (0,1)
 else
  (a9v n x1).bind fun v2=>
  bif !v2 then
   some (0,2)
  else
   (tariff_typed n x1 names1).bind fun v3=>
   some (v3.1,v3.2)
end Go.Proofs.YthaegflpecbfgaaGreatDoor.M
namespace Go.Proofs.YthaegflpecbfgaaGreatDoor.M
open Go Go.RowKit Rt
set_option linter.unusedVariables false
def ref04_Same_L1(n:Nat)(ax1:Big)(b1:Big)(kont1:Option Bool):Nat->Int->Option Bool
 |0,_=>none
 |mx1+1,i1=>
  bif decide (i1<(ax1.Digits.length:Int))then
   (ix ax1.Digits i1).bind fun ex1=>
   (ix b1.Digits i1).bind fun ex2=>
   bif ex1 !=ex2 then
    some false
   else
    ref04_Same_L1 n ax1 b1 kont1 mx1 (iadd .i64 i1 1)
  else
   kont1
theorem ref04_Same_L1_s:type_of% @ref04_Same_L1.eq_2:= @ref04_Same_L1.eq_2
def b1b(n:Nat)(ax1:Big)(b1:Big):Option Bool:=
 (bif ax1.Sign !=b1.Sign then
  some true
 else
  some ((ax1.Digits.length:Int) !=(b1.Digits.length:Int))).bind fun v1=>
 bif v1 then
  some false
 else
  ref04_Same_L1 n ax1 b1 (
   some true) n 0
def a6x(n:Nat)(ax1:Big)(kont1:Option Bool):Nat->Int->Option Bool
 |0,_=>none
 |mx1+1,i1=>
  bif decide (i1<(ax1.Digits.length:Int))then
   (ix ax1.Digits i1).bind fun ex2=>
   (bif decide (ex2<0)then
    some true
   else
    (ix ax1.Digits i1).bind fun ex3=>
    some (decide (1048576<=ex3))).bind fun v4=>
   bif v4 then
    some false
   else
    a6x n ax1 kont1 mx1 (iadd .i64 i1 1)
  else
   kont1
def a1x(n:Nat)(ax1:Big):Option Bool:=
 a6x n ax1 (
  (bif decide (ax1.Sign<(-1))then
   some true
  else
   some (decide (1<ax1.Sign))).bind fun v1=>
  (bif v1 then
   some true
  else
   some (!(((ax1.Digits.length:Int)==0)==(ax1.Sign==0)))).bind fun v2=>
  bif v2 then
   some false
  else
   (bif(ax1.Digits.length:Int)==0 then
    some true
   else
    (ix ax1.Digits (isub .i64 (ax1.Digits.length:Int) 1)).bind fun ex1=>
    some (ex1 !=0)).bind fun v3=>
   some v3) n 0
def a7k(n:Nat)(l1:(List Int))(kont1:Int->Option (List Int)):Nat->Int->Option (List Int)
 |0,_=>none
 |mx1+1,nx1=>
  (bif decide (0<nx1)then
   (ix l1 (isub .i64 nx1 1)).bind fun ex1=>
   some (ex1==0)
  else
   some false).bind fun v1=>
  bif v1 then
   a7k n l1 kont1 mx1 (isub .i64 nx1 1)
  else
   kont1 nx1
def a2d(n:Nat)(l1:(List Int)):Option (List Int):=
 a7k n l1 (fun(nx2:Int)=>
  (lsl l1 0 nx2).bind fun l2=>
  (app 8 [] l2).bind fun l3=>
  some l3) n (l1.length:Int)
def a1z(n:Nat)(sign1:Int)(l1:(List Int)):Option Big:=
 (a2d n l1).bind fun v1=>
 bif(v1.length:Int)==0 then
  some (⟨0,[]⟩:Big)
 else
  some (⟨sign1,v1⟩:Big)
def b0e(n:Nat)(kont1:(List Int)->Option Big):Nat->Int->(List Int)->Option Big
 |0,_,_=>none
 |mx1+1,nx2,l1=>
  bif nx2 !=0 then
   (rem nx2 1048576).bind fun q1=>
   (bif decide (q1<0)then
    some (IntKind.i64.wrap (0-q1))
   else
    some q1).bind fun d1=>
   (app 8 l1 [d1]).bind fun l3=>
   (quo .i64 nx2 1048576).bind fun q2=>
   b0e n kont1 mx1 q2 l3
  else
   kont1 l1
def b2a(n:Nat)(nx1:Int):Option Big:=
 bif nx1==0 then
  some (⟨0,[]⟩:Big)
 else
  (bif decide (nx1<0)then
   some (-1)
  else
   some 1).bind fun sign1=>
  b0e n (fun(l2:List Int)=>
   (a1z n sign1 l2).bind fun v1=>
   some v1) n nx1 ([]:List Int)
def a4i(_n:Nat)(l1:(List Int))(i1:Int):Option Int:=
 bif decide (i1<(l1.length:Int))then
  (ix l1 i1).bind fun ex1=>
  some ex1
 else
  some 0
def a7v(n:Nat)(ax1:(List Int))(b1:(List Int))(kont1:Option Bool):Nat->Int->Option Bool
 |0,_=>none
 |mx1+1,i1=>
  bif decide (0<=i1)then
   (a4i n ax1 i1).bind fun v1=>
   (a4i n b1 i1).bind fun v2=>
   bif v1 !=v2 then
    (a4i n ax1 i1).bind fun v3=>
    (a4i n b1 i1).bind fun v4=>
    some (decide (v3<v4))
   else
    a7v n ax1 b1 kont1 mx1 (isub .i64 i1 1)
  else
   kont1
def a6a(n:Nat)(ax1:(List Int))(b1:(List Int)):Option Bool:=
 a7v n ax1 b1 (
  some false) n (isub .i64 (imax (ax1.length:Int) (b1.length:Int)) 1)
def a9m(n:Nat)(ax1:(List Int))(b1:(List Int))(kont1:(List Int)->Option (List Int)):Nat->Int->Int->(List Int)->Option (List Int)
 |0,_,_,_=>none
 |mx1+1,carry1,i1,l1=>
  (bif decide (i1<(ax1.length:Int))then
   some true
  else
   some (decide (i1<(b1.length:Int)))).bind fun v2=>
  (bif v2 then
   some true
  else
   some (decide (0<carry1))).bind fun v3=>
  bif v3 then
   (a4i n ax1 i1).bind fun v4=>
   (a4i n b1 i1).bind fun v5=>
   (rem (iadd .i64 (iadd .i64 v4 v5) carry1) 1048576).bind fun q1=>
   (app 8 l1 [q1]).bind fun l3=>
   (quo .i64 (iadd .i64 (iadd .i64 v4 v5) carry1) 1048576).bind fun q2=>
   a9m n ax1 b1 kont1 mx1 q2 (iadd .i64 i1 1) l3
  else
   kont1 l1
def a7j(n:Nat)(ax1:(List Int))(b1:(List Int)):Option (List Int):=
 a9m n ax1 b1 (fun(l2:List Int)=>
  (a2d n l2).bind fun v1=>
  some v1) n 0 0 ([]:List Int)
def a5o(n:Nat)(ax1:(List Int))(b1:(List Int))(kont1:(List Int)->Option (List Int)):Nat->Int->Int->(List Int)->Option (List Int)
 |0,_,_,_=>none
 |mx1+1,borrow1,i1,l1=>
  bif decide (i1<(ax1.length:Int))then
   (ix ax1 i1).bind fun ex1=>
   (a4i n b1 i1).bind fun v2=>
   (bif decide ((isub .i64 (isub .i64 ex1 v2) borrow1)<0)then
    some (1,iadd .i64 (isub .i64 (isub .i64 ex1 v2) borrow1) 1048576)
   else
    some (0,isub .i64 (isub .i64 ex1 v2) borrow1)).bind fun(borrow2,nx1)=>
   (app 8 l1 [nx1]).bind fun l3=>
   a5o n ax1 b1 kont1 mx1 borrow2 (iadd .i64 i1 1) l3
  else
   kont1 l1
def a3a(n:Nat)(ax1:(List Int))(b1:(List Int)):Option (List Int):=
 a5o n ax1 b1 (fun(l2:List Int)=>
  (a2d n l2).bind fun v1=>
  some v1) n 0 0 ([]:List Int)
def a8e(n:Nat)(ax1:(List Int))(b1:(List Int))(i1:Int)(kont2:(List Int)->Option (List Int)):Nat->Int->Int->(List Int)->Option (List Int)
 |0,_,_,_=>none
 |mx2+1,carry1,k1,l4=>
  (bif decide (k1<(b1.length:Int))then
   some true
  else
   some (decide (0<carry1))).bind fun v2=>
  bif v2 then
   (ix l4 (iadd .i64 i1 k1)).bind fun ex1=>
   (ix ax1 i1).bind fun ex2=>
   (a4i n b1 k1).bind fun v3=>
   (rem (iadd .i64 (iadd .i64 ex1 (imul .i64 ex2 v3)) carry1) 1048576).bind fun q1=>
   (ix l4 (iadd .i64 i1 k1)).bind fun _=>
   (lset l4 (iadd .i64 i1 k1) q1).bind fun l6=>
   (quo .i64 (iadd .i64 (iadd .i64 ex1 (imul .i64 ex2 v3)) carry1) 1048576).bind fun q2=>
   a8e n ax1 b1 i1 kont2 mx2 q2 (iadd .i64 k1 1) l6
  else
   kont2 l4
def a4o(n:Nat)(ax1:(List Int))(b1:(List Int))(kont1:(List Int)->Option (List Int)):Nat->Int->(List Int)->Option (List Int)
 |0,_,_=>none
 |mx1+1,i1,l2=>
  bif decide (i1<(ax1.length:Int))then
   a8e n ax1 b1 i1 (fun(l5:List Int)=>
    a4o n ax1 b1 kont1 mx1 (iadd .i64 i1 1) l5) n 0 0 l2
  else
   kont1 l2
def a4j(n:Nat)(ax1:(List Int))(b1:(List Int)):Option (List Int):=
 (mks 8 0 (iadd .i64 (ax1.length:Int) (b1.length:Int))).bind fun l1=>
 a4o n ax1 b1 (fun(l3:List Int)=>
  (a2d n l3).bind fun v1=>
  some v1) n 0 l1
def a7o(n:Nat)(b1:(List Int))(v2:(List Int))(kont2:Int->Option ((List Int)×(List Int))):Nat->Int->Int->Option ((List Int)×(List Int))
 |0,_,_=>none
 |mx2+1,lo1,hi1=>
  bif decide (1<(isub .i64 hi1 lo1))then
   (quo .i64 (iadd .i64 lo1 hi1) 2).bind fun q1=>
   (a4j n b1 [q1]).bind fun v6=>
   (a6a n v2 v6).bind fun v7=>
   bif v7 then
    a7o n b1 v2 kont2 mx2 lo1 q1
   else
    a7o n b1 v2 kont2 mx2 q1 hi1
  else
   kont2 lo1
def a6i(n:Nat)(ax1:(List Int))(b1:(List Int))(kont1:(List Int)->(List Int)->Option ((List Int)×(List Int))):Nat->(List Int)->Int->(List Int)->Option ((List Int)×(List Int))
 |0,_,_,_=>none
 |mx1+1,rx1,i1,l2=>
  bif decide (0<=i1)then
   (ix ax1 i1).bind fun ex1=>
   (app 8 [ex1] rx1).bind fun l4=>
   (a2d n l4).bind fun v2=>
   a7o n b1 v2 (fun(lo2:Int)=>
    (ix l2 i1).bind fun _=>
    (lset l2 i1 lo2).bind fun l5=>
    (a2d n [lo2]).bind fun v3=>
    (a4j n b1 v3).bind fun v4=>
    (a3a n v2 v4).bind fun v5=>
    a6i n ax1 b1 kont1 mx1 v5 (isub .i64 i1 1) l5) n 0 1048576
  else
   kont1 rx1 l2
def a8v(n:Nat)(ax1:(List Int))(b1:(List Int)):Option ((List Int)×(List Int)):=
 (mks 8 0 (ax1.length:Int)).bind fun l1=>
 a6i n ax1 b1 (fun(rx2:(List Int))(l3:List Int)=>
  (a2d n l3).bind fun v1=>
  some (v1,rx2)) n [] (isub .i64 (ax1.length:Int) 1) l1
def a7s(n:Nat)(ax1:Big)(b1:Big):Option Int:=
 (a1x n ax1).bind fun v1=>
 (bif !v1 then
  some true
 else
  (a1x n b1).bind fun v6=>
  some (!v6)).bind fun v2=>
 (bif v2 then
  some true
 else
  (b1b n ax1 b1).bind fun v5=>
  some v5).bind fun v3=>
 bif v3 then
  some 0
 else
  bif ax1.Sign !=b1.Sign then
   bif decide (ax1.Sign<b1.Sign)then
    some (-1)
   else
    some 1
  else
   (a6a n ax1.Digits b1.Digits).bind fun v4=>
   bif v4==(decide (0<ax1.Sign))then
    some (-1)
   else
    some 1
def b2w(n:Nat)(ax1:Big):Option Big:=
 (a1x n ax1).bind fun v1=>
 bif !v1 then
  some (⟨0,[]⟩:Big)
 else
  (a1z n (IntKind.i64.wrap (0-ax1.Sign)) ax1.Digits).bind fun v2=>
  some v2
def b5b(n:Nat)(ax1:Big)(b1:Big):Option (Big×Int):=
 (a1x n ax1).bind fun v1=>
 (bif !v1 then
  some true
 else
  (a1x n b1).bind fun v12=>
  some (!v12)).bind fun v2=>
 bif v2 then
  some ((⟨0,[]⟩:Big),1)
 else
  (bif ax1.Sign==0 then
   some true
  else
   some (b1.Sign==0)).bind fun v3=>
  (bif v3 then
   some true
  else
   some (ax1.Sign==b1.Sign)).bind fun v4=>
  bif v4 then
   (a7j n ax1.Digits b1.Digits).bind fun v5=>
   (a1z n (ior .i64 ax1.Sign b1.Sign) v5).bind fun v6=>
   some (v6,0)
  else
   (a6a n ax1.Digits b1.Digits).bind fun v7=>
   bif v7 then
    (a3a n b1.Digits ax1.Digits).bind fun v8=>
    (a1z n b1.Sign v8).bind fun v9=>
    some (v9,0)
   else
    (a3a n ax1.Digits b1.Digits).bind fun v10=>
    (a1z n ax1.Sign v10).bind fun v11=>
    some (v11,0)
def a5g(n:Nat)(ax1:Big)(b1:Big):Option (Big×Int):=
 (a1x n ax1).bind fun v1=>
 (bif !v1 then
  some true
 else
  (a1x n b1).bind fun v5=>
  some (!v5)).bind fun v2=>
 bif v2 then
  some ((⟨0,[]⟩:Big),1)
 else
  (a4j n ax1.Digits b1.Digits).bind fun v3=>
  (a1z n (imul .i64 ax1.Sign b1.Sign) v3).bind fun v4=>
  some (v4,0)
def b0m(n:Nat)(ax1:Big)(b1:Big):Option (Big×Big×Int):=
 (a1x n ax1).bind fun v1=>
 (bif !v1 then
  some true
 else
  (a1x n b1).bind fun v11=>
  some (!v11)).bind fun v2=>
 bif v2 then
  some ((⟨0,[]⟩:Big),(⟨0,[]⟩:Big),1)
 else
  bif b1.Sign==0 then
   some ((⟨0,[]⟩:Big),(⟨0,[]⟩:Big),14)
  else
   (a8v n ax1.Digits b1.Digits).bind fun v3=>
   (bif decide (0<=(imul .i64 ax1.Sign b1.Sign))then
    some true
   else
    some ((v3.2.length:Int)==0)).bind fun v4=>
   bif v4 then
    (a1z n (imul .i64 ax1.Sign b1.Sign) v3.1).bind fun v5=>
    (a1z n ax1.Sign v3.2).bind fun v6=>
    some (v5,v6,0)
   else
    (a7j n v3.1 [1]).bind fun v7=>
    (a1z n (-1) v7).bind fun v8=>
    (a3a n b1.Digits v3.2).bind fun v9=>
    (a1z n b1.Sign v9).bind fun v10=>
    some (v8,v10,0)
def a8q(n:Nat)(kont1:(List Int)->Option (Big×Int)):Nat->(List Int)->(List Int)->Option (Big×Int)
 |0,_,_=>none
 |mx1+1,x1,y1=>
  bif decide (0<(y1.length:Int))then
   (a8v n x1 y1).bind fun v4=>
   a8q n kont1 mx1 y1 v4.2
  else
   kont1 x1
def b1h(n:Nat)(ax1:Big)(b1:Big):Option (Big×Int):=
 (a1x n ax1).bind fun v1=>
 (bif !v1 then
  some true
 else
  (a1x n b1).bind fun v5=>
  some (!v5)).bind fun v2=>
 bif v2 then
  some ((⟨0,[]⟩:Big),1)
 else
  a8q n (fun(x2:(List Int))=>
   (a1z n 1 x2).bind fun v3=>
   some (v3,0)) n ax1.Digits b1.Digits
end Go.Proofs.YthaegflpecbfgaaGreatDoor.M
namespace Go.Proofs.YthaegflpecbfgaaGreatDoor.M
open Go Go.RowKit Rt
set_option linter.unusedVariables false
def a2j(n:Nat)(f1:Frac):Option Bool:=
 (a1x n f1.P).bind fun v1=>
 (bif !v1 then
  some true
 else
  (a1x n f1.Q).bind fun v7=>
  some (!v7)).bind fun v2=>
 (bif v2 then
  some true
 else
  some (decide (f1.Q.Sign<1))).bind fun v3=>
 bif v3 then
  some false
 else
  (b1h n f1.P f1.Q).bind fun v4=>
  (b2a n 1).bind fun v5=>
  (a7s n v4.1 v5).bind fun v6=>
  some (v6==0)
def b1g(n:Nat)(p1:Big)(q1:Big):Option (Frac×Int):=
 (a1x n p1).bind fun v1=>
 (bif !v1 then
  some true
 else
  (a1x n q1).bind fun v8=>
  some (!v8)).bind fun v2=>
 bif v2 then
  some ((⟨(⟨0,[]⟩:Big),(⟨0,[]⟩:Big)⟩:Frac),1)
 else
  bif q1.Sign==0 then
   some ((⟨(⟨0,[]⟩:Big),(⟨0,[]⟩:Big)⟩:Frac),14)
  else
   (bif decide (q1.Sign<0)then
    (b2w n p1).bind fun v6=>
    (b2w n q1).bind fun v7=>
    some (v7.Sign,v7.Digits,v6.Sign,v6.Digits)
   else
    some (q1.Sign,q1.Digits,p1.Sign,p1.Digits)).bind fun(f1,f2,f3,f4)=>
   (b1h n (⟨f3,f4⟩:Big) (⟨f1,f2⟩:Big)).bind fun v3=>
   (b0m n (⟨f3,f4⟩:Big) v3.1).bind fun v4=>
   (b0m n (⟨f1,f2⟩:Big) v3.1).bind fun v5=>
   some ((⟨v4.1,v5.1⟩:Frac),0)
def b3t(n:Nat)(p1:Int)(q1:Int):Option (Frac×Int):=
 (b2a n p1).bind fun v1=>
 (b2a n q1).bind fun v2=>
 (b1g n v1 v2).bind fun v3=>
 some (v3.1,v3.2)
def a7h(n:Nat)(ax1:Frac)(b1:Frac):Option (Frac×Int):=
 (a2j n ax1).bind fun v1=>
 (bif !v1 then
  some true
 else
  (a2j n b1).bind fun v8=>
  some (!v8)).bind fun v2=>
 bif v2 then
  some ((⟨(⟨0,[]⟩:Big),(⟨0,[]⟩:Big)⟩:Frac),1)
 else
  (a5g n ax1.P b1.Q).bind fun v3=>
  (a5g n b1.P ax1.Q).bind fun v4=>
  (a5g n ax1.Q b1.Q).bind fun v5=>
  (b5b n v3.1 v4.1).bind fun v6=>
  (b1g n v6.1 v5.1).bind fun v7=>
  some (v7.1,v7.2)
def a8g(n:Nat)(ax1:Frac)(b1:Frac):Option (Frac×Int):=
 (a2j n ax1).bind fun v1=>
 (bif !v1 then
  some true
 else
  (a2j n b1).bind fun v6=>
  some (!v6)).bind fun v2=>
 bif v2 then
  some ((⟨(⟨0,[]⟩:Big),(⟨0,[]⟩:Big)⟩:Frac),1)
 else
  (a5g n ax1.P b1.P).bind fun v3=>
  (a5g n ax1.Q b1.Q).bind fun v4=>
  (b1g n v3.1 v4.1).bind fun v5=>
  some (v5.1,v5.2)
def b1w(n:Nat)(nx1:Int):Option Frac:=
 (b3t n nx1 1).bind fun v1=>
 some v1.1
def b3c(n:Nat)(f1:Frac):Option Int:=
 (a2j n f1).bind fun v1=>
 bif !v1 then
  some 0
 else
  some f1.P.Sign
def a3l(n:Nat)(ax1:Frac)(b1:Frac):Option Int:=
 (a2j n ax1).bind fun v1=>
 (bif !v1 then
  some true
 else
  (a2j n b1).bind fun v6=>
  some (!v6)).bind fun v2=>
 bif v2 then
  some 0
 else
  (a5g n ax1.P b1.Q).bind fun v3=>
  (a5g n b1.P ax1.Q).bind fun v4=>
  (a7s n v3.1 v4.1).bind fun v5=>
  some v5
end Go.Proofs.YthaegflpecbfgaaGreatDoor.M
namespace Go.Proofs.YthaegflpecbfgaaGreatDoor.M
open Go Go.RowKit Rt
set_option linter.unusedVariables false
def c8r(_n:Nat)(nx1:Int)(high1:Int):Option Bool:=
 (bif decide (0<=nx1)then
  some (decide (nx1<=high1))
 else
  some false).bind fun v1=>
 some v1
def b4a(n:Nat)(k1:Int):Option Bool:=
 (c8r n k1 200).bind fun v1=>
 some (!v1)
def b3v(n:Nat)(wx1:Frac):Option Bool:=
 (a2h n wx1).bind fun v1=>
 (bif !v1 then
  some true
 else
  (b4t n wx1).bind fun v3=>
  some (decide (v3<0))).bind fun v2=>
 some v2
def slices_IndexFunc_api_Frac_api_Frac_L1(n:Nat)(s1:(List Frac))(f1:(Frac->Option Bool))(kont1:Option Int):Nat->Int->Option Int
 |0,_=>none
 |mx1+1,i1=>
  bif decide (i1<(s1.length:Int))then
   (ix s1 i1).bind fun ex1=>
   (f1 ex1).bind fun v1=>
   bif v1 then
    some i1
   else
    slices_IndexFunc_api_Frac_api_Frac_L1 n s1 f1 kont1 mx1 (iadd .i64 i1 1)
  else
   kont1
theorem slices_IndexFunc_api_Frac_api_Frac_L1_s:type_of% @slices_IndexFunc_api_Frac_api_Frac_L1.eq_2:= @slices_IndexFunc_api_Frac_api_Frac_L1.eq_2
def a2l(n:Nat)(s1:(List Frac))(f1:(Frac->Option Bool)):Option Int:=
 slices_IndexFunc_api_Frac_api_Frac_L1 n s1 f1 (
  some (-1)) n 0
def a0t(n:Nat)(s1:(List Frac))(f1:(Frac->Option Bool)):Option Bool:=
 (a2l n s1 f1).bind fun v1=>
 some (decide (0<=v1))
structure Facts where
 Lifts:(List Int)
 Persons:Int
 Flats:Int
 deriving DecidableEq,Inhabited
def c2h(n:Nat)(f1:Facts)(weights1:(List Frac))(nx1:Int):Option Bool:=
 (bif(f1.Lifts.length:Int)==nx1 then
  some ((weights1.length:Int)==nx1)
 else
  some false).bind fun v1=>
 (bif v1 then
  (c8r n f1.Persons 1000).bind fun v9=>
  some v9
 else
  some false).bind fun v2=>
 (bif v2 then
  (c8r n f1.Flats 1000).bind fun v8=>
  some v8
 else
  some false).bind fun v3=>
 (bif v3 then
  (a3k n f1.Lifts (b4a n)).bind fun v7=>
  some (!v7)
 else
  some false).bind fun v4=>
 (bif v4 then
  (a0t n weights1 (b3v n)).bind fun v6=>
  some (!v6)
 else
  some false).bind fun v5=>
 some v5
def c2l(n:Nat)(f1:Frac):Option Frac:=
 ((a0u n f1.P.Digits).bind fun v1=>
 (a0u n f1.Q.Digits).bind fun v2=>
 some (v1,v2)).bind fun(f2,f3)=>
 some (⟨(⟨f1.P.Sign,f2⟩:Big),(⟨f1.Q.Sign,f3⟩:Big)⟩:Frac)
def b3x(n:Nat)(op1:Int)(ax1:Frac)(b1:Frac):Option Frac:=
 bif op1==5 then
  (b0h n ax1 b1).bind fun v1=>
  some v1.1
 else
  bif op1==6 then
   (c5r n ax1 b1).bind fun v2=>
   some v2.1
  else
   bif op1==7 then
    (b2i n ax1 b1).bind fun v3=>
    some v3.1
   else
    bif op1==8 then
     (c6x n ax1 b1).bind fun v4=>
     some v4.1
    else
     bif op1==9 then
      (c5e n ax1 b1).bind fun v5=>
      some v5.1
     else
      bif op1==10 then
       (b3w n ax1 b1).bind fun v6=>
       some v6.1
      else
       some (⟨(⟨0,[]⟩:Big),(⟨0,[]⟩:Big)⟩:Frac)
structure known where
 names:(List Bs)
 facts:Facts
 weights:(List Frac)
 deriving DecidableEq,Inhabited
mutual
def fee_known_number:Nat->known->Expr->Option Frac
 |0,_,_=>none
 |n+1,k1,x1=>
  (a1g n k1.names x1.Name).bind fun v1=>
  bif x1.Op==0 then
   (a5s n x1.N).bind fun v2=>
   some v2
  else
   bif x1.Op==1 then
    (ix k1.facts.Lifts v1).bind fun ex1=>
    (a5s n ex1).bind fun v3=>
    some v3
   else
    bif x1.Op==2 then
     (a5s n k1.facts.Persons).bind fun v4=>
     some v4
    else
     bif x1.Op==3 then
      (a5s n k1.facts.Flats).bind fun v5=>
      some v5
     else
      bif x1.Op==4 then
       (ix k1.weights v1).bind fun ex2=>
       some ex2
      else
       bif x1.Op==11 then
        (ix x1.Args 0).bind fun ex3=>
        (fee_known_truth n k1 ex3).bind fun v6=>
        bif v6 then
         (ix x1.Args 1).bind fun ex4=>
         (fee_known_number n k1 ex4).bind fun v7=>
         some v7
        else
         (ix x1.Args 2).bind fun ex5=>
         (fee_known_number n k1 ex5).bind fun v8=>
         some v8
       else
        (ix x1.Args 0).bind fun ex6=>
        (ix x1.Args 1).bind fun ex7=>
        (fee_known_number n k1 ex6).bind fun v9=>
        (fee_known_number n k1 ex7).bind fun v10=>
        (b3x n x1.Op v9 v10).bind fun v11=>
        some v11
def fee_known_truth:Nat->known->Expr->Option Bool
 |0,_,_=>none
 |n+1,k1,x1=>
  bif x1.Op==14 then
   (ix x1.Args 0).bind fun ex1=>
   (fee_known_truth n k1 ex1).bind fun v1=>
   some (!v1)
  else
   bif x1.Op==15 then
    (ix x1.Args 0).bind fun ex2=>
    (fee_known_truth n k1 ex2).bind fun v2=>
    (bif v2 then
     (ix x1.Args 1).bind fun ex3=>
     (fee_known_truth n k1 ex3).bind fun v4=>
     some v4
    else
     some false).bind fun v3=>
    some v3
   else
    bif x1.Op==16 then
     (ix x1.Args 0).bind fun ex4=>
     (fee_known_truth n k1 ex4).bind fun v5=>
     (bif v5 then
      some true
     else
      (ix x1.Args 1).bind fun ex5=>
      (fee_known_truth n k1 ex5).bind fun v7=>
      some v7).bind fun v6=>
     some v6
    else
     (ix x1.Args 0).bind fun ex6=>
     (ix x1.Args 1).bind fun ex7=>
     (fee_known_number n k1 ex6).bind fun v8=>
     (fee_known_number n k1 ex7).bind fun v9=>
     (a4e n v8 v9).bind fun v10=>
     bif x1.Op==12 then
      some (decide (v10<0))
     else
      some (v10==0)
 end
theorem fee_known_number_s:type_of% @fee_known_number.eq_2:= @fee_known_number.eq_2
theorem fee_known_truth_s:type_of% @fee_known_truth.eq_2:= @fee_known_truth.eq_2
def b8h(n:Nat)(t1:Tariff)(names1:(List Bs))(f1:Facts)(weights1:(List Frac)):Option (Frac×Int):=
 (b0j n t1 names1).bind fun v1=>
 bif v1 !=0 then
  some ((⟨(⟨0,[]⟩:Big),(⟨0,[]⟩:Big)⟩:Frac),v1)
 else
  (c2h n f1 weights1 (names1.length:Int)).bind fun v2=>
  bif !v2 then
   some ((⟨(⟨0,[]⟩:Big),(⟨0,[]⟩:Big)⟩:Frac),1)
  else
   (fee_known_number n (⟨names1,f1,weights1⟩:known) t1.Fee).bind fun v3=>
   (c2l n v3).bind fun v4=>
   some (v4,0)
end Go.Proofs.YthaegflpecbfgaaGreatDoor.M
