/- Several texts in one, for FormStraight.card: what the theorem leans on. -/
import Derived.Test.YthaegflpecbfgaaGreatDoorRows
import Derived.Test.YthaegflpecbfgaaGreatDoorPs1
set_option maxHeartbeats 1000000
set_option maxRecDepth 1000000
set_option linter.unusedVariables false
set_option linter.unusedSimpArgs false
namespace Go.Proofs.YthaegflpecbfgaaGreatDoor.M
open Go Go.RowKit Rt
set_option linter.unusedVariables false
def a9u(_n:Nat)(c1:Int):Option Bool:=
 (bif c1==32 then
  some true
 else
  some (c1==9)).bind fun v1=>
 (bif v1 then
  some true
 else
  some (c1==10)).bind fun v2=>
 some v2
def a5g(_n:Nat)(c1:Int):Option Bool:=
 (bif decide (97<=c1)then
  some (decide (c1<=122))
 else
  some false).bind fun v1=>
 (bif v1 then
  some true
 else
  (bif decide (65<=c1)then
   some (decide (c1<=90))
  else
   some false).bind fun v3=>
  some v3).bind fun v2=>
 some v2
theorem b1r(n:Nat)(c1:Int)(r:Bool)(hm:a5g n c1=some r){w:World}:
 Calls Tryz.prog 175 #[.int .u8 c1] w fun e w'=>e= .returned (.bool r)/\w'=w:=by
 unfold a5g at hm
 refine a2g 17 Tryz.func175 Y Y Y (a0f (a0a (a0c Y Y Y (a0e (a0d (a0f (a0a (a0b Y Y Y (a0x Y Y Y Y Y (a0b Y Y Y ?_))))))))))
 obtain⟨v1,h,hm⟩:=Yb hm
 refine a8i 3 (fun a w'=>w=w'/\Has 17 a [(0,.int .u8 c1),(8,.bool v1)]) ?_ ?_
 rintro a s ⟨rfl,o⟩
 refine a2k o (a0b Y Y Y ?_)
 obtain⟨v2,g,hm⟩:=Yb hm
 refine a8i 7 (fun a w'=>w=w'/\Has 17 a [(16,.bool v2)]) ?_ ?_
 rintro a t ⟨rfl,p⟩
 refine a2k p (a0c Y Y Y (a0e (a0d (a3x (a9d Y Y ?_)))))
 obtain rfl:=Yo hm
 exact⟨Y,Y⟩
 clear hm
 rcases a0g g with⟨j,g⟩|⟨j,g⟩
 refine a3o 9 Y j (a1g Y (by decide) Y (a1g Y (by decide) Y (a1g Y (by decide) Y (a1g Y (by decide) Y (a1g Y (by decide) Y (a1g Y (by decide) Y (a0n Y Y Y Y (a0e (a0m (fun a ha=> ?_))))))))))
 cases g
 exact⟨Y,ha.cut (l:= [16]) Y⟩
 refine a3o 9 Y j (a0b Y Y Y (a0x Y Y Y Y Y (a0b Y Y Y ?_)))
 obtain⟨v3,i,g⟩:=Yb g
 refine a8i 3 (fun a w'=>w=w'/\Has 17 a [(9,.bool false),(15,.bool v3)]) ?_ ?_
 rintro a u ⟨rfl,q⟩
 refine a2k q (a0j Y Y Y Y (a0e (a0m (fun a ha=> ?_))))
 cases g
 exact⟨Y,ha.cut (l:= [16]) Y⟩
 clear g
 rcases a0g i with⟨k,i⟩|⟨k,i⟩
 refine a3o 12 Y k (a0b Y Y Y (a0x Y Y Y Y Y (a0n Y Y Y Y (a0e (a0m (fun a ha=> ?_))))))
 cases i
 exact⟨Y,ha.cut (l:= [9,15]) Y⟩
 refine a3o 12 Y k (a1g Y (by decide) Y (a1g Y (by decide) Y (a0j Y Y Y Y (a0e (a0m (fun a ha=> ?_))))))
 cases i
 exact⟨Y,ha.cut (l:= [9,15]) Y⟩
 clear hm
 rcases a0g h with⟨m,h⟩|⟨m,h⟩
 refine a3o 5 Y m (a0b Y Y Y (a0x Y Y Y Y Y (a0n Y Y Y Y (a0e (a0m (fun a ha=> ?_))))))
 cases h
 exact⟨Y,ha.cut (l:= [0,8]) Y⟩
 refine a3o 5 Y m (a1g Y (by decide) Y (a1g Y (by decide) Y (a0j Y Y Y Y (a0e (a0m (fun a ha=> ?_))))))
 cases h
 exact⟨Y,ha.cut (l:= [0,8]) Y⟩
def a6i(_n:Nat)(c1:Int):Option Bool:=
 (bif decide (48<=c1)then
  some (decide (c1<=57))
 else
  some false).bind fun v1=>
 some v1
theorem b2p(n:Nat)(c1:Int)(r:Bool)(hm:a6i n c1=some r){w:World}:
 Calls Tryz.prog 213 #[.int .u8 c1] w fun e w'=>e= .returned (.bool r)/\w'=w:=by
 unfold a6i at hm
 refine a2g 9 Tryz.func213 Y Y Y (a0f (a0a (a0c Y Y Y (a0e (a0d (a0f (a0a (a0b Y Y Y (a0x Y Y Y Y Y (a0b Y Y Y ?_))))))))))
 obtain⟨v1,g,hm⟩:=Yb hm
 refine a8i 3 (fun a w'=>w=w'/\Has 9 a [(8,.bool v1)]) ?_ ?_
 rintro a j ⟨rfl,i⟩
 refine a2k i (a0c Y Y Y (a0e (a0d (a3x (a9d Y Y ?_)))))
 obtain rfl:=Yo hm
 exact⟨Y,Y⟩
 clear hm
 rcases a0g g with⟨h,g⟩|⟨h,g⟩
 refine a3o 5 Y h (a0b Y Y Y (a0x Y Y Y Y Y (a0n Y Y Y Y (a0e (a0m (fun a ha=> ?_))))))
 cases g
 exact⟨Y,ha.cut (l:= [8]) Y⟩
 refine a3o 5 Y h (a1g Y (by decide) Y (a1g Y (by decide) Y (a0j Y Y Y Y (a0e (a0m (fun a ha=> ?_))))))
 cases g
 exact⟨Y,ha.cut (l:= [8]) Y⟩
theorem ent175:Ent Tryz.prog 175:=fun _ _=>by kernel_rfl
theorem ent213:Ent Tryz.prog 213:=fun _ _=>by kernel_rfl
def a5p(n:Nat)(c1:Int):Option Bool:=
 (a5g n c1).bind fun v1=>
 (bif v1 then
  some true
 else
  (a6i n c1).bind fun v4=>
  some v4).bind fun v2=>
 (bif v2 then
  some true
 else
  some (c1==95)).bind fun v3=>
 some v3
theorem c5e(n:Nat)(c1:Int)(r:Bool)(hm:a5p n c1=some r){w:World}:
 Calls Tryz.prog 177 #[.int .u8 c1] w fun e w'=>e= .returned (.bool r)/\w'=w:=by
 unfold a5p at hm
 refine a2g 13 Tryz.func177 Y Y Y (a0f (a0a (a0c Y Y Y (a0e (a0d (a0f (a0a (a0b Y Y Y ?_))))))))
 obtain⟨v1,o,hm⟩:=Yb hm
 refine a8f ent175 Y Y Y Y (b1r _ _ _ o) (a0b Y Y Y ?_)
 obtain⟨v2,g,hm⟩:=Yb hm
 refine a8i 3 (fun a w'=>w=w'/\Has 13 a [(0,.int .u8 c1),(8,.bool v2)]) ?_ ?_
 rintro a q ⟨rfl,k⟩
 refine a2k k (a0b Y Y Y ?_)
 obtain⟨v3,h,hm⟩:=Yb hm
 refine a8i 3 (fun a w'=>w=w'/\Has 13 a [(12,.bool v3)]) ?_ ?_
 rintro a s ⟨rfl,m⟩
 refine a2k m (a0c Y Y Y (a0e (a0d (a3x (a9d Y Y ?_)))))
 obtain rfl:=Yo hm
 exact⟨Y,Y⟩
 clear hm
 rcases a0g h with⟨i,h⟩|⟨i,h⟩
 refine a3o 9 Y i (a1g Y (by decide) Y (a1g Y (by decide) Y (a0n Y Y Y Y (a0e (a0m (fun a ha=> ?_))))))
 cases h
 exact⟨Y,ha.cut (l:= [12]) Y⟩
 refine a3o 9 Y i (a0b Y Y Y (a0x Y Y Y Y Y (a0j Y Y Y Y (a0e (a0m (fun a ha=> ?_))))))
 cases h
 exact⟨Y,ha.cut (l:= [12]) Y⟩
 clear hm
 rcases a0g g with⟨j,g⟩|⟨j,g⟩
 refine a3o 5 Y j (a1g Y (by decide) Y (a1g Y (by decide) Y (a0n Y Y Y Y (a0e (a0m (fun a ha=> ?_))))))
 cases g
 exact⟨Y,ha.cut (l:= [0,8]) Y⟩
 refine a3o 5 Y j (a0b Y Y Y ?_)
 obtain⟨v4,p,g⟩:=Yb g
 refine a8f ent213 Y Y Y Y (b2p _ _ _ p) (a0j Y Y Y Y (a0e (a0m (fun a ha=> ?_))))
 cases g
 exact⟨Y,ha.cut (l:= [0,8]) Y⟩
def b7w(_n:Nat)(c1:Int):Option Bool:=
 (bif decide (32<=c1)then
  some (decide (c1<=126))
 else
  some false).bind fun v1=>
 some v1
theorem c4t(n:Nat)(c1:Int)(r:Bool)(hm:b7w n c1=some r){w:World}:
 Calls Tryz.prog 221 #[.int .u8 c1] w fun e w'=>e= .returned (.bool r)/\w'=w:=by
 unfold b7w at hm
 refine a2g 9 Tryz.func221 Y Y Y (a0f (a0a (a0c Y Y Y (a0e (a0d (a0f (a0a (a0b Y Y Y (a0x Y Y Y Y Y (a0b Y Y Y ?_))))))))))
 obtain⟨v1,g,hm⟩:=Yb hm
 refine a8i 3 (fun a w'=>w=w'/\Has 9 a [(8,.bool v1)]) ?_ ?_
 rintro a j ⟨rfl,i⟩
 refine a2k i (a0c Y Y Y (a0e (a0d (a3x (a9d Y Y ?_)))))
 obtain rfl:=Yo hm
 exact⟨Y,Y⟩
 clear hm
 rcases a0g g with⟨h,g⟩|⟨h,g⟩
 refine a3o 5 Y h (a0b Y Y Y (a0x Y Y Y Y Y (a0n Y Y Y Y (a0e (a0m (fun a ha=> ?_))))))
 cases g
 exact⟨Y,ha.cut (l:= [8]) Y⟩
 refine a3o 5 Y h (a1g Y (by decide) Y (a1g Y (by decide) Y (a0j Y Y Y Y (a0e (a0m (fun a ha=> ?_))))))
 cases g
 exact⟨Y,ha.cut (l:= [8]) Y⟩
theorem u9:Tryz.prog.underlying 9=some .string:=by kernel_rfl
def lexer_span_L1(n:Nat)(s1:Bs)(isx1:(Int->Option Bool))(kont1:Int->Option Int):Nat->Int->Option Int
 |0,_=>none
 |mx1+1,nx1=>
  (bif decide (nx1<(s1.length:Int))then
   (sidx s1 nx1).bind fun c1=>
   (isx1 c1).bind fun v2=>
   some v2
  else
   some false).bind fun v1=>
  bif v1 then
   lexer_span_L1 n s1 isx1 kont1 mx1 (iadd .i64 nx1 1)
  else
   kont1 nx1
theorem lexer_span_L1_s:type_of% @lexer_span_L1.eq_2:= @lexer_span_L1.eq_2
def a4z(n:Nat)(s1:Bs)(isx1:(Int->Option Bool)):Option Int:=
 lexer_span_L1 n s1 isx1 (fun(nx2:Int)=>
  some nx2) n 0
theorem b0x(n:Nat)(s1:Bs)(isx1:(Int->Option Bool))(r:Int)(hm:a4z n s1 isx1=some r){w:World}{fvisx1:Value}(hpfisx1:PFn Tryz.prog fvisx1 (fun l v=>∃(q0:Int)(b:Bool),l= [.int .u8 q0]/\v=some (.bool b)/\isx1 q0=some b)):
 Calls Tryz.prog 176 #[vs s1,fvisx1] w fun e w'=>e= .returned (.int .i64 r)/\w'=w:=by
 unfold a4z at hm
 refine a2g 20 Tryz.func176 Y Y Y (a0f (a0a (a0c Y Y Y (a0e (a0d (a0f (a0a (a0c Y Y Y (a0e (a0d (a0f (a3d ?_))))))))))))
 intro a j
 obtain⟨kont1,hkont1⟩:∃kont1:Int->Option Int,kont1=(fun(nx2:Int)=>some nx2):=⟨_,Y⟩
 replace hm:(fun m(s:Int)=>lexer_span_L1 n s1 isx1 kont1 m s) n 0=some r:=by rw [hkont1];exact hm
 refine b9w (id:=0) (fun m(s:Int)=>lexer_span_L1 n s1 isx1 kont1 m s) (fun(y:Int)=>kont1 y) r (fun(s:Int)a w'=>w=w'/\Has 20 a [(0,vs s1),(1,fvisx1),(5,.int .i64 s)]) (fun(y:Int)a w'=>w=w'/\Has 20 a [(5,.int .i64 y)]) (fun _=>Y) ?_ ?_ hm ⟨Y,j.cut (l:= [0,1,5]) Y⟩
 clear hm;rintro nx2 a u hm ⟨rfl,k⟩
 rw [hkont1]at hm
 replace hm:=hm
 refine a6x (e:= .exit 0) k (a3l (a0d (a0f (a0a (a0b Y Y Y (a0c Y Y Y (a0e (a0d (a3x (a9d Y Y ?_))))))))))
 obtain rfl:=Yo hm
 exact⟨Y,Y⟩
 clear hm hkont1;intro hk1 mx1 K ihx1
 rintro nx1 a x hm ⟨rfl,o⟩
 simp only [lexer_span_L1_s]at hm
 refine a3a o (a0f (a0f (a0a (a0b Y Y Y (a0b Y Y Y (b6y u9 Y Y Y (a0x Y Y Y Y Y (a0b Y Y Y ?_))))))))
 obtain⟨v1,g,hm⟩:=Yb hm
 refine a8i 6 (fun a w'=>w=w'/\Has 20 a [(0,vs s1),(1,fvisx1),(5,.int .i64 nx1),(16,.bool v1)]) ?_ ?_
 rintro a z ⟨rfl,p⟩
 refine a2k p (a0e (a0d ?_))
 rcases a0g hm with⟨h,hm⟩|⟨h,hm⟩
 refine a1j 16 Y h (a1t Y (a2v (a0d (a3d (a0a (a0b Y Y Y (a0x Y Y Y Y Y (a0c Y Y Y (a0e (a4x (a0m (fun a ha=>ihx1 (iadd .i64 nx1 1) a _ hm ?_))))))))))))
 exact⟨Y,ha.cut (l:= [0,1,5]) Y⟩
 refine a1j 16 Y h (a1f Y (b1f (a1b (a1b (fun a ha=>hk1 nx1 a _ hm ?_)))))
 exact⟨Y,ha.cut (l:= [5]) Y⟩
 clear hm
 rcases a0g g with⟨i,g⟩|⟨i,g⟩
 refine a3o 10 Y i (a0b Y Y Y (a0b Y Y Y (a0b Y Y Y ?_)))
 obtain⟨c1,q,g⟩:=Yb g
 refine b1g u9 Y Y Y Y q ?_
 obtain⟨v2,t,g⟩:=Yb g
 refine e7u hpfisx1 Y Y Y Y ⟨_,_,Y,Y,t⟩ (a0n Y Y Y Y (a0e (a0m (fun a ha=> ?_))))
 cases g
 exact⟨Y,ha.cut (l:= [0,1,5,16]) Y⟩
 refine a3o 10 Y i (a1g Y (by decide) Y (a1g Y (by decide) Y (a1g Y (by decide) Y (a1g Y (by decide) Y (a1g Y (by decide) Y (a0j Y Y Y Y (a0e (a0m (fun a ha=> ?_)))))))))
 cases g
 exact⟨Y,ha.cut (l:= [0,1,5,16]) Y⟩
theorem ent177:Ent Tryz.prog 177:=fun _ _=>by kernel_rfl
theorem pf177:∀n,PFn Tryz.prog (.func (.func 177) #[] #[]) (fun l v=>∃(q0:Int)(b:Bool),l= [.int .u8 q0]/\v=some (.bool b)/\a5p n q0=some b):=fun n=>⟨177, #[], #[],rfl,ent177,by
 rintro args v w ⟨q0,b,rfl,hv,hb⟩
 obtain rfl:=Option.some.inj hv
 exact c5e n _ _ hb⟩
theorem ent176:Ent Tryz.prog 176:=fun _ _=>by kernel_rfl
def a4q(n:Nat)(s1:Bs):Option Bool:=
 (bif !(s1== [])then
  (sidx s1 0).bind fun c1=>
  (a5g n c1).bind fun v5=>
  some v5
 else
  some false).bind fun v1=>
 (bif v1 then
  some (decide ((s1.length:Int)<=20))
 else
  some false).bind fun v2=>
 (bif v2 then
  (a4z n s1 (a5p n)).bind fun v4=>
  some (v4==(s1.length:Int))
 else
  some false).bind fun v3=>
 some v3
theorem c6y(n:Nat)(s1:Bs)(r:Bool)(hm:a4q n s1=some r){w:World}:
 Calls Tryz.prog 113 #[vs s1] w fun e w'=>e= .returned (.bool r)/\w'=w:=by
 unfold a4q at hm
 refine a2g 22 Tryz.func113 Y Y Y (a0f (a0a (a0c Y Y Y (a0e (a0d (a0f (a0a (a0b Y Y Y (c0f Y Y Y Y Y (a0b Y Y Y ?_))))))))))
 obtain⟨v1,g,hm⟩:=Yb hm
 refine a8i 4 (fun a w'=>w=w'/\Has 22 a [(0,vs s1),(9,.bool v1)]) ?_ ?_
 rintro a v ⟨rfl,o⟩
 refine a2k o (a0b Y Y Y ?_)
 obtain⟨v2,i,hm⟩:=Yb hm
 refine a8i 4 (fun a w'=>w=w'/\Has 22 a [(0,vs s1),(14,.bool v2)]) ?_ ?_
 rintro a x ⟨rfl,p⟩
 refine a2k p (a0b Y Y Y ?_)
 obtain⟨v3,h,hm⟩:=Yb hm
 refine a8i 6 (fun a w'=>w=w'/\Has 22 a [(21,.bool v3)]) ?_ ?_
 rintro a y ⟨rfl,q⟩
 refine a2k q (a0c Y Y Y (a0e (a0d (a3x (a9d Y Y ?_)))))
 obtain rfl:=Yo hm
 exact⟨Y,Y⟩
 clear hm
 rcases a0g h with⟨j,h⟩|⟨j,h⟩
 refine a3o 15 Y j (a0b Y Y Y ?_)
 obtain⟨v4,s,h⟩:=Yb h
 refine a8f ent176 Y Y Y Y (b0x _ _ _ _ s (pf177 _)) (a0b Y Y Y (b6y u9 Y Y Y (a0x Y Y Y Y Y (a0n Y Y Y Y (a0e (a0m (fun a ha=> ?_)))))))
 cases h
 exact⟨Y,ha.cut (l:= [21]) Y⟩
 refine a3o 15 Y j (a1g Y (by decide) Y (a1g Y (by decide) Y (a1g Y (by decide) Y (a1g Y (by decide) Y (a1g Y (by decide) Y (a0j Y Y Y Y (a0e (a0m (fun a ha=> ?_)))))))))
 cases h
 exact⟨Y,ha.cut (l:= [21]) Y⟩
 clear hm
 rcases a0g i with⟨k,i⟩|⟨k,i⟩
 refine a3o 10 Y k (a0b Y Y Y (b6y u9 Y Y Y (a0x Y Y Y Y Y (a0n Y Y Y Y (a0e (a0m (fun a ha=> ?_)))))))
 cases i
 exact⟨Y,ha.cut (l:= [0,14]) Y⟩
 refine a3o 10 Y k (a1g Y (by decide) Y (a1g Y (by decide) Y (a1g Y (by decide) Y (a0j Y Y Y Y (a0e (a0m (fun a ha=> ?_)))))))
 cases i
 exact⟨Y,ha.cut (l:= [0,14]) Y⟩
 clear hm
 rcases a0g g with⟨m,g⟩|⟨m,g⟩
 refine a3o 5 Y m (a0b Y Y Y ?_)
 obtain⟨c1,t,g⟩:=Yb g
 refine b1g u9 Y Y Y Y t ?_
 obtain⟨v5,u,g⟩:=Yb g
 refine a8f ent175 Y Y Y Y (b1r _ _ _ u) (a0n Y Y Y Y (a0e (a0m (fun a ha=> ?_))))
 cases g
 exact⟨Y,ha.cut (l:= [0,9]) Y⟩
 refine a3o 5 Y m (a1g Y (by decide) Y (a1g Y (by decide) Y (a1g Y (by decide) Y (a0j Y Y Y Y (a0e (a0m (fun a ha=> ?_)))))))
 cases g
 exact⟨Y,ha.cut (l:= [0,9]) Y⟩
theorem u5:Tryz.prog.underlying 5=some (.int .u8):=by kernel_rfl
theorem u3:Tryz.prog.underlying 3=some (.int .i64):=by kernel_rfl
theorem pf213:∀n,PFn Tryz.prog (.func (.func 213) #[] #[]) (fun l v=>∃(q0:Int)(b:Bool),l= [.int .u8 q0]/\v=some (.bool b)/\a6i n q0=some b):=fun n=>⟨213, #[], #[],rfl,ent213,by
 rintro args v w ⟨q0,b,rfl,hv,hb⟩
 obtain rfl:=Option.some.inj hv
 exact b2p n _ _ hb⟩
def lexer_Number_L1(n:Nat)(s1:Bs)(kont1:Int->Option (Int×Bool)):Nat->Int->Int->Option (Int×Bool)
 |0,_,_=>none
 |mx1+1,nx1,i1=>
  bif decide (i1<(s1.length:Int))then
   (sidx s1 i1).bind fun c1=>
   lexer_Number_L1 n s1 kont1 mx1 (iadd .i64 (imul .i64 10 nx1) (IntKind.i64.wrap (isub .u8 c1 48))) (iadd .i64 i1 1)
  else
   kont1 nx1
theorem lexer_Number_L1_s:type_of% @lexer_Number_L1.eq_2:= @lexer_Number_L1.eq_2
def b5m(n:Nat)(s1:Bs):Option (Int×Bool):=
 (bif s1== []then
  some true
 else
  (a4z n s1 (a6i n)).bind fun v5=>
  some (v5 !=(s1.length:Int))).bind fun v1=>
 (bif v1 then
  some true
 else
  (sidx s1 0).bind fun c2=>
  (bif c2==48 then
   some (!(s1== [48]))
  else
   some false).bind fun v4=>
  some v4).bind fun v2=>
 (bif v2 then
  some true
 else
  some (decide (13<(s1.length:Int)))).bind fun v3=>
 bif v3 then
  some (0,false)
 else
  lexer_Number_L1 n s1 (fun(nx2:Int)=>
   bif decide (1099511627776<nx2)then
    some (0,false)
   else
    some (nx2,true)) n 0 0
theorem c3f(n:Nat)(s1:Bs)(r:(Int×Bool))(hm:b5m n s1=some r){w:World}:
 Calls Tryz.prog 217 #[vs s1] w fun e w'=>e= .returned (.tuple #[.int .i64 r.1,.bool r.2])/\w'=w:=by
 unfold b5m at hm
 refine a2g 46 Tryz.func217 Y Y Y (a0f (a0a (a0c Y Y Y (a0c Y Y Y (a0e (a0d (a0f (a0f (a0a (a0b Y Y Y (c0f Y Y Y Y Y (a0b Y Y Y ?_))))))))))))
 obtain⟨v1,h,hm⟩:=Yb hm
 refine a8i 6 (fun a w'=>w=w'/\Has 46 a [(0,vs s1),(14,.bool v1)]) ?_ ?_
 rintro a R ⟨rfl,x⟩
 refine a2k x (a0b Y Y Y ?_)
 obtain⟨v2,g,hm⟩:=Yb hm
 refine a8i 8 (fun a w'=>w=w'/\Has 46 a [(0,vs s1),(23,.bool v2)]) ?_ ?_
 rintro a T ⟨rfl,z⟩
 refine a2k z (a0b Y Y Y ?_)
 obtain⟨v3,i,hm⟩:=Yb hm
 refine a8i 4 (fun a w'=>w=w'/\Has 46 a [(0,vs s1),(28,.bool v3)]) ?_ ?_
 rintro a U ⟨rfl,G⟩
 refine a2k G (a0e (a0d ?_))
 rcases a0g hm with⟨p,hm⟩|⟨p,hm⟩
 refine a1j 28 Y p (a1t Y (a0f (a0a (a0c Y Y Y (a0c Y Y Y (a0e (a0d (a3x (a0p (a9f (vl:= [.int .i64 0,.bool false]) Y ⟨a6k Y,a6k Y,trivial⟩ (by simp) ?_))))))))))
 obtain rfl:=Yo hm
 exact⟨Y,Y⟩
 refine a1j 28 Y p (a1f Y (a2v (a0d (a0f (a0a (a0c Y Y Y (a0e (a0d (a0f (a0f (a0a (a0b Y Y Y (b6y u9 Y Y Y (a0b Y Y Y (a0e (a0d (a3d ?_)))))))))))))))))
 intro a H
 obtain⟨kont1,hkont1⟩:∃kont1:Int->Option (Int×Bool),kont1=(fun(nx2:Int)=>bif decide (1099511627776<nx2)then some (0,false)else some (nx2,true)):=⟨_,Y⟩
 replace hm:(fun m(s:Int×Int)=>lexer_Number_L1 n s1 kont1 m s.1 s.2) n (0,0)=some r:=by rw [hkont1];exact hm
 refine b9w (id:=0) (fun m(s:Int×Int)=>lexer_Number_L1 n s1 kont1 m s.1 s.2) (fun(y:Int)=>kont1 y) r (fun(s:Int×Int)a w'=>w=w'/\Has 46 a [(0,vs s1),(4,.int .i64 s.1),(30,.int .i64 (s1.length:Int)),(31,.int .i64 s.2)]) (fun(y:Int)a w'=>w=w'/\Has 46 a [(4,.int .i64 y)]) (fun _=>Y) ?_ ?_ hm ⟨Y,H.cut (l:= [0,4,30,31]) Y⟩
 clear hm;rintro nx2 a V hm ⟨rfl,I⟩
 rw [hkont1]at hm
 replace hm:=hm
 refine a6x (e:= .exit 0) I (a3l (a0d (a0f (a0f (a0a (a0b Y Y Y (a0x Y Y Y Y Y (a0e (a0d ?_)))))))))
 rcases a0g hm with⟨q,hm⟩|⟨q,hm⟩
 refine a1j 44 Y q (a1t Y (a0f (a0a (a0c Y Y Y (a0c Y Y Y (a0e (a0d (a3x (a0p (a9f (vl:= [.int .i64 0,.bool false]) Y ⟨a6k Y,a6k Y,trivial⟩ (by simp) ?_))))))))))
 obtain rfl:=Yo hm
 exact⟨Y,Y⟩
 refine a1j 44 Y q (a1f Y (a2v (a0d (a0f (a0a (a0b Y Y Y (a0c Y Y Y (a0c Y Y Y (a0e (a0d (a3x (a9f (vl:= [.int .i64 nx2,.bool true]) Y ⟨a6k Y,a6k Y,trivial⟩ (by simp) ?_))))))))))))
 obtain rfl:=Yo hm
 exact⟨Y,Y⟩
 clear hm hkont1;intro hk1 mx1 K ihx1
 rintro⟨nx1,i1⟩ a Z hm ⟨rfl,J⟩
 simp only [lexer_Number_L1_s]at hm
 refine a3a J (a0f (a0a (a0x Y Y Y Y Y (a0e (a0d (a0f ?_))))))
 rcases a0g hm with⟨t,hm⟩|⟨t,hm⟩
 refine a1j 32 Y t (a1t Y (a2v (a0d (a0f (a3d (a0f (a0a (a0b Y Y Y (a0c Y Y Y (a0e (a0d (a0a (a0b Y Y Y (a0x Y Y Y Y Y (a0b Y Y Y (a0b Y Y Y ?_))))))))))))))))
 obtain⟨c1,M,hm⟩:=Yb hm
 refine b1g u9 Y Y Y Y M (a0x Y Y Y Y Y (e9i u5 u3 Y Y Y (a0x Y Y Y Y Y (a0c Y Y Y (a0e (a4x (a0d (a0a (a0x Y Y Y Y Y (a0b Y Y Y (a0e ?_)))))))))))
 refine a0m (fun a ha=>ihx1 ((iadd .i64 (imul .i64 10 nx1) (IntKind.i64.wrap (isub .u8 c1 48))),(iadd .i64 i1 1)) a _ hm ?_)
 exact⟨Y,ha.cut (l:= [0,4,30,31]) Y⟩
 refine a1j 32 Y t (a1f Y (b1f (a1b (a1b (fun a ha=>hk1 nx1 a _ hm ?_)))))
 exact⟨Y,ha.cut (l:= [4]) Y⟩
 clear hm
 rcases a0g i with⟨u,i⟩|⟨u,i⟩
 refine a3o 24 Y u (a1g Y (by decide) Y (a1g Y (by decide) Y (a1g Y (by decide) Y (a0n Y Y Y Y (a0e (a0m (fun a ha=> ?_)))))))
 cases i
 exact⟨Y,ha.cut (l:= [0,28]) Y⟩
 refine a3o 24 Y u (a0b Y Y Y (b6y u9 Y Y Y (a0x Y Y Y Y Y (a0j Y Y Y Y (a0e (a0m (fun a ha=> ?_)))))))
 cases i
 exact⟨Y,ha.cut (l:= [0,28]) Y⟩
 clear hm
 rcases a0g g with⟨v,g⟩|⟨v,g⟩
 refine a3o 15 Y v (a1g Y (by decide) Y (a1g Y (by decide) Y (a1g Y (by decide) Y (a1g Y (by decide) Y (a1g Y (by decide) Y (a1g Y (by decide) Y (a1g Y (by decide) Y (a0n Y Y Y Y (a0e (a0m (fun a ha=> ?_)))))))))))
 cases g
 exact⟨Y,ha.cut (l:= [0,23]) Y⟩
 refine a3o 15 Y v (a0b Y Y Y ?_)
 obtain⟨c2,N,g⟩:=Yb g
 refine b1g u9 Y Y Y Y N (a0x Y Y Y Y Y (a0b Y Y Y ?_))
 obtain⟨v4,j,g⟩:=Yb g
 refine a8i 3 (fun a w'=>w=w'/\Has 46 a [(0,vs s1),(15,.bool false),(22,.bool v4)]) ?_ ?_
 rintro a g0 ⟨rfl,L⟩
 refine a2k L (a0j Y Y Y Y (a0e (a0m (fun a ha=> ?_))))
 cases g
 exact⟨Y,ha.cut (l:= [0,23]) Y⟩
 clear g
 rcases a0g j with⟨k,j⟩|⟨k,j⟩
 refine a3o 19 Y k (a0b Y Y Y (c0f Y Y Y Y Y (a0n Y Y Y Y (a0e (a0m (fun a ha=> ?_))))))
 cases j
 exact⟨Y,ha.cut (l:= [0,15,22]) Y⟩
 refine a3o 19 Y k (a1g Y (by decide) Y (a1g Y (by decide) Y (a0j Y Y Y Y (a0e (a0m (fun a ha=> ?_))))))
 cases j
 exact⟨Y,ha.cut (l:= [0,15,22]) Y⟩
 clear hm
 rcases a0g h with⟨o,h⟩|⟨o,h⟩
 refine a3o 8 Y o (a1g Y (by decide) Y (a1g Y (by decide) Y (a1g Y (by decide) Y (a1g Y (by decide) Y (a1g Y (by decide) Y (a0n Y Y Y Y (a0e (a0m (fun a ha=> ?_)))))))))
 cases h
 exact⟨Y,ha.cut (l:= [0,14]) Y⟩
 refine a3o 8 Y o (a0b Y Y Y ?_)
 obtain⟨v5,Q,h⟩:=Yb h
 refine a8f ent176 Y Y Y Y (b0x _ _ _ _ Q (pf213 _)) (a0b Y Y Y (b6y u9 Y Y Y (a0x Y Y Y Y Y (a0j Y Y Y Y (a0e (a0m (fun a ha=> ?_)))))))
 cases h
 exact⟨Y,ha.cut (l:= [0,14]) Y⟩
def b5g(n:Nat)(s1:Bs)(kont2:Int->Option Int):Nat->Int->Option Int
 |0,_=>none
 |mx2+1,nx3=>
  (bif decide (nx3<(s1.length:Int))then
   (sidx s1 nx3).bind fun c1=>
   some (c1 !=10)
  else
   some false).bind fun v4=>
  bif v4 then
   b5g n s1 kont2 mx2 (iadd .i64 nx3 1)
  else
   kont2 nx3
def b5y(n:Nat)(s1:Bs)(kont1:Int->Option Int):Nat->Int->Option Int
 |0,_=>none
 |mx1+1,nx1=>
  (bif decide (nx1<(s1.length:Int))then
   (sidx s1 nx1).bind fun c2=>
   some (c2==35)
  else
   some false).bind fun v2=>
  bif v2 then
   b5g n s1 (fun(nx4:Int)=>
    (ssl s1 nx4 s1.length).bind fun t1=>
    (a4z n t1 (a9u n)).bind fun v3=>
    b5y n s1 kont1 mx1 (iadd .i64 nx4 v3)) n nx1
  else
   kont1 nx1
def c4b(n:Nat)(s1:Bs):Option Int:=
 (a4z n s1 (a9u n)).bind fun v1=>
 b5y n s1 (fun(nx2:Int)=>
  some nx2) n v1
theorem u213:Tryz.prog.underlying 213=some (.slice 5):=by kernel_rfl
theorem ap213:AppIs Tryz.prog 213 5 1 1:=AppIs.of (z:= .int .u8 0) (by kernel_rfl) (by kernel_rfl) rfl (by decide) (by decide)
theorem ent221:Ent Tryz.prog 221:=fun _ _=>by kernel_rfl
def lexer_quoted_L1(n:Nat)(s1:Bs)(kont1:Int->(List Int)->Option (Bs×Int)):Nat->Int->(List Int)->Option (Bs×Int)
 |0,_,_=>none
 |mx1+1,nx1,l1=>
  (bif decide ((s1.length:Int)<=nx1)then
   some true
  else
   (sidx s1 nx1).bind fun c7=>
   (b7w n c7).bind fun v4=>
   some (!v4)).bind fun v1=>
  bif v1 then
   some ([],0)
  else
   (sidx s1 nx1).bind fun c1=>
   bif c1==34 then
    kont1 nx1 l1
   else
    (sidx s1 nx1).bind fun c2=>
    bif c2==92 then
     (bif decide ((s1.length:Int)<=(iadd .i64 nx1 1))then
      some true
     else
      (sidx s1 (iadd .i64 nx1 1)).bind fun c4=>
      (bif c4 !=34 then
       (sidx s1 (iadd .i64 nx1 1)).bind fun c5=>
       some (c5 !=92)
      else
       some false).bind fun v3=>
      some v3).bind fun v2=>
     bif v2 then
      some ([],0)
     else
      (sidx s1 (iadd .i64 nx1 1)).bind fun c3=>
      (app 1 l1 [c3]).bind fun l3=>
      lexer_quoted_L1 n s1 kont1 mx1 (iadd .i64 (iadd .i64 nx1 1) 1) l3
    else
     (sidx s1 nx1).bind fun c6=>
     (app 1 l1 [c6]).bind fun l4=>
     lexer_quoted_L1 n s1 kont1 mx1 (iadd .i64 nx1 1) l4
theorem lexer_quoted_L1_s:type_of% @lexer_quoted_L1.eq_2:= @lexer_quoted_L1.eq_2
def b4w(n:Nat)(s1:Bs):Option (Bs×Int):=
 lexer_quoted_L1 n s1 (fun(nx2:Int)(l2:List Int)=>
  bif decide (400<(l2.length:Int))then
   some ([],0)
  else
   some (c8w l2,iadd .i64 nx2 1)) n 1 ([]:List Int)
structure Token where
 Kind:Int
 Text:Bs
 N:Int
 Pos:Int
 deriving DecidableEq,Inhabited
def rp_Token:Rp Token where
 k:=4
 R:=fun _ cs x=>cs= [.int .i64 x.Kind,vs x.Text,.int .i64 x.N,.int .i64 x.Pos]
 len:=by intros;simp_all
 mono:=fun _ h=>h
 one:=by intro F cs x h u hu;subst h;simp at hu;rcases hu with rfl|rfl|rfl|rfl<;>rfl
theorem ze152:c1h Tryz.prog 152 (.agg #[.int .i64 0,vs [],.int .i64 0,.int .i64 0]):=fun _=>by kernel_rfl
theorem ent113:Ent Tryz.prog 113:=fun _ _=>by kernel_rfl
theorem sz152:SizeIs Tryz.prog 152 4:=fun _=>by kernel_rfl
theorem ag152:a9n Tryz.prog 152 true:=fun _=>by kernel_rfl
theorem ent217:Ent Tryz.prog 217:=fun _ _=>by kernel_rfl
theorem ent218:Ent Tryz.prog 218:=fun _ _=>by kernel_rfl
theorem ag211:a9n Tryz.prog 211 true:=fun _=>by kernel_rfl
theorem sz211:SizeIs Tryz.prog 211 13:=fun _=>by kernel_rfl
theorem u211:Tryz.prog.underlying 211=some (.array 13 5):=by kernel_rfl
theorem ag5:a9n Tryz.prog 5 false:=fun _=>by kernel_rfl
theorem sz5:SizeIs Tryz.prog 5 1:=fun _=>by kernel_rfl
def lexer_next_L1(n:Nat)(s1:Bs)(kont1:Option (Token×Int×Int)):Nat->Int->Option (Token×Int×Int)
 |0,_=>none
 |mx1+1,i1=>
  bif decide (i1<13)then
   (ix [40,41,44,59,58,61,60,43,45,42,47,123,125] i1).bind fun c4=>
   (sidx s1 0).bind fun c5=>
   bif c5==c4 then
    (ssl s1 0 1).bind fun t3=>
    some ((⟨3,t3,0,0⟩:Token),1,0)
   else
    lexer_next_L1 n s1 kont1 mx1 (iadd .i64 i1 1)
  else
   kont1
theorem lexer_next_L1_s:type_of% @lexer_next_L1.eq_2:= @lexer_next_L1.eq_2
def b6r(n:Nat)(s1:Bs):Option (Token×Int×Int):=
 (sidx s1 0).bind fun c1=>
 (a5g n c1).bind fun v1=>
 bif v1 then
  (a4z n s1 (a5p n)).bind fun v2=>
  (ssl s1 0 v2).bind fun t1=>
  (a4q n t1).bind fun v3=>
  bif !v3 then
   some ((⟨0,[],0,0⟩:Token),0,3)
  else
   some ((⟨0,t1,0,0⟩:Token),(t1.length:Int),0)
 else
  (sidx s1 0).bind fun c2=>
  (a6i n c2).bind fun v4=>
  bif v4 then
   (a4z n s1 (a6i n)).bind fun v5=>
   (ssl s1 0 v5).bind fun t2=>
   (b5m n t2).bind fun v6=>
   bif !v6.2 then
    some ((⟨0,[],0,0⟩:Token),0,3)
   else
    some ((⟨1,t2,v6.1,0⟩:Token),(t2.length:Int),0)
  else
   (sidx s1 0).bind fun c3=>
   bif c3==34 then
    (b4w n s1).bind fun v7=>
    bif v7.2==0 then
     some ((⟨0,[],0,0⟩:Token),0,2)
    else
     some ((⟨2,v7.1,0,0⟩:Token),v7.2,0)
   else
    lexer_next_L1 n s1 (
     some ((⟨0,[],0,0⟩:Token),0,10)) n 0
theorem sz3:SizeIs Tryz.prog 3 1:=fun _=>by kernel_rfl
def b3j(n:Nat)(s1:Bs):Nat->Int->(List Token)->Option ((List Token)×Int×Int)
 |0,_,_=>none
 |mx1+1,atx1,l1=>
  (ssl s1 atx1 s1.length).bind fun t1=>
  (c4b n t1).bind fun v1=>
  bif(iadd .i64 atx1 v1)==(s1.length:Int)then
   some (l1,0,0)
  else
   (ssl s1 (iadd .i64 atx1 v1) s1.length).bind fun t2=>
   (b6r n t2).bind fun v2=>
   bif v2.2.2 !=0 then
    some ([],iadd .i64 atx1 v1,v2.2.2)
   else
    (app 40 l1 [(⟨v2.1.Kind,v2.1.Text,v2.1.N,iadd .i64 atx1 v1⟩:Token)]).bind fun l2=>
    b3j n s1 mx1 (iadd .i64 (iadd .i64 atx1 v1) v2.2.1) l2
def c0d(n:Nat)(s1:Bs):Option ((List Token)×Int×Int):=
 bif decide (4000<(s1.length:Int))then
  some ([],0,6)
 else
  b3j n s1 n 0 ([]:List Token)
theorem u28:Tryz.prog.underlying 28=some (.slice 3):=by kernel_rfl
theorem ag3:a9n Tryz.prog 3 false:=fun _=>by kernel_rfl
def big_trim_L1(n:Nat)(l1:(List Int))(kont1:Int->Option (List Int)):Nat->Int->Option (List Int)
 |0,_=>none
 |mx1+1,nx1=>
  (bif decide (0<nx1)then
   (ix l1 (isub .i64 nx1 1)).bind fun ex1=>
   some (ex1==0)
  else
   some false).bind fun v1=>
  bif v1 then
   big_trim_L1 n l1 kont1 mx1 (isub .i64 nx1 1)
  else
   kont1 nx1
theorem big_trim_L1_s:type_of% @big_trim_L1.eq_2:= @big_trim_L1.eq_2
def a2s(n:Nat)(l1:(List Int)):Option (List Int):=
 big_trim_L1 n l1 (fun(nx2:Int)=>
  (lsl l1 0 nx2).bind fun l2=>
  some l2) n (l1.length:Int)
theorem b1w(n:Nat)(l1:(List Int))(r:(List Int))(hm:a2s n l1=some r){w:World}{F:Frz}(hs:Sat F w){k:Option Addr}{o:Nat}{g:Nat}(p:SlR (Rp.int .i64) F k o g l1):
 Calls Tryz.prog 191 #[.slice k o g] w fun e w'=>∃m',e= .returned (.slice k m' g)/\w'=w/\m'<=o/\r=l1.take m':=by
 unfold a2s at hm
 have h:=HS.init hs
 refine a2g 21 Tryz.func191 Y Y Y (a0f (a0a (a0c Y Y Y (a0e (a0d (a0f (a0a (a0b Y Y Y (a6y p.len u28 Y Y Y (a0c Y Y Y (a0e (a0d (a0f (a3d ?_))))))))))))))
 intro a u
 obtain⟨kont1,hkont1⟩:∃kont1:Int->Option (List Int),kont1=(fun(nx2:Int)=>(lsl l1 0 nx2).bind fun l2=>some l2):=⟨_,Y⟩
 replace hm:(fun m(s:Int)=>big_trim_L1 n l1 kont1 m s) n (l1.length:Int)=some r:=by rw [hkont1];exact hm
 refine b9w (id:=0) (fun m(s:Int)=>big_trim_L1 n l1 kont1 m s) (fun(y:Int)=>kont1 y) r (fun(s:Int)a w'=>w=w'/\Has 21 a [(0,.slice k o g),(3,.int .i64 s)]) (fun(y:Int)a w'=>w=w'/\Has 21 a [(0,.slice k o g),(3,.int .i64 y)]) (fun _=>Y) ?_ ?_ hm ⟨Y,u.cut (l:= [0,3]) Y⟩
 clear hm;rintro nx2 a M hm ⟨rfl,v⟩
 rw [hkont1]at hm
 replace hm:=hm
 refine a6x (e:= .exit 0) v (a3l (a0d (a0f (a0a (a0b Y Y Y (a0b Y Y Y ?_))))))
 obtain⟨l2,G,hm⟩:=Yb hm
 refine e8g u28 (r:=(Rp.int .i64)) sz3 Y Y Y Y p G ?_
 intro N hvs2 hns2
 refine a0c Y Y Y (a0e (a0d (a3x (a9d Y Y ?_))))
 obtain rfl:=Yo hm
 exact⟨_,Y,Y,hns2,hvs2⟩
 clear hm hkont1;intro hk1 mx1 K ihx1
 rintro nx1 a Q hm ⟨rfl,x⟩
 simp only [big_trim_L1_s]at hm
 refine a3a x (a0f (a0f (a0a (a0b Y Y Y (a0x Y Y Y Y Y (a0b Y Y Y ?_))))))
 obtain⟨v1,i,hm⟩:=Yb hm
 refine a8i 7 (fun a w'=>w=w'/\Has 21 a [(0,.slice k o g),(3,.int .i64 nx1),(15,.bool v1)]) ?_ ?_
 rintro a R ⟨rfl,z⟩
 refine a2k z (a0e (a0d ?_))
 rcases a0g hm with⟨q,hm⟩|⟨q,hm⟩
 refine a1j 15 Y q (a1t Y (a2v (a0d (a3d (a0a (a0b Y Y Y (a0x Y Y Y Y Y (a0c Y Y Y (a0e (a4x (a0m (fun a ha=>ihx1 (isub .i64 nx1 1) a _ hm ?_))))))))))))
 exact⟨Y,ha.cut (l:= [0,3]) Y⟩
 refine a1j 15 Y q (a1f Y (b1f (a1b (a1b (fun a ha=>hk1 nx1 a _ hm ?_)))))
 exact⟨Y,ha.cut (l:= [0,3]) Y⟩
 clear hm
 rcases a0g i with⟨t,i⟩|⟨t,i⟩
 refine a3o 8 Y t (a0b Y Y Y (a0b Y Y Y (a0x Y Y Y Y Y ?_)))
 obtain⟨ex1,H,i⟩:=Yb i
 refine a9w (r:=(Rp.int .i64)) u28 sz3 Y Y Y Y p H ?_
 intro b1 o1 g I J
 have L:g= [.int .i64 ex1]:=J
 subst L
 refine a6u (j:=0) ag3 Y Y h I Y Y (a0x Y Y Y Y Y (a0n Y Y Y Y (a0e (a0m (fun a ha=> ?_)))))
 cases i
 exact⟨Y,ha.cut (l:= [0,3,15]) Y⟩
 refine a3o 8 Y t (a1g Y (by decide) Y (a1g Y (by decide) Y (a1g Y (by decide) Y (a1g Y (by decide) Y (a1g Y (by decide) Y (a1g Y (by decide) Y (a0j Y Y Y Y (a0e (a0m (fun a ha=> ?_))))))))))
 cases i
 exact⟨Y,ha.cut (l:= [0,3,15]) Y⟩
structure Big where
 Sign:Int
 Digits:(List Int)
 deriving DecidableEq,Inhabited
theorem ent191:Ent Tryz.prog 191:=fun _ _=>by kernel_rfl
def a3h(n:Nat)(sign1:Int)(l1:(List Int)):Option Big:=
 (a2s n l1).bind fun v1=>
 bif(v1.length:Int)==0 then
  some (⟨0,[]⟩:Big)
 else
  some (⟨sign1,v1⟩:Big)
def big_Right_L1(n:Nat)(ax1:Big)(kont1:Option Bool):Nat->Int->Option Bool
 |0,_=>none
 |mx1+1,i1=>
  bif decide (i1<(ax1.Digits.length:Int))then
   (ix ax1.Digits i1).bind fun ex2=>
   (bif decide (ex2<0)then
    some true
   else
    some (decide (1048575<ex2))).bind fun v3=>
   bif v3 then
    some false
   else
    big_Right_L1 n ax1 kont1 mx1 (iadd .i64 i1 1)
  else
   kont1
theorem big_Right_L1_s:type_of% @big_Right_L1.eq_2:= @big_Right_L1.eq_2
def a3b(n:Nat)(ax1:Big):Option Bool:=
 big_Right_L1 n ax1 (
  bif(ax1.Digits.length:Int)==0 then
   some (ax1.Sign==0)
  else
   (bif ax1.Sign==1 then
    some true
   else
    some (ax1.Sign==(-1))).bind fun v1=>
   (bif v1 then
    (ix ax1.Digits (isub .i64 (ax1.Digits.length:Int) 1)).bind fun ex1=>
    some (ex1 !=0)
   else
    some false).bind fun v2=>
   some v2) n 0
def a9g(_n:Nat)(x1:Int):Option Bool:=
 some (x1 !=x1)
def a4t(n:Nat)(x1:Int)(y1:Int):Option Int:=
 (a9g n x1).bind fun v1=>
 (a9g n y1).bind fun v2=>
 bif v1 then
  bif v2 then
   some 0
  else
   some (-1)
 else
  bif v2 then
   some 1
  else
   bif decide (x1<y1)then
    some (-1)
   else
    bif decide (y1<x1)then
     some 1
    else
     some 0
def big_compare_L1(n:Nat)(ax1:(List Int))(b1:(List Int))(kont1:Option Int):Nat->Int->Option Int
 |0,_=>none
 |mx1+1,i1=>
  bif decide (0<=i1)then
   (ix ax1 i1).bind fun ex1=>
   (ix b1 i1).bind fun ex2=>
   bif ex1 !=ex2 then
    (ix ax1 i1).bind fun ex3=>
    (ix b1 i1).bind fun ex4=>
    (a4t n ex3 ex4).bind fun v2=>
    some v2
   else
    big_compare_L1 n ax1 b1 kont1 mx1 (isub .i64 i1 1)
  else
   kont1
theorem big_compare_L1_s:type_of% @big_compare_L1.eq_2:= @big_compare_L1.eq_2
def a6j(n:Nat)(ax1:(List Int))(b1:(List Int)):Option Int:=
 bif(ax1.length:Int) !=(b1.length:Int)then
  (a4t n (ax1.length:Int) (b1.length:Int)).bind fun v1=>
  some v1
 else
  big_compare_L1 n ax1 b1 (
   some 0) n (isub .i64 (ax1.length:Int) 1)
theorem ent169:Ent Tryz.prog 169:=fun _ _=>by kernel_rfl
def b1c(n:Nat)(ax1:Big)(b1:Big):Option Int:=
 (a3b n ax1).bind fun v1=>
 (bif !v1 then
  some true
 else
  (a3b n b1).bind fun v5=>
  some (!v5)).bind fun v2=>
 bif v2 then
  some 0
 else
  bif ax1.Sign !=b1.Sign then
   (a4t n ax1.Sign b1.Sign).bind fun v3=>
   some v3
  else
   (a6j n ax1.Digits b1.Digits).bind fun v4=>
   some (imul .i64 ax1.Sign v4)
theorem ap28:AppIs Tryz.prog 28 3 1 8:=AppIs.of (z:= .int .i64 0) (by kernel_rfl) (by kernel_rfl) rfl (by decide) (by decide)
def a0r(_n:Nat)(s1:(List Int)):Option (List Int):=app 8 [] s1
theorem a9a(n:Nat)(s1:(List Int))(r:(List Int))(hm:a0r n s1=some r){w:World}{F:Frz}(hs:Sat F w){g:Option Addr}{j:Nat}{k:Nat}(l:SlR (Rp.int .i64) F g j k s1):
 Calls Tryz.prog 110 #[.slice g j k] w fun e w'=>∃v F' O',e= .returned v/\HS F w [] F' O' w'/\(∃(a0_0:Option Addr)(n0_0:Nat)(c0_0:Nat)(xs0_0:List Value),v= .slice a0_0 n0_0 c0_0/\O'= [.row 3 1 a0_0 n0_0 c0_0 xs0_0]/\RowN (Rp.int .i64) F' n0_0 xs0_0 r):=by
 unfold a0r at hm
 have h:=HS.init hs
 refine a2g (args:= [.slice g j k]) 8 Tryz.func110 Y Y Y (a0f (a0a (a0c Y Y Y (a0e (a0d (a0f (a0f (a0a (a0b Y Y Y (e4b u28 Y Y Y (a0e (a0d ?_))))))))))))
 cases g with
 |none=>
  have h0:s1= []:=by
   rcases l.2.2.2 with h0|⟨_,_,_,h0,_⟩
   ·exact h0
   ·cases h0
  subst h0
  simp only [app,List.length_nil,Nat.add_zero,Nat.zero_mul,Nat.zero_le,if_true,List.append_nil,Option.some.injEq]at hm
  subst hm
  refine a1t Y (a0f (a0a (a0c Y Y Y (a0e (a0d (a3x (a0p (a9d Y Y ?_))))))))
  exact⟨_,_,_,Y,h.nilRow 3 1,none,0,0,[],Y,Y,Y,Y⟩
 |some ad=>
  refine a1f Y (a2v (a0d (a0f (a0a (a0k (e:=3) (cs:= []) (q:=1) Y Y h Y (fun _=>by kernel_rfl) Y Y ?_)))))
  intro b1 w1 h1
  refine a0b Y Y Y (b8x (r:=(Rp.int .i64)) ap28 Y Y Y h1 Y Y (i:=0) Y (show RowN (Rp.int .i64) _ 0 [] []from⟨Y,Y⟩) l hm ?_)
  intro a2 c2 w2 xs2 h2 m
  refine a0c Y Y Y (a0e (a0d (a3x (a9d Y Y ?_))))
  exact⟨_,_,_,Y,h2,a2,_,c2,xs2,Y,Y,m⟩
theorem ent110:Ent Tryz.prog 110:=fun _ _=>by kernel_rfl
def b2u(n:Nat)(ax1:Big):Option Big:=
 (a3b n ax1).bind fun v1=>
 bif !v1 then
  some (⟨0,[]⟩:Big)
 else
  (a0r n ax1.Digits).bind fun v2=>
  (a3h n (IntKind.i64.wrap (0-ax1.Sign)) v2).bind fun v3=>
  some v3
theorem zi3:(Tryz.prog.info? 3).map (·.zero)=some (some (.int .i64 0)):=by kernel_rfl
def big_add_L1(n:Nat)(ax2:(List Int))(b2:(List Int))(kont1:Int->(List Int)->Option (List Int)):Nat->Int->Int->(List Int)->Option (List Int)
 |0,_,_,_=>none
 |mx1+1,carry1,i1,l2=>
  bif decide (i1<(ax2.length:Int))then
   (ix ax2 i1).bind fun ex2=>
   (bif decide (i1<(b2.length:Int))then
    (ix b2 i1).bind fun ex4=>
    some (iadd .i64 (iadd .i64 carry1 ex2) ex4)
   else
    some (iadd .i64 carry1 ex2)).bind fun carry3=>
   (ix l2 i1).bind fun _=>
   (lset l2 i1 (iand .i64 carry3 1048575)).bind fun l5=>
   (shr .i64 carry3 20).bind fun q1=>
   big_add_L1 n ax2 b2 kont1 mx1 q1 (iadd .i64 i1 1) l5
  else
   kont1 carry1 l2
theorem big_add_L1_s:type_of% @big_add_L1.eq_2:= @big_add_L1.eq_2
def b8i(n:Nat)(ax1:(List Int))(b1:(List Int)):Option (List Int):=
 (bif decide ((ax1.length:Int)<(b1.length:Int))then
  some (b1,ax1)
 else
  some (ax1,b1)).bind fun(ax2,b2)=>
 (mks 8 0 (iadd .i64 (ax2.length:Int) 1)).bind fun l1=>
 big_add_L1 n ax2 b2 (fun(carry2:Int)(l3:List Int)=>
  (ix l3 (ax2.length:Int)).bind fun _=>
  (lset l3 (ax2.length:Int) carry2).bind fun l4=>
  (a2s n l4).bind fun v1=>
  some v1) n 0 0 l1
def big_sub_L1(n:Nat)(b1:(List Int))(v1:(List Int))(kont1:(List Int)->Option (List Int)):Nat->Int->Int->(List Int)->Option (List Int)
 |0,_,_,_=>none
 |mx1+1,borrow1,i1,l1=>
  bif decide (i1<(v1.length:Int))then
   (ix l1 i1).bind fun ex1=>
   (bif decide (i1<(b1.length:Int))then
    (ix b1 i1).bind fun ex3=>
    some (isub .i64 (isub .i64 ex1 borrow1) ex3)
   else
    some (isub .i64 ex1 borrow1)).bind fun nx1=>
   (shr .i64 nx1 20).bind fun q1=>
   (ix l1 i1).bind fun _=>
   (lset l1 i1 (iand .i64 nx1 1048575)).bind fun l3=>
   big_sub_L1 n b1 v1 kont1 mx1 (iand .i64 q1 1) (iadd .i64 i1 1) l3
  else
   kont1 l1
theorem big_sub_L1_s:type_of% @big_sub_L1.eq_2:= @big_sub_L1.eq_2
def b4z(n:Nat)(ax1:(List Int))(b1:(List Int)):Option (List Int):=
 (a0r n ax1).bind fun v1=>
 big_sub_L1 n b1 v1 (fun(l2:List Int)=>
  (a2s n l2).bind fun v2=>
  some v2) n 0 0 v1
def big_mul_L2(n:Nat)(b1:(List Int))(i1:Int)(ex1:Int)(kont2:Int->(List Int)->Option (List Int)):Nat->Int->Int->(List Int)->Option (List Int)
 |0,_,_,_=>none
 |mx2+1,carry1,i2,l4=>
  bif decide (i2<(b1.length:Int))then
   (ix b1 i2).bind fun ex4=>
   (ix l4 (iadd .i64 i1 i2)).bind fun ex5=>
   (shr .i64 (iadd .i64 (iadd .i64 ex5 (imul .i64 ex1 ex4)) carry1) 20).bind fun q1=>
   (ix l4 (iadd .i64 i1 i2)).bind fun _=>
   (lset l4 (iadd .i64 i1 i2) (iand .i64 (iadd .i64 (iadd .i64 ex5 (imul .i64 ex1 ex4)) carry1) 1048575)).bind fun l7=>
   big_mul_L2 n b1 i1 ex1 kont2 mx2 q1 (iadd .i64 i2 1) l7
  else
   kont2 carry1 l4
theorem big_mul_L2_s:type_of% @big_mul_L2.eq_2:= @big_mul_L2.eq_2
def big_mul_L1(n:Nat)(ax1:(List Int))(b1:(List Int))(kont1:(List Int)->Option (List Int)):Nat->Int->(List Int)->Option (List Int)
 |0,_,_=>none
 |mx1+1,i1,l2=>
  bif decide (i1<(ax1.length:Int))then
   (ix ax1 i1).bind fun ex1=>
   big_mul_L2 n b1 i1 ex1 (fun(carry2:Int)(l5:List Int)=>
    (ix l5 (iadd .i64 i1 (b1.length:Int))).bind fun ex2=>
    (ix l5 (iadd .i64 i1 (b1.length:Int))).bind fun _=>
    (lset l5 (iadd .i64 i1 (b1.length:Int)) (iadd .i64 ex2 carry2)).bind fun l6=>
    big_mul_L1 n ax1 b1 kont1 mx1 (iadd .i64 i1 1) l6) n 0 0 l2
  else
   kont1 l2
theorem big_mul_L1_s:type_of% @big_mul_L1.eq_2:= @big_mul_L1.eq_2
def b0n(n:Nat)(ax1:(List Int))(b1:(List Int)):Option (List Int):=
 (mks 8 0 (iadd .i64 (ax1.length:Int) (b1.length:Int))).bind fun l1=>
 big_mul_L1 n ax1 b1 (fun(l3:List Int)=>
  (a2s n l3).bind fun v1=>
  some v1) n 0 l1
theorem c5n(n:Nat)(ax1:(List Int))(b1:(List Int))(r:(List Int))(hm:b0n n ax1 b1=some r){w:World}{F:Frz}(hs:Sat F w){J t:Option Addr}{L i u g:Nat}(g6:SlR (Rp.int .i64) F J L i ax1)(R:SlR (Rp.int .i64) F t u g b1):
 Calls Tryz.prog 207 #[.slice J L i,.slice t u g] w fun e w'=>∃v F' O',e= .returned v/\HS F w [] F' O' w'/\(∃(a0_0:Option Addr)(n0_0:Nat)(c0_0:Nat)(xs0_0:List Value),v= .slice a0_0 n0_0 c0_0/\O'= [.row 3 1 a0_0 n0_0 c0_0 xs0_0]/\RowN (Rp.int .i64) F' n0_0 xs0_0 r):=by
 unfold b0n at hm
 have h:=HS.init hs
 refine a2g 67 Tryz.func207 Y Y Y (a0f (a0a (a0c Y Y Y (a0e (a0d (a0f (a0a (a0b Y Y Y (a6y g6.len u28 Y Y Y (a0b Y Y Y (a6y R.len u28 Y Y Y (a0x Y Y Y Y Y ?_))))))))))))
 obtain⟨l1,gs,hm⟩:=Yb hm
 refine d3c (r:=(Rp.int .i64)) ap28 zi3 (fun _=>Y) Y Y Y h Y Y gs ?_
 intro b2 hq xs1 gt gu
 refine a0c Y Y Y (a0e (a0d (a0f (a0f (a0a (a0b Y Y Y (a6y g6.len u28 Y Y Y (a0b Y Y Y (a0e (a0d (a3d ?_)))))))))))
 intro a gc
 obtain⟨kont1,hkont1⟩:∃kont1:(List Int)->Option (List Int),kont1=(fun(l3:List Int)=>(a2s n l3).bind fun v1=>some v1):=⟨_,Y⟩
 replace hm:(fun m(s:Int×List Int)=>big_mul_L1 n ax1 b1 kont1 m s.1 s.2) n (0,l1)=some r:=by rw [hkont1];exact hm
 refine b9w (id:=0) (fun m(s:Int×List Int)=>big_mul_L1 n ax1 b1 kont1 m s.1 s.2) (fun(y:List Int)=>kont1 y) r (fun(s:Int×List Int)a w'=>∃(x:Frz)(M:Option Addr)(z:Nat)(o:Nat)(xss3:List Value),Frz.le F x/\HS F w [] x [.row 3 1 M z o xss3] w'/\(RowN (Rp.int .i64) x z xss3 s.2)/\Has 67 a [(1,.slice t u g),(5,.slice M z o),(18,.slice J L i),(19,.int .i64 (ax1.length:Int)),(20,.int .i64 s.1)]) (fun(y:List Int)a w'=>∃(T:Frz)(U:Option Addr)(V:Nat)(G:Nat)(xss4:List Value),Frz.le F T/\HS F w [] T [.row 3 1 U V G xss4] w'/\(RowN (Rp.int .i64) T V xss4 y)/\Has 67 a [(5,.slice U V G)]) (fun _=>Y) ?_ ?_ hm ⟨_,(some ⟨b2,0,none⟩),((iadd .i64 (ax1.length:Int) (b1.length:Int)).toNat),((iadd .i64 (ax1.length:Int) (b1.length:Int)).toNat),xs1,Yf,gt.Yp [0] Y Y,gu,gc.cut (l:= [1,5,18,19,20]) Y⟩
 clear hm;rintro l3 a hr hm ⟨T,U,V,G,xss4,ht,gd,ge,gi⟩
 rw [hkont1]at hm
 replace hm:=hm
 refine a6x (e:= .exit 0) gi (a3l (a0d (a0f (a0a (a0b Y Y Y ?_)))))
 obtain⟨v1,gv,hm⟩:=Yb hm
 refine c3p ent191 Y Y Y Y (b1w _ _ _ gv (b8n _) (gd.viewRow (p:=0) Y Y ge)) ?_
 intro gf hles5 hvs5
 obtain⟨gw,gg⟩:=gd.cutN (p:=0) Y ge hles5
 rw [<-hvs5]at gg
 refine a0c Y Y Y (a0e (a0d (a3x (a9d Y Y ?_))))
 obtain rfl:=Yo hm
 exact⟨_,_,_,Y,gw.Yp [0] Y Y,U,gf,G,(xss4.take (gf*((Rp.int .i64)).k)),Y,Y,gg⟩
 clear hm hkont1;intro hk1 mx1 K ihx1
 rintro⟨i1,l2⟩ a hu hm ⟨x,M,z,o,xss3,Z,g7,gh,gj⟩
 simp only [big_mul_L1_s]at hm
 refine a3a gj (a0f (a0a (a0x Y Y Y Y Y (a0e (a0d (a0f ?_))))))
 rcases a0g hm with⟨g8,hm⟩|⟨g8,hm⟩
 refine a1j 21 Y g8 (a1t Y (a2v (a0d (a0f (a3d (a0f (a0a (a0b Y Y Y ?_))))))))
 obtain⟨ex1,gx,hm⟩:=Yb hm
 refine a9w (r:=(Rp.int .i64)) u28 sz3 Y Y Y Y (g6.mono Z) gx ?_
 intro b3 o1 i gy gz
 have h0:i= [.int .i64 ex1]:=gz
 subst h0
 refine a6u (j:=0) ag3 Y Y g7 gy Y Y (a0c Y Y Y (a0c Y Y Y (a0e (a0d (a0f (a0a (a0c Y Y Y (a0e (a0d (a0f (a0f (a0a (a0b Y Y Y (a6y R.len u28 Y Y Y (a0b Y Y Y (a0e (a0d (a3d ?_))))))))))))))))))
 intro a gk
 obtain⟨kont2,hkont2⟩:∃kont2:Int->(List Int)->Option (List Int),kont2=(fun(carry2:Int)(l5:List Int)=>(ix l5 (iadd .i64 i1 (b1.length:Int))).bind fun ex2=>(ix l5 (iadd .i64 i1 (b1.length:Int))).bind fun ex3=>(lset l5 (iadd .i64 i1 (b1.length:Int)) (iadd .i64 ex2 carry2)).bind fun l6=>big_mul_L1 n ax1 b1 kont1 mx1 (iadd .i64 i1 1) l6):=⟨_,Y⟩
 replace hm:(fun m(s:Int×Int×List Int)=>big_mul_L2 n b1 i1 ex1 kont2 m s.1 s.2.1 s.2.2) n (0,0,l2)=some r:=by rw [hkont2];exact hm
 refine b9w (id:=2) (fun m(s:Int×Int×List Int)=>big_mul_L2 n b1 i1 ex1 kont2 m s.1 s.2.1 s.2.2) (fun(y:Int×List Int)=>kont2 y.1 y.2) r (fun(s:Int×Int×List Int)a w'=>∃(g0:Frz)(N:Option Addr)(H:Nat)(q:Nat)(xss6:List Value),Frz.le x g0/\HS F w [] g0 [.row 3 1 N H q xss6] w'/\(RowN (Rp.int .i64) g0 H xss6 s.2.2)/\Has 67 a [(1,.slice t u g),(5,.slice N H q),(6,.int .i64 i1),(7,.int .i64 ex1),(8,.int .i64 s.1),(18,.slice J L i),(19,.int .i64 (ax1.length:Int)),(20,.int .i64 i1),(25,.slice t u g),(26,.int .i64 (b1.length:Int)),(27,.int .i64 s.2.1)]) (fun(y:Int×List Int)a w'=>∃(g1:Frz)(g2:Option Addr)(Q:Nat)(g3:Nat)(xss7:List Value),Frz.le x g1/\HS F w [] g1 [.row 3 1 g2 Q g3 xss7] w'/\(RowN (Rp.int .i64) g1 Q xss7 y.2)/\Has 67 a [(1,.slice t u g),(5,.slice g2 Q g3),(6,.int .i64 i1),(8,.int .i64 y.1),(18,.slice J L i),(19,.int .i64 (ax1.length:Int)),(20,.int .i64 i1)]) (fun _=>Y) ?_ ?_ hm ⟨_,M,z,o,xss3,Yf,g7.Yp [0] Y Y,gh,gk.cut (l:= [1,5,6,7,8,18,19,20,25,26,27]) Y⟩
 clear hm;rintro⟨carry2,l5⟩ a hv hm ⟨g1,g2,Q,g3,xss7,h1,g4,g9,gl⟩
 rw [hkont2]at hm
 replace hm:=hm
 refine a6x (e:= .exit 2) gl (a3l (a0d (a0a (a0b Y Y Y (a0b Y Y Y (a0b Y Y Y (a6y R.len u28 Y Y Y (a0x Y Y Y Y Y ?_))))))))
 obtain⟨ex2,h2,hm⟩:=Yb hm
 refine b0a (r:=(Rp.int .i64)) u28 sz3 Y Y g4 Y Y (p:=0) Y Y g9 h2 ?_
 intro b4 o2 g gm ho1 h3 hp1
 have h4:g= [.int .i64 ex2]:=h3
 subst h4
 refine b3w (j:=0) ag3 Y Y g4 Y (p:=0) Y Y gm ho1 hp1 Y (a0b Y Y Y (a0x Y Y Y Y Y ?_))
 obtain⟨ex3,h5,hm⟩:=Yb hm
 refine b0a (r:=(Rp.int .i64)) u28 sz3 Y Y g4 Y Y (p:=0) Y Y g9 h5 ?_
 intro b5 o3 o gn ho2 h6 hp2
 have h7:o= [.int .i64 ex3]:=h6
 subst h7
 obtain⟨l6,h8,hm⟩:=Yb hm
 refine b3f (r:=(Rp.int .i64)) sz3 Y g4 Y Y Y Y Y (p:=0) Y Y gn ho2 g9 Y Y h8 ?_
 intro hw xs2 h9 hb
 refine a0e (a4x (a0d (a0a (a0x Y Y Y Y Y (a0b Y Y Y (a0e (a0m (fun a ha=>ihx1 ((iadd .i64 i1 1),l6) a _ hm ?_))))))))
 exact⟨_,g2,Q,g3,xs2,(Z.trans h1),h9.Yp [0] Y Y,hb,ha.cut (l:= [1,5,18,19,20]) Y⟩
 clear hm hkont2;intro hk2 mx2 K ihx2
 rintro⟨carry1,i2,l4⟩ a hx hm ⟨g0,N,H,q,xss6,ga,I,g5,go⟩
 simp only [big_mul_L2_s]at hm
 refine a3a go (a0f (a0a (a0x Y Y Y Y Y (a0e (a0d (a0f ?_))))))
 rcases a0g hm with⟨gb,hm⟩|⟨gb,hm⟩
 refine a1j 28 Y gb (a1t Y (a2v (a0d (a0f (a3d (a0f (a0a (a0b Y Y Y ?_))))))))
 obtain⟨ex4,hc,hm⟩:=Yb hm
 refine a9w (r:=(Rp.int .i64)) u28 sz3 Y Y Y Y ((R.mono Z).mono ga) hc ?_
 intro b6 o4 G hd he
 have hf:G= [.int .i64 ex4]:=he
 subst hf
 refine a6u (j:=0) ag3 Y Y I hd Y Y (a0c Y Y Y (a0c Y Y Y (a0e (a0d (a0f (a0a (a0b Y Y Y (a0b Y Y Y (a0b Y Y Y (a0x Y Y Y Y Y ?_))))))))))
 obtain⟨ex5,hg,hm⟩:=Yb hm
 refine b0a (r:=(Rp.int .i64)) u28 sz3 Y Y I Y Y (p:=0) Y Y g5 hg ?_
 intro b7 o5 hh gp ho3 hi hp3
 have hj:hh= [.int .i64 ex5]:=hi
 subst hj
 refine b3w (j:=0) ag3 Y Y I Y (p:=0) Y Y gp ho3 hp3 Y (a0b Y Y Y (a0b Y Y Y (a0x Y Y Y Y Y (a0x Y Y Y Y Y (a0b Y Y Y (a0x Y Y Y Y Y (a0c Y Y Y (a0e (a0d (a0a (a0b Y Y Y (a0b Y Y Y (a0b Y Y Y ?_)))))))))))))
 refine a0x Y Y Y Y Y (a0b Y Y Y (a0x Y Y Y Y Y (a0b Y Y Y ?_)))
 obtain⟨q1,hq1,hm⟩:=Yb hm
 refine e6p Y Y Y Y hq1 ?_
 obtain⟨ex6,hk,hm⟩:=Yb hm
 refine b0a (r:=(Rp.int .i64)) u28 sz3 Y Y I Y Y (p:=0) Y Y g5 hk ?_
 intro b8 o6 q gq ho4 hl hp4
 have hn:q= [.int .i64 ex6]:=hl
 subst hn
 obtain⟨l7,ho,hm⟩:=Yb hm
 refine b3f (r:=(Rp.int .i64)) sz3 Y I Y Y Y Y Y (p:=0) Y Y gq ho4 g5 Y Y ho ?_
 intro hy xs3 hp gr
 refine a0c Y Y Y (a0e (a4x (a0d (a0a (a0x Y Y Y Y Y (a0b Y Y Y (a0e (a0m (fun a ha=>ihx2 (q1,(iadd .i64 i2 1),l7) a _ hm ?_)))))))))
 exact⟨_,N,H,q,xs3,ga,hp.Yp [0] Y Y,gr,ha.cut (l:= [1,5,6,7,8,18,19,20,25,26,27]) Y⟩
 refine a1j 28 Y gb (a1f Y (b1f (a1b (a1b (fun a ha=>hk2 (carry1,l4) a _ hm ?_)))))
 exact⟨_,N,H,q,xss6,ga,I.Yp [0] Y Y,g5,ha.cut (l:= [1,5,6,8,18,19,20]) Y⟩
 refine a1j 21 Y g8 (a1f Y (b1f (a1b (a1b (fun a ha=>hk1 l2 a _ hm ?_)))))
 exact⟨_,M,z,o,xss3,Z,g7.Yp [0] Y Y,gh,ha.cut (l:= [5]) Y⟩
def big_short_L1(n:Nat)(ax1:(List Int))(d1:Int)(kont1:Int->(List Int)->Option ((List Int)×Int)):Nat->Int->Int->(List Int)->Option ((List Int)×Int)
 |0,_,_,_=>none
 |mx1+1,rx1,i1,l2=>
  bif decide (0<=i1)then
   (shl .i64 rx1 20).bind fun q1=>
   (ix ax1 i1).bind fun ex1=>
   (quo .i64 (ior .i64 q1 ex1) d1).bind fun q2=>
   (ix l2 i1).bind fun _=>
   (lset l2 i1 q2).bind fun l4=>
   (rem (ior .i64 q1 ex1) d1).bind fun q3=>
   big_short_L1 n ax1 d1 kont1 mx1 q3 (isub .i64 i1 1) l4
  else
   kont1 rx1 l2
theorem big_short_L1_s:type_of% @big_short_L1.eq_2:= @big_short_L1.eq_2
def a8b(n:Nat)(ax1:(List Int))(d1:Int):Option ((List Int)×Int):=
 (mks 8 0 (ax1.length:Int)).bind fun l1=>
 big_short_L1 n ax1 d1 (fun(rx2:Int)(l3:List Int)=>
  (a2s n l3).bind fun v1=>
  some (v1,rx2)) n 0 (isub .i64 (ax1.length:Int) 1) l1
theorem c0z(n:Nat)(ax1:(List Int))(d1:Int)(r:((List Int)×Int))(hm:a8b n ax1 d1=some r){w:World}{F:Frz}(hs:Sat F w){I:Option Addr}{J:Nat}{o:Nat}(L:SlR (Rp.int .i64) F I J o ax1):
 Calls Tryz.prog 206 #[.slice I J o,.int .i64 d1] w fun e w'=>∃v F' O',e= .returned v/\HS F w [] F' O' w'/\(∃(a0_0:Option Addr)(n0_0:Nat)(c0_0:Nat)(xs0_0:List Value),v= .tuple #[.slice a0_0 n0_0 c0_0,.int .i64 r.2]/\O'= [.row 3 1 a0_0 n0_0 c0_0 xs0_0]/\RowN (Rp.int .i64) F' n0_0 xs0_0 r.1):=by
 unfold a8b at hm
 have h:=HS.init hs
 refine a2g 38 Tryz.func206 Y Y Y (a0f (a0a (a0c Y Y Y (a0c Y Y Y (a0e (a0d (a0f (a0a (a0b Y Y Y (a6y L.len u28 Y Y Y ?_))))))))))
 obtain⟨l1,g3,hm⟩:=Yb hm
 refine d3c (r:=(Rp.int .i64)) ap28 zi3 (fun _=>Y) Y Y Y h Y Y g3 ?_
 intro b1 gi xs1 g4 g5
 refine a0c Y Y Y (a0e (a0d (a0f (a0a (a0c Y Y Y (a0e (a0d (a0f (a0f (a0a (a0b Y Y Y (a6y L.len u28 Y Y Y (a0x Y Y Y Y Y (a0c Y Y Y (a0e (a0d (a3d ?_)))))))))))))))))
 intro a Z
 obtain⟨kont1,hkont1⟩:∃kont1:Int->(List Int)->Option ((List Int)×Int),kont1=(fun(rx2:Int)(l3:List Int)=>(a2s n l3).bind fun v1=>some (v1,rx2)):=⟨_,Y⟩
 replace hm:(fun m(s:Int×Int×List Int)=>big_short_L1 n ax1 d1 kont1 m s.1 s.2.1 s.2.2) n (0,(isub .i64 (ax1.length:Int) 1),l1)=some r:=by rw [hkont1];exact hm
 refine b9w (id:=0) (fun m(s:Int×Int×List Int)=>big_short_L1 n ax1 d1 kont1 m s.1 s.2.1 s.2.2) (fun(y:Int×List Int)=>kont1 y.1 y.2) r (fun(s:Int×Int×List Int)a w'=>∃(x:Frz)(q:Option Addr)(i:Nat)(g:Nat)(xss2:List Value),Frz.le F x/\HS F w [] x [.row 3 1 q i g xss2] w'/\(RowN (Rp.int .i64) x i xss2 s.2.2)/\Has 38 a [(0,.slice I J o),(1,.int .i64 d1),(6,.slice q i g),(7,.int .i64 s.1),(8,.int .i64 s.2.1)]) (fun(y:Int×List Int)a w'=>∃(z:Frz)(t:Option Addr)(G:Nat)(u:Nat)(xss3:List Value),Frz.le F z/\HS F w [] z [.row 3 1 t G u xss3] w'/\(RowN (Rp.int .i64) z G xss3 y.2)/\Has 38 a [(6,.slice t G u),(7,.int .i64 y.1)]) (fun _=>Y) ?_ ?_ hm ⟨_,(some ⟨b1,0,none⟩),((ax1.length:Int).toNat),((ax1.length:Int).toNat),xs1,Yf,g4.Yp [0] Y Y,g5,Z.cut (l:= [0,1,6,7,8]) Y⟩
 clear hm;rintro⟨rx2,l3⟩ a gj hm ⟨z,t,G,u,xss3,gk,T,U,g0⟩
 rw [hkont1]at hm
 replace hm:=hm
 refine a6x (e:= .exit 0) g0 (a3l (a0d (a0f (a0a (a0b Y Y Y ?_)))))
 obtain⟨v1,g6,hm⟩:=Yb hm
 refine c3p ent191 Y Y Y Y (b1w _ _ _ g6 (b8n _) (T.viewRow (p:=0) Y Y U)) ?_
 intro M hles4 hvs4
 obtain⟨g7,V⟩:=T.cutN (p:=0) Y U hles4
 rw [<-hvs4]at V
 refine a0b Y Y Y (a0c Y Y Y (a0c Y Y Y (a0e (a0d (a3x (a9f (vl:= [.slice t M u,.int .i64 rx2]) Y ⟨a6k Y,a6k Y,trivial⟩ (by simp) ?_))))))
 obtain rfl:=Yo hm
 exact⟨_,_,_,Y,g7.Yp [0] Y Y,t,M,u,(xss3.take (M*((Rp.int .i64)).k)),Y,Y,V⟩
 clear hm hkont1;intro hk1 mx1 K ihx1
 rintro⟨rx1,i1,l2⟩ a gl hm ⟨x,q,i,g,xss2,N,H,Q,g1⟩
 simp only [big_short_L1_s]at hm
 refine a3a g1 (a0f (a0f (a0a (a0b Y Y Y (a0x Y Y Y Y Y (a0e (a0d ?_)))))))
 rcases a0g hm with⟨R,hm⟩|⟨R,hm⟩
 refine a1j 16 Y R (a1t Y (a2v (a0d (a0f (a3d (a0f (a0a (a0b Y Y Y ?_))))))))
 obtain⟨q1,hq1,hm⟩:=Yb hm
 refine e6z Y Y Y Y hq1 (a0b Y Y Y (a0b Y Y Y ?_))
 obtain⟨ex1,g8,hm⟩:=Yb hm
 refine a9w (r:=(Rp.int .i64)) u28 sz3 Y Y Y Y (L.mono N) g8 ?_
 intro b2 o1 o g9 ga
 have gb:o= [.int .i64 ex1]:=ga
 subst gb
 refine a6u (j:=0) ag3 Y Y H g9 Y Y (a0x Y Y Y Y Y (a0c Y Y Y (a0e (a0d (a0f (a0a (a0b Y Y Y (a0b Y Y Y (a0b Y Y Y (a0b Y Y Y ?_))))))))))
 obtain⟨q2,hq2,hm⟩:=Yb hm
 refine e9k Y Y Y Y hq2 ?_
 obtain⟨ex2,gc,hm⟩:=Yb hm
 refine b0a (r:=(Rp.int .i64)) u28 sz3 Y Y H Y Y (p:=0) Y Y Q gc ?_
 intro b3 o2 g g2 ho1 gd hp1
 have ge:g= [.int .i64 ex2]:=gd
 subst ge
 obtain⟨l4,gf,hm⟩:=Yb hm
 refine b3f (r:=(Rp.int .i64)) sz3 Y H Y Y Y Y Y (p:=0) Y Y g2 ho1 Q Y Y gf ?_
 intro gm xs2 gg gh
 refine a0e (a0d (a0a (a0b Y Y Y (a0b Y Y Y ?_))))
 obtain⟨q3,hq3,hm⟩:=Yb hm
 refine f0k Y Y Y Y hq3 (a0c Y Y Y (a0e (a4x (a0d (a0a (a0b Y Y Y (a0x Y Y Y Y Y (a0c Y Y Y (a0e (a0m (fun a ha=>ihx1 (q3,(isub .i64 i1 1),l4) a _ hm ?_)))))))))))
 exact⟨_,q,i,g,xs2,N,gg.Yp [0] Y Y,gh,ha.cut (l:= [0,1,6,7,8]) Y⟩
 refine a1j 16 Y R (a1f Y (b1f (a1b (a1b (fun a ha=>hk1 (rx1,l2) a _ hm ?_)))))
 exact⟨_,q,i,g,xss2,N,H.Yp [0] Y Y,Q,ha.cut (l:= [6,7]) Y⟩
def big_settle_L2(n:Nat)(v1:(List Int))(l2:List Int)(kont1:(List Int)->Option ((List Int)×Int)):Nat->Int->Int->(List Int)->Option ((List Int)×Int)
 |0,_,_,_=>none
 |mx1+1,carry1,i2,l3=>
  bif decide (i2<(l2.length:Int))then
   (ix l3 i2).bind fun ex1=>
   (bif decide (i2<(v1.length:Int))then
    (ix v1 i2).bind fun ex3=>
    some (iadd .i64 (iadd .i64 carry1 ex1) ex3)
   else
    some (iadd .i64 carry1 ex1)).bind fun carry2=>
   (ix l3 i2).bind fun _=>
   (lset l3 i2 (iand .i64 carry2 1048575)).bind fun l5=>
   (shr .i64 carry2 20).bind fun q1=>
   big_settle_L2 n v1 l2 kont1 mx1 q1 (iadd .i64 i2 1) l5
  else
   kont1 l3
theorem big_settle_L2_s:type_of% @big_settle_L2.eq_2:= @big_settle_L2.eq_2
def big_settle_L1(n:Nat)(u1:(List Int))(v1:(List Int))(guess1:Int)(kont2:Int->(List Int)->Option ((List Int)×Int)):Nat->Int->Int->(List Int)->Option ((List Int)×Int)
 |0,_,_,_=>none
 |mx2+1,borrow1,i1,l1=>
  bif decide (i1<(u1.length:Int))then
   (ix l1 i1).bind fun ex4=>
   (bif decide (i1<(v1.length:Int))then
    (ix v1 i1).bind fun ex6=>
    some (isub .i64 (isub .i64 ex4 borrow1) (imul .i64 guess1 ex6))
   else
    some (isub .i64 ex4 borrow1)).bind fun nx1=>
   (ix l1 i1).bind fun _=>
   (lset l1 i1 (iand .i64 nx1 1048575)).bind fun l6=>
   (shr .i64 nx1 20).bind fun q2=>
   big_settle_L1 n u1 v1 guess1 kont2 mx2 (IntKind.i64.wrap (0-q2)) (iadd .i64 i1 1) l6
  else
   kont2 borrow1 l1
theorem big_settle_L1_s:type_of% @big_settle_L1.eq_2:= @big_settle_L1.eq_2
def a9v(n:Nat)(u1:(List Int))(v1:(List Int))(guess1:Int):Option ((List Int)×Int):=
 big_settle_L1 n u1 v1 guess1 (fun(borrow2:Int)(l2:List Int)=>
  bif borrow2==0 then
   some (l2,guess1)
  else
   big_settle_L2 n v1 l2 (fun(l4:List Int)=>
    some (l4,isub .i64 guess1 1)) n 0 0 l2) n 0 0 u1
theorem c7p(n:Nat)(u1:(List Int))(v1:(List Int))(guess1:Int)(r:((List Int)×Int))(hm:a9v n u1 v1 guess1=some r){w:World}{F:Frz}(hs:Sat F w){au1:Option Addr}{nu1:Nat}{cu1:Nat}{preu1 xsu1 postu1:List Value}{i:Option Addr}{k:Nat}{g:Nat}(hbu1:(OE.win 3 1 au1 nu1 cu1 preu1 xsu1 postu1).ok w)(hfu1:∀b,(OE.win 3 1 au1 nu1 cu1 preu1 xsu1 postu1).blk=some b->F b=none)(hru1:RowN (Rp.int .i64) F nu1 xsu1 u1)(z:SlR (Rp.int .i64) F i k g v1):
 Calls Tryz.prog 208 #[.slice au1 nu1 cu1,.slice i k g,.int .i64 guess1] w fun e w'=>∃v F' xs' O',e= .returned v/\HS F w (blks (OE.win 3 1 au1 nu1 cu1 preu1 xsu1 postu1)) F' (.win 3 1 au1 nu1 cu1 preu1 xs' postu1::O') w'/\(v= .int .i64 r.2/\O'= []/\RowN (Rp.int .i64) F' nu1 xs' r.1):=by
 unfold a9v at hm
 have h:=HS.lendE hs hbu1 hfu1
 refine a2g 78 Tryz.func208 Y Y Y (a0f (a0a (a0c Y Y Y (a0e (a0d (a0f (a0a (a0c Y Y Y (a0e (a0d (a0f (a0f (a0a (a0b Y Y Y (a6y hru1.len u28 Y Y Y (a0b Y Y Y (a0e (a0d (a3d ?_)))))))))))))))))))
 intro a g0
 obtain⟨kont2,hkont2⟩:∃kont2:Int->(List Int)->Option ((List Int)×Int),kont2=(fun(borrow2:Int)(l2:List Int)=>bif borrow2==0 then some (l2,guess1)else big_settle_L2 n v1 l2 (fun(l4:List Int)=>some (l4,isub .i64 guess1 1)) n 0 0 l2):=⟨_,Y⟩
 replace hm:(fun m(s:Int×Int×List Int)=>big_settle_L1 n u1 v1 guess1 kont2 m s.1 s.2.1 s.2.2) n (0,0,u1)=some r:=by rw [hkont2];exact hm
 refine b9w (id:=0) (fun m(s:Int×Int×List Int)=>big_settle_L1 n u1 v1 guess1 kont2 m s.1 s.2.1 s.2.2) (fun(y:Int×List Int)=>kont2 y.1 y.2) r (fun(s:Int×Int×List Int)a w'=>∃(G:Frz)(xss2:List Value),Frz.le F G/\HS F w (blks (OE.win 3 1 au1 nu1 cu1 preu1 xsu1 postu1)) G [.win 3 1 au1 nu1 cu1 preu1 xss2 postu1] w'/\(RowN (Rp.int .i64) G nu1 xss2 s.2.2)/\Has 78 a [(0,.slice au1 nu1 cu1),(1,.slice i k g),(2,.int .i64 guess1),(7,.int .i64 s.1),(13,.int .i64 (u1.length:Int)),(14,.int .i64 s.2.1)]) (fun(y:Int×List Int)a w'=>∃(t:Frz)(xss3:List Value),Frz.le F t/\HS F w (blks (OE.win 3 1 au1 nu1 cu1 preu1 xsu1 postu1)) t [.win 3 1 au1 nu1 cu1 preu1 xss3 postu1] w'/\(RowN (Rp.int .i64) t nu1 xss3 y.2)/\Has 78 a [(0,.slice au1 nu1 cu1),(1,.slice i k g),(2,.int .i64 guess1),(7,.int .i64 y.1)]) (fun _=>Y) ?_ ?_ hm ⟨_,xsu1,Yf,h.Yp [0] Y Y,hru1,g0.cut (l:= [0,1,2,7,13,14]) Y⟩
 clear hm;rintro⟨borrow2,l2⟩ a he hm ⟨t,xss3,gd,g3,M,g4⟩
 rw [hkont2]at hm
 replace hm:=hm
 refine a6x (e:= .exit 0) g4 (a3l (a0d (a0f (a0f (a0a (a0b Y Y Y (a0x Y Y Y Y Y (a0e (a0d ?_)))))))))
 rcases a0g hm with⟨N,hm⟩|⟨N,hm⟩
 refine a1j 45 Y N (a1t Y (a0f (a0a (a0b Y Y Y (a0c Y Y Y (a0e (a0d (a3x (a0p (a9d Y Y ?_))))))))))
 obtain rfl:=Yo hm
 exact⟨_,_,_,_,Y,g3.Yp [0] Y Y,Y,Y,M⟩
 refine a1j 45 Y N (a1f Y (a2v (a0d (a0f (a0a (a0c Y Y Y (a0e (a0d (a0f (a0f (a0a (a0b Y Y Y (a6y M.len u28 Y Y Y (a0b Y Y Y (a0e (a0d (a3d ?_)))))))))))))))))
 intro a g5
 obtain⟨kont1,hkont1⟩:∃kont1:(List Int)->Option ((List Int)×Int),kont1=(fun(l4:List Int)=>some (l4,isub .i64 guess1 1)):=⟨_,Y⟩
 replace hm:(fun m(s:Int×Int×List Int)=>big_settle_L2 n v1 l2 kont1 m s.1 s.2.1 s.2.2) n (0,0,l2)=some r:=by rw [hkont1];exact hm
 refine b9w (id:=2) (fun m(s:Int×Int×List Int)=>big_settle_L2 n v1 l2 kont1 m s.1 s.2.1 s.2.2) (fun(y:List Int)=>kont1 y) r (fun(s:Int×Int×List Int)a w'=>∃(H:Frz)(xss4:List Value),Frz.le t H/\HS F w (blks (OE.win 3 1 au1 nu1 cu1 preu1 xsu1 postu1)) H [.win 3 1 au1 nu1 cu1 preu1 xss4 postu1] w'/\(RowN (Rp.int .i64) H nu1 xss4 s.2.2)/\Has 78 a [(0,.slice au1 nu1 cu1),(1,.slice i k g),(2,.int .i64 guess1),(10,.int .i64 s.1),(48,.int .i64 (l2.length:Int)),(49,.int .i64 s.2.1)]) (fun(y:List Int)a w'=>∃(I:Frz)(xss5:List Value),Frz.le t I/\HS F w (blks (OE.win 3 1 au1 nu1 cu1 preu1 xsu1 postu1)) I [.win 3 1 au1 nu1 cu1 preu1 xss5 postu1] w'/\(RowN (Rp.int .i64) I nu1 xss5 y)/\Has 78 a [(2,.int .i64 guess1)]) (fun _=>Y) ?_ ?_ hm ⟨_,xss3,Yf,g3.Yp [0] Y Y,M,g5.cut (l:= [0,1,2,10,48,49]) Y⟩
 clear hm;rintro l4 a hf hm ⟨I,xss5,hg,ge,gf,g6⟩
 rw [hkont1]at hm
 replace hm:=hm
 refine a6x (e:= .exit 2) g6 (a3l (a0d (a0f (a0a (a0b Y Y Y (a0x Y Y Y Y Y (a0c Y Y Y (a0e (a0d (a3x (a9d Y Y ?_)))))))))))
 obtain rfl:=Yo hm
 exact⟨_,_,_,_,Y,ge.Yp [0] Y Y,Y,Y,gf⟩
 clear hm hkont1;intro hk1 mx1 K ihx1
 rintro⟨carry1,i2,l3⟩ a gg hm ⟨H,xss4,Q,u,J,g7⟩
 simp only [big_settle_L2_s]at hm
 refine a3a g7 (a0f (a0a (a0x Y Y Y Y Y (a0e (a0d (a0f ?_))))))
 rcases a0g hm with⟨R,hm⟩|⟨R,hm⟩
 refine a1j 50 Y R (a1t Y (a2v (a0d (a0f (a3d (a0f (a0a (a0b Y Y Y (a0c Y Y Y (a0e (a0d (a0f (a0a (a0b Y Y Y (a0b Y Y Y (a0b Y Y Y ?_))))))))))))))))
 obtain⟨ex1,gh,hm⟩:=Yb hm
 refine b0a (r:=(Rp.int .i64)) u28 sz3 Y Y u Y Y (p:=0) Y Y J gh ?_
 intro b1 o1 g g8 ho1 gi hp1
 have gj:g= [.int .i64 ex1]:=gi
 subst gj
 refine b3w (j:=0) ag3 Y Y u Y (p:=0) Y Y g8 ho1 hp1 Y (a0x Y Y Y Y Y (a0c Y Y Y (a0e (a0d (a0f (a0f (a0a (a0b Y Y Y (a0b Y Y Y (a6y z.len u28 Y Y Y (a0x Y Y Y Y Y (a0e (a0d ?_)))))))))))))
 obtain⟨carry2,o,hm⟩:=Yb hm
 refine c0t (fun a w'=>gg=w'/\Has 78 a [(0,.slice au1 nu1 cu1),(1,.slice i k g),(2,.int .i64 guess1),(10,.int .i64 carry2),(11,.int .i64 i2),(48,.int .i64 (l2.length:Int)),(49,.int .i64 i2)]) ?_ ?_
 rintro a hh ⟨rfl,g9⟩
 refine a3a g9 (a0f (a0a (a0b Y Y Y (a0b Y Y Y (a0b Y Y Y (a0x Y Y Y Y Y ?_))))))
 obtain⟨ex2,gk,hm⟩:=Yb hm
 refine b0a (r:=(Rp.int .i64)) u28 sz3 Y Y u Y Y (p:=0) Y Y J gk ?_
 intro b2 o2 gl ga ho2 gm hp2
 have gn:gl= [.int .i64 ex2]:=gm
 subst gn
 obtain⟨l5,go,hm⟩:=Yb hm
 refine b3f (r:=(Rp.int .i64)) sz3 Y u Y Y Y Y Y (p:=0) Y Y ga ho2 J Y Y go ?_
 intro hi xs1 gp gq
 refine a0e (a0d (a0a (a0b Y Y Y ?_)))
 obtain⟨q1,hq1,hm⟩:=Yb hm
 refine e6p Y Y Y Y hq1 (a0c Y Y Y (a0e (a4x (a0d (a0a (a0x Y Y Y Y Y (a0b Y Y Y (a0e (a0m (fun a ha=>ihx1 (q1,(iadd .i64 i2 1),l5) a _ hm ?_))))))))))
 exact⟨_,xs1,Q,gp.Yp [0] Y Y,gq,ha.cut (l:= [0,1,2,10,48,49]) Y⟩
 clear hm
 rcases a0g o with⟨T,o⟩|⟨T,o⟩
 refine a1j 61 Y T (a1t Y (a0a (a0b Y Y Y (a0b Y Y Y (a0b Y Y Y ?_)))))
 obtain⟨ex3,gr,o⟩:=Yb o
 refine a9w (r:=(Rp.int .i64)) u28 sz3 Y Y Y Y ((z.mono gd).mono Q) gr ?_
 intro b3 o3 gs gt gu
 have gv:gs= [.int .i64 ex3]:=gu
 subst gv
 refine a6u (j:=0) ag3 Y Y u gt Y Y (a0x Y Y Y Y Y (a0c Y Y Y (a0e (a0m (fun a ha=> ?_)))))
 cases o
 exact⟨Y,ha.cut (l:= [0,1,2,10,11,48,49]) Y⟩
 refine a1j 61 Y T (a1f Y (a2v (a0m (fun a ha=> ?_))))
 cases o
 exact⟨Y,ha.cut (l:= [0,1,2,10,11,48,49]) Y⟩
 refine a1j 50 Y R (a1f Y (b1f (a1b (a1b (fun a ha=>hk1 l3 a _ hm ?_)))))
 exact⟨_,xss4,Q,u.Yp [0] Y Y,J,ha.cut (l:= [2]) Y⟩
 clear hm hkont2;intro hk2 mx2 K ihx2
 rintro⟨borrow1,i1,l1⟩ a gw hm ⟨G,xss2,U,x,L,gb⟩
 simp only [big_settle_L1_s]at hm
 refine a3a gb (a0f (a0a (a0x Y Y Y Y Y (a0e (a0d (a0f ?_))))))
 rcases a0g hm with⟨V,hm⟩|⟨V,hm⟩
 refine a1j 15 Y V (a1t Y (a2v (a0d (a0f (a3d (a0f (a0a (a0b Y Y Y (a0c Y Y Y (a0e (a0d (a0f (a0a (a0b Y Y Y (a0b Y Y Y ?_)))))))))))))))
 obtain⟨ex4,gx,hm⟩:=Yb hm
 refine b0a (r:=(Rp.int .i64)) u28 sz3 Y Y x Y Y (p:=0) Y Y L gx ?_
 intro b4 o4 gy gc ho3 gz hp3
 have h0:gy= [.int .i64 ex4]:=gz
 subst h0
 refine b3w (j:=0) ag3 Y Y x Y (p:=0) Y Y gc ho3 hp3 Y (a0b Y Y Y (a0x Y Y Y Y Y (a0c Y Y Y (a0e (a0d (a0f (a0f (a0a (a0b Y Y Y (a0b Y Y Y (a6y z.len u28 Y Y Y (a0x Y Y Y Y Y (a0e (a0d ?_))))))))))))))
 obtain⟨nx1,q,hm⟩:=Yb hm
 refine c0t (fun a w'=>gw=w'/\Has 78 a [(0,.slice au1 nu1 cu1),(1,.slice i k g),(2,.int .i64 guess1),(8,.int .i64 i1),(9,.int .i64 nx1),(13,.int .i64 (u1.length:Int)),(14,.int .i64 i1)]) ?_ ?_
 rintro a hj ⟨rfl,g1⟩
 refine a3a g1 (a0f (a0a (a0b Y Y Y (a0b Y Y Y (a0b Y Y Y (a0x Y Y Y Y Y ?_))))))
 obtain⟨ex5,h1,hm⟩:=Yb hm
 refine b0a (r:=(Rp.int .i64)) u28 sz3 Y Y x Y Y (p:=0) Y Y L h1 ?_
 intro b5 o5 h2 g2 ho4 h3 hp4
 have h4:h2= [.int .i64 ex5]:=h3
 subst h4
 obtain⟨l6,h5,hm⟩:=Yb hm
 refine b3f (r:=(Rp.int .i64)) sz3 Y x Y Y Y Y Y (p:=0) Y Y g2 ho4 L Y Y h5 ?_
 intro hk xs2 h6 h7
 refine a0e (a0d (a0a (a0b Y Y Y ?_)))
 obtain⟨q2,hq2,hm⟩:=Yb hm
 refine e6p Y Y Y Y hq2 (f1c Y Y Y (a0c Y Y Y (a0e (a4x (a0d (a0a (a0x Y Y Y Y Y (a0b Y Y Y (a0e (a0m (fun a ha=>ihx2 ((IntKind.i64.wrap (0-q2)),(iadd .i64 i1 1),l6) a _ hm ?_)))))))))))
 exact⟨_,xs2,U,h6.Yp [0] Y Y,h7,ha.cut (l:= [0,1,2,7,13,14]) Y⟩
 clear hm
 rcases a0g q with⟨Z,q⟩|⟨Z,q⟩
 refine a1j 26 Y Z (a1t Y (a0a (a0b Y Y Y (a0b Y Y Y (a0b Y Y Y (a0b Y Y Y ?_))))))
 obtain⟨ex6,h8,q⟩:=Yb q
 refine a9w (r:=(Rp.int .i64)) u28 sz3 Y Y Y Y (z.mono U) h8 ?_
 intro b6 o6 h9 hb hc
 have hd:h9= [.int .i64 ex6]:=hc
 subst hd
 refine a6u (j:=0) ag3 Y Y x hb Y Y (a0x Y Y Y Y Y (a0x Y Y Y Y Y (a0c Y Y Y (a0e (a0m (fun a ha=> ?_))))))
 cases q
 exact⟨Y,ha.cut (l:= [0,1,2,8,9,13,14]) Y⟩
 refine a1j 26 Y Z (a1f Y (a2v (a0m (fun a ha=> ?_))))
 cases q
 exact⟨Y,ha.cut (l:= [0,1,2,8,9,13,14]) Y⟩
 refine a1j 15 Y V (a1f Y (b1f (a1b (a1b (fun a ha=>hk2 (borrow1,l1) a _ hm ?_)))))
 exact⟨_,xss2,U,x.Yp [0] Y Y,L,ha.cut (l:= [0,1,2,7]) Y⟩
end Go.Proofs.YthaegflpecbfgaaGreatDoor.M
namespace Go.Proofs.YthaegflpecbfgaaGreatDoor.M
open Go Go.RowKit Rt
set_option linter.unusedVariables false
theorem ent206:Ent Tryz.prog 206:=fun _ _=>by kernel_rfl
theorem ent207:Ent Tryz.prog 207:=fun _ _=>by kernel_rfl
theorem ent208:Ent Tryz.prog 208:=fun _ _=>by kernel_rfl
def big_div_L3(n:Nat)(v6:(List Int))(i1:Int)(l5:List Int)(kont2:Int->Option ((List Int)×(List Int))):Nat->Int->Int->Option ((List Int)×(List Int))
 |0,_,_=>none
 |mx2+1,guess1,rest1=>
  (bif decide (1048576<=guess1)then
   some true
  else
   (bif decide (rest1<1048576)then
    (ix v6 (isub .i64 (v6.length:Int) 2)).bind fun ex8=>
    (shl .i64 rest1 20).bind fun q4=>
    (ix l5 (isub .i64 (iadd .i64 i1 (v6.length:Int)) 2)).bind fun ex9=>
    some (decide ((ior .i64 q4 ex9)<(imul .i64 guess1 ex8)))
   else
    some false).bind fun v12=>
   some v12).bind fun v11=>
  bif v11 then
   (ix v6 (isub .i64 (v6.length:Int) 1)).bind fun ex7=>
   big_div_L3 n v6 i1 l5 kont2 mx2 (isub .i64 guess1 1) (iadd .i64 rest1 ex7)
  else
   kont2 guess1
theorem big_div_L3_s:type_of% @big_div_L3.eq_2:= @big_div_L3.eq_2
def big_div_L2(n:Nat)(v6:(List Int))(kont1:(List Int)->(List Int)->Option ((List Int)×(List Int))):Nat->Int->(List Int)->(List Int)->Option ((List Int)×(List Int))
 |0,_,_,_=>none
 |mx1+1,i1,l4,l5=>
  bif decide (0<=i1)then
   (ix l5 (iadd .i64 i1 (v6.length:Int))).bind fun ex2=>
   (shl .i64 ex2 20).bind fun q1=>
   (ix l5 (isub .i64 (iadd .i64 i1 (v6.length:Int)) 1)).bind fun ex3=>
   (ix v6 (isub .i64 (v6.length:Int) 1)).bind fun ex4=>
   (quo .i64 (ior .i64 q1 ex3) ex4).bind fun q2=>
   (ix v6 (isub .i64 (v6.length:Int) 1)).bind fun ex5=>
   (rem (ior .i64 q1 ex3) ex5).bind fun q3=>
   big_div_L3 n v6 i1 l5 (fun(guess2:Int)=>
    (lsl l5 i1 (iadd .i64 (iadd .i64 i1 (v6.length:Int)) 1)).bind fun l8=>
    (a9v n l8 v6 guess2).bind fun v10=>
    (ix l4 i1).bind fun _=>
    (lset l4 i1 v10.2).bind fun l9=>
    big_div_L2 n v6 kont1 mx1 (isub .i64 i1 1) l9 (lput l5 i1 v10.1 (iadd .i64 (iadd .i64 i1 (v6.length:Int)) 1))) n q2 q3
  else
   kont1 l4 l5
theorem big_div_L2_s:type_of% @big_div_L2.eq_2:= @big_div_L2.eq_2
def big_div_L1(n:Nat)(b1:(List Int))(kont3:Int->Option ((List Int)×(List Int))):Nat->Int->Option ((List Int)×(List Int))
 |0,_=>none
 |mx3+1,shift1=>
  (ix b1 (isub .i64 (b1.length:Int) 1)).bind fun ex10=>
  bif decide ((imul .i64 ex10 shift1)<524288)then
   big_div_L1 n b1 kont3 mx3 (imul .i64 shift1 2)
  else
   kont3 shift1
theorem big_div_L1_s:type_of% @big_div_L1.eq_2:= @big_div_L1.eq_2
def b5d(n:Nat)(ax1:(List Int))(b1:(List Int)):Option ((List Int)×(List Int)):=
 (a6j n ax1 b1).bind fun v1=>
 bif decide (v1<0)then
  (a0r n ax1).bind fun v2=>
  some ([],v2)
 else
  bif(b1.length:Int)==1 then
   (ix b1 0).bind fun ex1=>
   (a8b n ax1 ex1).bind fun v3=>
   (a2s n [v3.2]).bind fun v4=>
   some (v3.1,v4)
  else
   big_div_L1 n b1 (fun(shift2:Int)=>
    (b0n n ax1 [shift2]).bind fun v5=>
    (app 8 v5 [0]).bind fun l1=>
    (b0n n b1 [shift2]).bind fun v6=>
    (bif(l1.length:Int)==(ax1.length:Int)then
     (app 8 l1 [0]).bind fun l10=>
     some l10
    else
     some l1).bind fun l2=>
    (mks 8 0 (isub .i64 (l2.length:Int) (v6.length:Int))).bind fun l3=>
    big_div_L2 n v6 (fun(l6:List Int)(l7:List Int)=>
     (a2s n l7).bind fun v7=>
     (a8b n v7 shift2).bind fun v8=>
     (a2s n l6).bind fun v9=>
     some (v9,v8.1)) n (isub .i64 (l3.length:Int) 1) l3 l2) n 1
def a4s(_n:Nat)(right1:Bool)(c1:Big):Option (Big×Int):=
 bif !right1 then
  some ((⟨0,[]⟩:Big),1)
 else
  some (c1,0)
def cmp_Or_int_L1(n:Nat)(vals1:(List Int))(kont1:Option Int):Nat->Int->Option Int
 |0,_=>none
 |mx1+1,i1=>
  bif decide (i1<(vals1.length:Int))then
   (ix vals1 i1).bind fun ex1=>
   bif ex1 !=0 then
    some ex1
   else
    cmp_Or_int_L1 n vals1 kont1 mx1 (iadd .i64 i1 1)
  else
   kont1
theorem cmp_Or_int_L1_s:type_of% @cmp_Or_int_L1.eq_2:= @cmp_Or_int_L1.eq_2
def b2w(n:Nat)(vals1:(List Int)):Option Int:=
 cmp_Or_int_L1 n vals1 (
  some 0) n 0
def c4h(n:Nat)(ax1:Big)(b1:Big):Option (Big×Int):=
 (a3b n ax1).bind fun v1=>
 (bif !v1 then
  some true
 else
  (a3b n b1).bind fun v15=>
  some (!v15)).bind fun v2=>
 bif v2 then
  (a4s n false (⟨0,[]⟩:Big)).bind fun v3=>
  some (v3.1,v3.2)
 else
  bif decide (0<=(imul .i64 ax1.Sign b1.Sign))then
   (b2w n [ax1.Sign,b1.Sign]).bind fun v4=>
   (b8i n ax1.Digits b1.Digits).bind fun v5=>
   (a3h n v4 v5).bind fun v6=>
   (a4s n true v6).bind fun v7=>
   some (v7.1,v7.2)
  else
   (a6j n ax1.Digits b1.Digits).bind fun v8=>
   bif decide (v8<0)then
    (b4z n b1.Digits ax1.Digits).bind fun v9=>
    (a3h n b1.Sign v9).bind fun v10=>
    (a4s n true v10).bind fun v11=>
    some (v11.1,v11.2)
   else
    (b4z n ax1.Digits b1.Digits).bind fun v12=>
    (a3h n ax1.Sign v12).bind fun v13=>
    (a4s n true v13).bind fun v14=>
    some (v14.1,v14.2)
def c2s(n:Nat)(ax1:Big)(b1:Big):Option (Big×Int):=
 (a3b n ax1).bind fun v1=>
 (bif !v1 then
  some true
 else
  (a3b n b1).bind fun v7=>
  some (!v7)).bind fun v2=>
 bif v2 then
  (a4s n false (⟨0,[]⟩:Big)).bind fun v3=>
  some (v3.1,v3.2)
 else
  (b0n n ax1.Digits b1.Digits).bind fun v4=>
  (a3h n (imul .i64 ax1.Sign b1.Sign) v4).bind fun v5=>
  (a4s n true v5).bind fun v6=>
  some (v6.1,v6.2)
def b2t(n:Nat)(ax1:Big)(b1:Big):Option (Big×Big×Int):=
 (a3b n ax1).bind fun v1=>
 (bif !v1 then
  some true
 else
  (a3b n b1).bind fun v11=>
  some (!v11)).bind fun v2=>
 bif v2 then
  some ((⟨0,[]⟩:Big),(⟨0,[]⟩:Big),1)
 else
  bif b1.Sign==0 then
   some ((⟨0,[]⟩:Big),(⟨0,[]⟩:Big),14)
  else
   (b5d n ax1.Digits b1.Digits).bind fun v3=>
   (bif decide ((imul .i64 ax1.Sign b1.Sign)<0)then
    some (decide (0<(v3.2.length:Int)))
   else
    some false).bind fun v4=>
   bif v4 then
    (b8i n v3.1 [1]).bind fun v5=>
    (a3h n (-1) v5).bind fun v6=>
    (b4z n b1.Digits v3.2).bind fun v7=>
    (a3h n b1.Sign v7).bind fun v8=>
    some (v6,v8,0)
   else
    (a3h n (imul .i64 ax1.Sign b1.Sign) v3.1).bind fun v9=>
    (a3h n ax1.Sign v3.2).bind fun v10=>
    some (v9,v10,0)
def big_Gcd_L1(n:Nat)(kont1:(List Int)->Option (Big×Int)):Nat->(List Int)->(List Int)->Option (Big×Int)
 |0,_,_=>none
 |mx1+1,x1,y1=>
  bif decide (0<(y1.length:Int))then
   (b5d n x1 y1).bind fun v8=>
   big_Gcd_L1 n kont1 mx1 y1 v8.2
  else
   kont1 x1
theorem big_Gcd_L1_s:type_of% @big_Gcd_L1.eq_2:= @big_Gcd_L1.eq_2
def b5q(n:Nat)(ax1:Big)(b1:Big):Option (Big×Int):=
 (a3b n ax1).bind fun v1=>
 (bif !v1 then
  some true
 else
  (a3b n b1).bind fun v9=>
  some (!v9)).bind fun v2=>
 bif v2 then
  (a4s n false (⟨0,[]⟩:Big)).bind fun v3=>
  some (v3.1,v3.2)
 else
  (a0r n ax1.Digits).bind fun v4=>
  big_Gcd_L1 n (fun(x2:(List Int))=>
   (a0r n x2).bind fun v5=>
   (a3h n 1 v5).bind fun v6=>
   (a4s n true v6).bind fun v7=>
   some (v7.1,v7.2)) n v4 b1.Digits
def big_Of_L1(n:Nat)(kont1:(List Int)->Option Big):Nat->Int->(List Int)->Option Big
 |0,_,_=>none
 |mx1+1,u2,l1=>
  bif decide (0<u2)then
   (app 8 l1 [IntKind.i64.wrap (iand .u64 u2 1048575)]).bind fun l3=>
   (shr .u64 u2 20).bind fun q1=>
   big_Of_L1 n kont1 mx1 q1 l3
  else
   kont1 l1
theorem big_Of_L1_s:type_of% @big_Of_L1.eq_2:= @big_Of_L1.eq_2
def b5i(n:Nat)(nx1:Int):Option Big:=
 (bif decide (nx1<0)then
  some ((-1),IntKind.u64.wrap (0-(IntKind.u64.wrap nx1)))
 else
  some (1,IntKind.u64.wrap nx1)).bind fun(sign1,u1)=>
 big_Of_L1 n (fun(l2:List Int)=>
  (a3h n sign1 l2).bind fun v1=>
  some v1) n u1 ([]:List Int)
def big_Int_L1(n:Nat)(ax1:Big)(kont1:Int->Option (Int×Bool)):Nat->Int->Int->Option (Int×Bool)
 |0,_,_=>none
 |mx1+1,u1,i1=>
  bif decide (i1<(ax1.Digits.length:Int))then
   (ix ax1.Digits i1).bind fun ex1=>
   (bif i1==3 then
    some (decide (8<ex1))
   else
    some false).bind fun v5=>
   bif v5 then
    some (0,false)
   else
    (shl .u64 (IntKind.u64.wrap ex1) (imul .i64 20 i1)).bind fun q1=>
    big_Int_L1 n ax1 kont1 mx1 (ior .u64 u1 q1) (iadd .i64 i1 1)
  else
   kont1 u1
theorem big_Int_L1_s:type_of% @big_Int_L1.eq_2:= @big_Int_L1.eq_2
def c3x(n:Nat)(ax1:Big):Option (Int×Bool):=
 (a3b n ax1).bind fun v1=>
 (bif !v1 then
  some true
 else
  some (decide (4<(ax1.Digits.length:Int)))).bind fun v2=>
 bif v2 then
  some (0,false)
 else
  big_Int_L1 n ax1 (fun(u2:Int)=>
   (bif decide (ax1.Sign<0)then
    some (decide (u2<=9223372036854775808))
   else
    some false).bind fun v3=>
   bif v3 then
    some (IntKind.i64.wrap (IntKind.u64.wrap (0-u2)),true)
   else
    (bif decide (0<=ax1.Sign)then
     some (decide (u2<9223372036854775808))
    else
     some false).bind fun v4=>
    bif v4 then
     some (IntKind.i64.wrap u2,true)
    else
     some (0,false)) n 0 0
end Go.Proofs.YthaegflpecbfgaaGreatDoor.M
namespace Go.Proofs.YthaegflpecbfgaaGreatDoor.M
open Go Go.RowKit Rt
set_option linter.unusedVariables false
def ref05_SameBig_L1(n:Nat)(ax1:Big)(b1:Big)(kont1:Option Bool):Nat->Int->Option Bool
 |0,_=>none
 |mx1+1,i1=>
  bif decide (i1<(ax1.Digits.length:Int))then
   (ix ax1.Digits i1).bind fun ex1=>
   (ix b1.Digits i1).bind fun ex2=>
   bif ex1 !=ex2 then
    some false
   else
    ref05_SameBig_L1 n ax1 b1 kont1 mx1 (iadd .i64 i1 1)
  else
   kont1
theorem ref05_SameBig_L1_s:type_of% @ref05_SameBig_L1.eq_2:= @ref05_SameBig_L1.eq_2
def a7l(n:Nat)(ax1:Big)(b1:Big):Option Bool:=
 (bif ax1.Sign !=b1.Sign then
  some true
 else
  some ((ax1.Digits.length:Int) !=(b1.Digits.length:Int))).bind fun v1=>
 bif v1 then
  some false
 else
  ref05_SameBig_L1 n ax1 b1 (
   some true) n 0
structure Frac where
 P:Big
 Q:Big
 deriving DecidableEq,Inhabited
def rp_Frac:Rp Frac where
 k:=4
 R:=fun F cs x=>∃(a1:Option Addr)(n1:Nat)(c1:Nat)(a3:Option Addr)(n3:Nat)(c3:Nat),cs= [.int .i64 x.P.Sign,.slice a1 n1 c1,.int .i64 x.Q.Sign,.slice a3 n3 c3]/\SlR (Rp.int .i64) F a1 n1 c1 x.P.Digits/\SlR (Rp.int .i64) F a3 n3 c3 x.Q.Digits
 len:=by rintro F cs x ⟨a1,n1,c1,a3,n3,c3,h,_⟩;simp [h]
 mono:=by rintro F F' cs x hF ⟨a1,n1,c1,a3,n3,c3,h,h0,h1⟩;exact⟨a1,n1,c1,a3,n3,c3,h,h0.mono hF,h1.mono hF⟩
 one:=by rintro F cs x ⟨a1,n1,c1,a3,n3,c3,h,_⟩ u hu;subst h;simp at hu;rcases hu with rfl|rfl|rfl|rfl<;>rfl
def a6b(n:Nat)(ax1:Frac)(b1:Frac):Option Bool:=
 (a7l n ax1.P b1.P).bind fun v1=>
 (bif v1 then
  (a7l n ax1.Q b1.Q).bind fun v3=>
  some v3
 else
  some false).bind fun v2=>
 some v2
def b1k(_n:Nat)(f1:Frac)(nx1:Int):Option Bool:=
 (bif decide ((f1.P.Digits.length:Int)<=nx1)then
  some (decide ((f1.Q.Digits.length:Int)<=nx1))
 else
  some false).bind fun v1=>
 some v1
def b9u(n:Nat)(ax1:Big):Option Bool:=
 (c3x n ax1).bind fun v1=>
 (bif v1.2 then
  some (v1.1==1)
 else
  some false).bind fun v2=>
 some v2
def a2f(n:Nat)(f1:Frac):Option Bool:=
 (a3b n f1.P).bind fun v1=>
 (bif !v1 then
  some true
 else
  (a3b n f1.Q).bind fun v7=>
  some (!v7)).bind fun v2=>
 (bif v2 then
  some true
 else
  some (f1.Q.Sign !=1)).bind fun v3=>
 bif v3 then
  some false
 else
  (b5q n f1.P f1.Q).bind fun v4=>
  (bif v4.2==0 then
   (b9u n v4.1).bind fun v6=>
   some v6
  else
   some false).bind fun v5=>
  some v5
theorem ze44:c1h Tryz.prog 44 (.agg #[.int .i64 0,.slice none 0 0,.int .i64 0,.slice none 0 0]):=fun _=>by kernel_rfl
theorem sz44:SizeIs Tryz.prog 44 4:=fun _=>by kernel_rfl
theorem ag44:a9n Tryz.prog 44 true:=fun _=>by kernel_rfl
def b2c(n:Nat)(p1:Big)(q1:Big):Option (Frac×Int):=
 (a3b n p1).bind fun v1=>
 (bif !v1 then
  some true
 else
  (a3b n q1).bind fun v11=>
  some (!v11)).bind fun v2=>
 bif v2 then
  some ((⟨(⟨0,[]⟩:Big),(⟨0,[]⟩:Big)⟩:Frac),1)
 else
  bif q1.Sign==0 then
   some ((⟨(⟨0,[]⟩:Big),(⟨0,[]⟩:Big)⟩:Frac),14)
  else
   bif decide (q1.Sign<0)then
    (b2u n p1).bind fun v3=>
    (b2u n q1).bind fun v4=>
    (b5q n v3 v4).bind fun v5=>
    (b2t n v3 v5.1).bind fun v6=>
    (b2t n v4 v5.1).bind fun v7=>
    some ((⟨v6.1,v7.1⟩:Frac),0)
   else
    (b5q n p1 q1).bind fun v8=>
    (b2t n p1 v8.1).bind fun v9=>
    (b2t n q1 v8.1).bind fun v10=>
    some ((⟨v9.1,v10.1⟩:Frac),0)
def c2q(n:Nat)(p1:Int)(q1:Int):Option (Frac×Int):=
 (b5i n p1).bind fun v1=>
 (b5i n q1).bind fun v2=>
 (b2c n v1 v2).bind fun v3=>
 some (v3.1,v3.2)
def a3q(n:Nat)(nx1:Int):Option Frac:=
 (b5i n nx1).bind fun v1=>
 (b5i n 1).bind fun v2=>
 some (⟨v1,v2⟩:Frac)
def a3m(n:Nat)(ax1:Big)(b1:Big):Option Big:=
 (c2s n ax1 b1).bind fun v1=>
 some v1.1
def b2i(n:Nat)(ax1:Frac)(b1:Frac):Option (Frac×Int):=
 (a2f n ax1).bind fun v1=>
 (bif !v1 then
  some true
 else
  (a2f n b1).bind fun v8=>
  some (!v8)).bind fun v2=>
 bif v2 then
  some ((⟨(⟨0,[]⟩:Big),(⟨0,[]⟩:Big)⟩:Frac),1)
 else
  ((a3m n ax1.P b1.Q).bind fun v5=>
  (a3m n b1.P ax1.Q).bind fun v6=>
  (c4h n v5 v6).bind fun v7=>
  some (v7.1.Sign,v7.1.Digits)).bind fun(f1,f2)=>
  (a3m n ax1.Q b1.Q).bind fun v3=>
  (b2c n (⟨f1,f2⟩:Big) v3).bind fun v4=>
  some (v4.1,v4.2)
def b9i(n:Nat)(ax1:Frac)(b1:Frac):Option (Frac×Int):=
 (a2f n ax1).bind fun v1=>
 (bif !v1 then
  some true
 else
  (a2f n b1).bind fun v5=>
  some (!v5)).bind fun v2=>
 bif v2 then
  some ((⟨(⟨0,[]⟩:Big),(⟨0,[]⟩:Big)⟩:Frac),1)
 else
  (b2u n b1.P).bind fun v3=>
  (b2i n ax1 (⟨v3,b1.Q⟩:Frac)).bind fun v4=>
  some (v4.1,v4.2)
def b3l(n:Nat)(ax1:Frac)(b1:Frac):Option (Frac×Int):=
 (a2f n ax1).bind fun v1=>
 (bif !v1 then
  some true
 else
  (a2f n b1).bind fun v6=>
  some (!v6)).bind fun v2=>
 bif v2 then
  some ((⟨(⟨0,[]⟩:Big),(⟨0,[]⟩:Big)⟩:Frac),1)
 else
  (a3m n ax1.P b1.P).bind fun v3=>
  (a3m n ax1.Q b1.Q).bind fun v4=>
  (b2c n v3 v4).bind fun v5=>
  some (v5.1,v5.2)
def b9b(n:Nat)(ax1:Frac)(b1:Frac):Option (Frac×Int):=
 (a2f n ax1).bind fun v1=>
 (bif !v1 then
  some true
 else
  (a2f n b1).bind fun v6=>
  some (!v6)).bind fun v2=>
 bif v2 then
  some ((⟨(⟨0,[]⟩:Big),(⟨0,[]⟩:Big)⟩:Frac),1)
 else
  bif b1.P.Sign==0 then
   some ((⟨(⟨0,[]⟩:Big),(⟨0,[]⟩:Big)⟩:Frac),14)
  else
   (a3m n ax1.P b1.Q).bind fun v3=>
   (a3m n ax1.Q b1.P).bind fun v4=>
   (b2c n v3 v4).bind fun v5=>
   some (v5.1,v5.2)
def b1e(n:Nat)(ax1:Big):Option Big:=
 (b2u n ax1).bind fun v1=>
 (b2u n v1).bind fun v2=>
 some v2
def b9o(n:Nat)(f1:Frac):Option Frac:=
 (a2f n f1).bind fun v1=>
 bif !v1 then
  some (⟨(⟨0,[]⟩:Big),(⟨0,[]⟩:Big)⟩:Frac)
 else
  (b2u n f1.P).bind fun v2=>
  (b1e n f1.Q).bind fun v3=>
  some (⟨v2,v3⟩:Frac)
def b2a(n:Nat)(f1:Frac):Option Int:=
 (a2f n f1).bind fun v1=>
 bif !v1 then
  some 0
 else
  some f1.P.Sign
def a7h(n:Nat)(ax1:Frac)(b1:Frac):Option Int:=
 (a2f n ax1).bind fun v1=>
 (bif !v1 then
  some true
 else
  (a2f n b1).bind fun v6=>
  some (!v6)).bind fun v2=>
 bif v2 then
  some 0
 else
  (a3m n ax1.P b1.Q).bind fun v3=>
  (a3m n b1.P ax1.Q).bind fun v4=>
  (b1c n v3 v4).bind fun v5=>
  some v5
def a9r(n:Nat)(ax1:Frac)(b1:Frac)(sign1:Int):Option (Frac×Int):=
 (a2f n ax1).bind fun v1=>
 (bif !v1 then
  some true
 else
  (a2f n b1).bind fun v6=>
  some (!v6)).bind fun v2=>
 bif v2 then
  some ((⟨(⟨0,[]⟩:Big),(⟨0,[]⟩:Big)⟩:Frac),1)
 else
  (a7h n ax1 b1).bind fun v3=>
  (bif decide ((imul .i64 v3 sign1)<0)then
   some (b1.P.Sign,b1.P.Digits,b1.Q.Sign,b1.Q.Digits)
  else
   some (ax1.P.Sign,ax1.P.Digits,ax1.Q.Sign,ax1.Q.Digits)).bind fun(f1,f2,f3,f4)=>
  (b1e n (⟨f1,f2⟩:Big)).bind fun v4=>
  (b1e n (⟨f3,f4⟩:Big)).bind fun v5=>
  some ((⟨v4,v5⟩:Frac),0)
def b9v(n:Nat)(ax1:Frac)(b1:Frac):Option (Frac×Int):=
 (a9r n ax1 b1 (-1)).bind fun v1=>
 some (v1.1,v1.2)
def b6n(n:Nat)(ax1:Frac)(b1:Frac):Option (Frac×Int):=
 (a9r n ax1 b1 1).bind fun v1=>
 some (v1.1,v1.2)
theorem fa24_3:b0k Tryz.prog 24 3 3:=fun _ _ _=>by kernel_rfl
theorem ag22:a9n Tryz.prog 22 false:=fun _=>by kernel_rfl
theorem sz24:SizeIs Tryz.prog 24 4:=fun _=>by kernel_rfl
theorem ag24:a9n Tryz.prog 24 true:=fun _=>by kernel_rfl
def ref35_size_L1(n:Nat)(rec_ref35_size:Expr->Int->Int->Option Int)(x1:Expr)(levels1:Int)(kont1:Int->Option Int):Nat->Int->Int->Option Int
 |0,_,_=>none
 |mx1+1,nx2,i1=>
  (bif decide (i1<(x1.Args.length:Int))then
   some (decide (0<=nx2))
  else
   some false).bind fun v1=>
  bif v1 then
   (ix x1.Args i1).bind fun ex1=>
   (rec_ref35_size ex1 nx2 (isub .i64 levels1 1)).bind fun v2=>
   ref35_size_L1 n rec_ref35_size x1 levels1 kont1 mx1 v2 (iadd .i64 i1 1)
  else
   kont1 nx2
theorem ref35_size_L1_s:type_of% @ref35_size_L1.eq_2:= @ref35_size_L1.eq_2
def ref35_size:Nat->Expr->Int->Int->Option Int
 |0,_,_,_=>none
 |n+1,x1,nx1,levels1=>
  bif decide (levels1<1)then
   some (-1)
  else
   ref35_size_L1 n (ref35_size n) x1 levels1 (fun(nx3:Int)=>
    some nx3) n (isub .i64 nx1 1) 0
theorem ref35_size_s:type_of% @ref35_size.eq_2:= @ref35_size.eq_2
def a7c(n:Nat)(x1:Expr)(nodes1:Int)(levels1:Int):Option Bool:=
 (ref35_size n x1 nodes1 levels1).bind fun v1=>
 some (decide (0<=v1))
theorem ze24:c1h Tryz.prog 24 (.agg #[.int .i64 0,.int .i64 0,vs [],.slice none 0 0]):=fun _=>by kernel_rfl
def tariff_sized_L1(n:Nat)(rec_tariff_sized:Expr->Int->Int->Option (Int×Bool))(x1:Expr)(levels1:Int)(kont1:Int->Option (Int×Bool)):Nat->Int->Int->Option (Int×Bool)
 |0,_,_=>none
 |mx1+1,i1,f1=>
  bif decide (i1<(x1.Args.length:Int))then
   (ix x1.Args i1).bind fun ex1=>
   (rec_tariff_sized ex1 (isub .i64 levels1 1) f1).bind fun v2=>
   bif !v2.2 then
    some (v2.1,false)
   else
    tariff_sized_L1 n rec_tariff_sized x1 levels1 kont1 mx1 (iadd .i64 i1 1) v2.1
  else
   kont1 f1
theorem tariff_sized_L1_s:type_of% @tariff_sized_L1.eq_2:= @tariff_sized_L1.eq_2
def tariff_sized:Nat->Expr->Int->Int->Option (Int×Bool)
 |0,_,_,_=>none
 |n+1,x1,levels1,left1=>
  (bif decide (levels1<1)then
   some true
  else
   some (decide ((isub .i64 left1 1)<0))).bind fun v1=>
  bif v1 then
   some (isub .i64 left1 1,false)
  else
   tariff_sized_L1 n (tariff_sized n) x1 levels1 (fun(f2:Int)=>
    some (f2,true)) n 0 (isub .i64 left1 1)
theorem tariff_sized_s:type_of% @tariff_sized.eq_2:= @tariff_sized.eq_2
theorem u27:Tryz.prog.underlying 27=some (.slice 9):=by kernel_rfl
theorem sz9:SizeIs Tryz.prog 9 1:=fun _=>by kernel_rfl
theorem ag9:a9n Tryz.prog 9 false:=fun _=>by kernel_rfl
def slices_Index_string_string_L1(n:Nat)(s1:(List Bs))(v1:Bs)(kont1:Option Int):Nat->Int->Option Int
 |0,_=>none
 |mx1+1,i1=>
  bif decide (i1<(s1.length:Int))then
   (ix s1 i1).bind fun ex1=>
   bif v1==ex1 then
    some i1
   else
    slices_Index_string_string_L1 n s1 v1 kont1 mx1 (iadd .i64 i1 1)
  else
   kont1
theorem slices_Index_string_string_L1_s:type_of% @slices_Index_string_string_L1.eq_2:= @slices_Index_string_string_L1.eq_2
def a0o(n:Nat)(s1:(List Bs))(v1:Bs):Option Int:=
 slices_Index_string_string_L1 n s1 v1 (
  some (-1)) n 0
def a0u(n:Nat)(s1:(List Bs))(v1:Bs):Option Bool:=
 (a0o n s1 v1).bind fun v2=>
 some (decide (0<=v2))
def tariff_named_L1(n:Nat)(l1:(List Bs))(kont1:Option Bool):Nat->Int->Option Bool
 |0,_=>none
 |mx1+1,i1=>
  bif decide (i1<(l1.length:Int))then
   (ix l1 i1).bind fun ex1=>
   (a4q n ex1).bind fun v1=>
   (bif !v1 then
    some true
   else
    (lsl l1 0 i1).bind fun l2=>
    (a0u n l2 ex1).bind fun v3=>
    some v3).bind fun v2=>
   bif v2 then
    some false
   else
    tariff_named_L1 n l1 kont1 mx1 (iadd .i64 i1 1)
  else
   kont1
theorem tariff_named_L1_s:type_of% @tariff_named_L1.eq_2:= @tariff_named_L1.eq_2
def b0g(n:Nat)(l1:(List Bs)):Option Bool:=
 tariff_named_L1 n l1 (
  some (decide ((l1.length:Int)<=6))) n 0
def a1e(_n:Nat)(ax1:Int)(b1:Int):Option (Int×Int):=
 (bif ax1==0 then
  some true
 else
  some (b1==0)).bind fun v1=>
 bif v1 then
  some (0,13)
 else
  (bif ax1==2 then
   some true
  else
   some (b1==2)).bind fun v2=>
  bif v2 then
   some (2,0)
  else
   some (1,0)
def a9s(_n:Nat)(op1:Int):Option Int:=
 bif decide (op1<=4)then
  some 0
 else
  bif op1==14 then
   some 1
  else
   bif op1==11 then
    some 3
   else
    some 2
def b2o(_n:Nat)(nx1:Int)(cap1:Int):Option Bool:=
 some (nx1 !=cap1)
def slices_IndexFunc_int_int_L1(n:Nat)(s1:(List Int))(f1:(Int->Option Bool))(kont1:Option Int):Nat->Int->Option Int
 |0,_=>none
 |mx1+1,i1=>
  bif decide (i1<(s1.length:Int))then
   (ix s1 i1).bind fun ex1=>
   (f1 ex1).bind fun v1=>
   bif v1 then
    some i1
   else
    slices_IndexFunc_int_int_L1 n s1 f1 kont1 mx1 (iadd .i64 i1 1)
  else
   kont1
theorem slices_IndexFunc_int_int_L1_s:type_of% @slices_IndexFunc_int_int_L1.eq_2:= @slices_IndexFunc_int_int_L1.eq_2
def a4e(n:Nat)(s1:(List Int))(f1:(Int->Option Bool)):Option Int:=
 slices_IndexFunc_int_int_L1 n s1 f1 (
  some (-1)) n 0
def a1w(n:Nat)(s1:(List Int))(f1:(Int->Option Bool)):Option Bool:=
 (a4e n s1 f1).bind fun v1=>
 some (decide (0<=v1))
def a3j(n:Nat)(k1:Int)(l1:(List Int))(want1:Int):Option (Int×Int):=
 (a1w n l1 (fun(q0:Int)=>b2o n q0 want1)).bind fun v1=>
 bif v1 then
  some (0,13)
 else
  some (k1,0)
theorem fa24_0:b0k Tryz.prog 24 0 0:=fun _ _ _=>by kernel_rfl
theorem fa24_2:b0k Tryz.prog 24 2 2:=fun _ _ _=>by kernel_rfl
def tariff_typed_L1(n:Nat)(rec_tariff_typed:Expr->(List Bs)->Option (Int×Int))(x1:Expr)(names1:(List Bs))(kont1:(List Int)->Option (Int×Int)):Nat->Int->(List Int)->Option (Int×Int)
 |0,_,_=>none
 |mx1+1,i1,l1=>
  bif decide (i1<(x1.Args.length:Int))then
   (ix x1.Args i1).bind fun ex13=>
   (rec_tariff_typed ex13 names1).bind fun v13=>
   bif v13.2 !=0 then
    some (0,v13.2)
   else
    (app 8 l1 [v13.1]).bind fun l3=>
    tariff_typed_L1 n rec_tariff_typed x1 names1 kont1 mx1 (iadd .i64 i1 1) l3
  else
   kont1 l1
theorem tariff_typed_L1_s:type_of% @tariff_typed_L1.eq_2:= @tariff_typed_L1.eq_2
def tariff_typed:Nat->Expr->(List Bs)->Option (Int×Int)
 |0,_,_=>none
 |n+1,x1,names1=>
  tariff_typed_L1 n (tariff_typed n) x1 names1 (fun(l2:List Int)=>
   (bif x1.Op==1 then
    some true
   else
    some (x1.Op==4)).bind fun v1=>
   bif v1 then
    (a0u n names1 x1.Name).bind fun v2=>
    bif !v2 then
     some (0,11)
    else
     bif x1.Op==4 then
      some (2,0)
     else
      some (1,0)
   else
    (bif x1.Op==0 then
     some true
    else
     bif x1.Op==2 then
      some true
     else
      some (x1.Op==3)).bind fun v3=>
    bif v3 then
     some (1,0)
    else
     (bif x1.Op==12 then
      some true
     else
      some (x1.Op==13)).bind fun v4=>
     bif v4 then
      (a3j n 0 l2 1).bind fun v5=>
      some (v5.1,v5.2)
     else
      (bif x1.Op==14 then
       some true
      else
       bif x1.Op==15 then
        some true
       else
        some (x1.Op==16)).bind fun v6=>
      bif v6 then
       (a3j n 0 l2 0).bind fun v7=>
       some (v7.1,v7.2)
      else
       bif x1.Op==11 then
        (ix l2 0).bind fun ex1=>
        bif ex1 !=0 then
         some (0,13)
        else
         (ix l2 1).bind fun ex2=>
         (ix l2 2).bind fun ex3=>
         (a1e n ex2 ex3).bind fun v8=>
         some (v8.1,v8.2)
       else
        bif x1.Op==7 then
         (ix l2 0).bind fun ex4=>
         (bif ex4==2 then
          (ix l2 1).bind fun ex7=>
          some (ex7==2)
         else
          some false).bind fun v9=>
         bif v9 then
          some (0,13)
         else
          (ix l2 0).bind fun ex5=>
          (ix l2 1).bind fun ex6=>
          (a1e n ex5 ex6).bind fun v10=>
          some (v10.1,v10.2)
        else
         bif x1.Op==8 then
          (ix x1.Args 1).bind fun ex8=>
          bif ex8.Op !=0 then
           some (0,13)
          else
           bif ex8.N==0 then
            some (0,14)
           else
            (ix l2 0).bind fun ex9=>
            (ix l2 1).bind fun ex10=>
            (a1e n ex9 ex10).bind fun v11=>
            some (v11.1,v11.2)
         else
          (ix l2 0).bind fun ex11=>
          (ix l2 1).bind fun ex12=>
          (a1e n ex11 ex12).bind fun v12=>
          some (v12.1,v12.2)) n 0 ([]:List Int)
theorem tariff_typed_s:type_of% @tariff_typed.eq_2:= @tariff_typed.eq_2
def slices_IndexFunc_api_Expr_api_Expr_L1(n:Nat)(s1:(List Expr))(f1:(Expr->Option Bool))(kont1:Option Int):Nat->Int->Option Int
 |0,_=>none
 |mx1+1,i1=>
  bif decide (i1<(s1.length:Int))then
   (ix s1 i1).bind fun ex1=>
   (f1 ex1).bind fun v1=>
   bif v1 then
    some i1
   else
    slices_IndexFunc_api_Expr_api_Expr_L1 n s1 f1 kont1 mx1 (iadd .i64 i1 1)
  else
   kont1
theorem slices_IndexFunc_api_Expr_api_Expr_L1_s:type_of% @slices_IndexFunc_api_Expr_api_Expr_L1.eq_2:= @slices_IndexFunc_api_Expr_api_Expr_L1.eq_2
def a1i(n:Nat)(s1:(List Expr))(f1:(Expr->Option Bool)):Option Int:=
 slices_IndexFunc_api_Expr_api_Expr_L1 n s1 f1 (
  some (-1)) n 0
def a0l(n:Nat)(s1:(List Expr))(f1:(Expr->Option Bool)):Option Bool:=
 (a1i n s1 f1).bind fun v1=>
 some (decide (0<=v1))
mutual
def tariff_shaped:Nat->Expr->Option Bool
 |0,_=>none
 |n+1,x1=>
  (bif decide (x1.Op<0)then
   some true
  else
   some (decide (17<=x1.Op))).bind fun v1=>
  (bif v1 then
   some true
  else
   (a9s n x1.Op).bind fun v11=>
   some ((x1.Args.length:Int) !=v11)).bind fun v2=>
  bif v2 then
   some false
  else
   bif x1.Op==0 then
    (bif decide (0<=x1.N)then
     some (decide (x1.N<=1099511627776))
    else
     some false).bind fun v3=>
    (bif v3 then
     some (x1.Name== [])
    else
     some false).bind fun v4=>
    some v4
   else
    (bif x1.Op==1 then
     some true
    else
     some (x1.Op==4)).bind fun v5=>
    bif v5 then
     (bif x1.N==0 then
      (a4q n x1.Name).bind fun v7=>
      some v7
     else
      some false).bind fun v6=>
     some v6
    else
     (bif x1.N==0 then
      some (x1.Name== [])
     else
      some false).bind fun v8=>
     (bif v8 then
      (a0l n x1.Args (tariff_shaped_1 n)).bind fun v10=>
      some (!v10)
     else
      some false).bind fun v9=>
     some v9
def tariff_shaped_1:Nat->Expr->Option Bool
 |0,_=>none
 |n+1,ax1=>
  (tariff_shaped n ax1).bind fun v1=>
  some (!v1)
 end
theorem tariff_shaped_s:type_of% @tariff_shaped.eq_2:= @tariff_shaped.eq_2
theorem a7j(n:Nat)(ax1:Expr):tariff_shaped_1 (n+1) ax1=
 (tariff_shaped n ax1).bind fun v1=>
 some (!v1):=rfl
def a7a(n:Nat)(x1:Expr):Option Bool:=
 (tariff_sized n x1 10 100).bind fun v1=>
 (bif v1.2 then
  (tariff_shaped n x1).bind fun v3=>
  some v3
 else
  some false).bind fun v2=>
 some v2
structure Tariff where
 Name:Bs
 Fee:Expr
 Cap:Int
 deriving Inhabited
def rp_Tariff:Rp Tariff where
 k:=6
 R:=fun F cs x=>∃(a4:Option Addr)(n4:Nat)(c4:Nat),cs= [vs x.Name,.int .i64 x.Fee.Op,.int .i64 x.Fee.N,vs x.Fee.Name,.slice a4 n4 c4,.int .i64 x.Cap]/\SlR rp_Expr F a4 n4 c4 x.Fee.Args
 len:=by rintro F cs x ⟨a4,n4,c4,h,_⟩;simp [h]
 mono:=by rintro F F' cs x hF ⟨a4,n4,c4,h,h0⟩;exact⟨a4,n4,c4,h,h0.mono hF⟩
 one:=by rintro F cs x ⟨a4,n4,c4,h,_⟩ u hu;subst h;simp at hu;rcases hu with rfl|rfl|rfl|rfl|rfl|rfl<;>rfl
def a4v(n:Nat)(t1:Tariff):Option Bool:=
 (a4q n t1.Name).bind fun v1=>
 (bif v1 then
  (a7a n t1.Fee).bind fun v5=>
  some v5
 else
  some false).bind fun v2=>
 (bif v2 then
  some (decide ((-1)<=t1.Cap))
 else
  some false).bind fun v3=>
 (bif v3 then
  some (decide (t1.Cap<=1099511627776))
 else
  some false).bind fun v4=>
 some v4
def a3v(n:Nat)(t1:Tariff)(names1:(List Bs)):Option Int:=
 (b0g n names1).bind fun v1=>
 bif !v1 then
  some 1
 else
  (a4v n t1).bind fun v2=>
  bif !v2 then
   some 2
  else
   (tariff_typed n t1.Fee names1).bind fun v3=>
   (bif v3.2==0 then
    some (v3.1==0)
   else
    some false).bind fun v4=>
   bif v4 then
    some 13
   else
    some v3.2
def b1i(n:Nat)(x1:Expr)(names1:(List Bs)):Option (Int×Int):=
 (b0g n names1).bind fun v1=>
 bif !v1 then
  some (0,1)
 else
  (a7a n x1).bind fun v2=>
  bif !v2 then
   some (0,2)
  else
   (tariff_typed n x1 names1).bind fun v3=>
   some (v3.1,v3.2)
end Go.Proofs.YthaegflpecbfgaaGreatDoor.M
namespace Go.Proofs.YthaegflpecbfgaaGreatDoor.M
open Go Go.RowKit Rt
set_option linter.unusedVariables false
def ref04_Same_L1(n:Nat)(ax1:Big)(b1:Big)(kont1:Option Bool):Nat->Int->Option Bool
 |0,_=>none
 |mx1+1,i1=>
  bif decide (i1<(ax1.Digits.length:Int))then
   (ix ax1.Digits i1).bind fun ex1=>
   (ix b1.Digits i1).bind fun ex2=>
   bif ex1 !=ex2 then
    some false
   else
    ref04_Same_L1 n ax1 b1 kont1 mx1 (iadd .i64 i1 1)
  else
   kont1
theorem ref04_Same_L1_s:type_of% @ref04_Same_L1.eq_2:= @ref04_Same_L1.eq_2
def b0z(n:Nat)(ax1:Big)(b1:Big):Option Bool:=
 (bif ax1.Sign !=b1.Sign then
  some true
 else
  some ((ax1.Digits.length:Int) !=(b1.Digits.length:Int))).bind fun v1=>
 bif v1 then
  some false
 else
  ref04_Same_L1 n ax1 b1 (
   some true) n 0
def a6r(n:Nat)(ax1:Big)(kont1:Option Bool):Nat->Int->Option Bool
 |0,_=>none
 |mx1+1,i1=>
  bif decide (i1<(ax1.Digits.length:Int))then
   (ix ax1.Digits i1).bind fun ex2=>
   (bif decide (ex2<0)then
    some true
   else
    (ix ax1.Digits i1).bind fun ex3=>
    some (decide (1048576<=ex3))).bind fun v4=>
   bif v4 then
    some false
   else
    a6r n ax1 kont1 mx1 (iadd .i64 i1 1)
  else
   kont1
def a1n(n:Nat)(ax1:Big):Option Bool:=
 a6r n ax1 (
  (bif decide (ax1.Sign<(-1))then
   some true
  else
   some (decide (1<ax1.Sign))).bind fun v1=>
  (bif v1 then
   some true
  else
   some (!(((ax1.Digits.length:Int)==0)==(ax1.Sign==0)))).bind fun v2=>
  bif v2 then
   some false
  else
   (bif(ax1.Digits.length:Int)==0 then
    some true
   else
    (ix ax1.Digits (isub .i64 (ax1.Digits.length:Int) 1)).bind fun ex1=>
    some (ex1 !=0)).bind fun v3=>
   some v3) n 0
def a7q(n:Nat)(l1:(List Int))(kont1:Int->Option (List Int)):Nat->Int->Option (List Int)
 |0,_=>none
 |mx1+1,nx1=>
  (bif decide (0<nx1)then
   (ix l1 (isub .i64 nx1 1)).bind fun ex1=>
   some (ex1==0)
  else
   some false).bind fun v1=>
  bif v1 then
   a7q n l1 kont1 mx1 (isub .i64 nx1 1)
  else
   kont1 nx1
def a1v(n:Nat)(l1:(List Int)):Option (List Int):=
 a7q n l1 (fun(nx2:Int)=>
  (lsl l1 0 nx2).bind fun l2=>
  (app 8 [] l2).bind fun l3=>
  some l3) n (l1.length:Int)
def a1q(n:Nat)(sign1:Int)(l1:(List Int)):Option Big:=
 (a1v n l1).bind fun v1=>
 bif(v1.length:Int)==0 then
  some (⟨0,[]⟩:Big)
 else
  some (⟨sign1,v1⟩:Big)
def a9p(n:Nat)(kont1:(List Int)->Option Big):Nat->Int->(List Int)->Option Big
 |0,_,_=>none
 |mx1+1,nx2,l1=>
  bif nx2 !=0 then
   (rem nx2 1048576).bind fun q1=>
   (bif decide (q1<0)then
    some (IntKind.i64.wrap (0-q1))
   else
    some q1).bind fun d1=>
   (app 8 l1 [d1]).bind fun l3=>
   (quo .i64 nx2 1048576).bind fun q2=>
   a9p n kont1 mx1 q2 l3
  else
   kont1 l1
def b2h(n:Nat)(nx1:Int):Option Big:=
 bif nx1==0 then
  some (⟨0,[]⟩:Big)
 else
  (bif decide (nx1<0)then
   some (-1)
  else
   some 1).bind fun sign1=>
  a9p n (fun(l2:List Int)=>
   (a1q n sign1 l2).bind fun v1=>
   some v1) n nx1 ([]:List Int)
def a4i(_n:Nat)(l1:(List Int))(i1:Int):Option Int:=
 bif decide (i1<(l1.length:Int))then
  (ix l1 i1).bind fun ex1=>
  some ex1
 else
  some 0
def a7m(n:Nat)(ax1:(List Int))(b1:(List Int))(kont1:Option Bool):Nat->Int->Option Bool
 |0,_=>none
 |mx1+1,i1=>
  bif decide (0<=i1)then
   (a4i n ax1 i1).bind fun v1=>
   (a4i n b1 i1).bind fun v2=>
   bif v1 !=v2 then
    (a4i n ax1 i1).bind fun v3=>
    (a4i n b1 i1).bind fun v4=>
    some (decide (v3<v4))
   else
    a7m n ax1 b1 kont1 mx1 (isub .i64 i1 1)
  else
   kont1
def a6c(n:Nat)(ax1:(List Int))(b1:(List Int)):Option Bool:=
 a7m n ax1 b1 (
  some false) n (isub .i64 (imax (ax1.length:Int) (b1.length:Int)) 1)
def a8z(n:Nat)(ax1:(List Int))(b1:(List Int))(kont1:(List Int)->Option (List Int)):Nat->Int->Int->(List Int)->Option (List Int)
 |0,_,_,_=>none
 |mx1+1,carry1,i1,l1=>
  (bif decide (i1<(ax1.length:Int))then
   some true
  else
   some (decide (i1<(b1.length:Int)))).bind fun v2=>
  (bif v2 then
   some true
  else
   some (decide (0<carry1))).bind fun v3=>
  bif v3 then
   (a4i n ax1 i1).bind fun v4=>
   (a4i n b1 i1).bind fun v5=>
   (rem (iadd .i64 (iadd .i64 v4 v5) carry1) 1048576).bind fun q1=>
   (app 8 l1 [q1]).bind fun l3=>
   (quo .i64 (iadd .i64 (iadd .i64 v4 v5) carry1) 1048576).bind fun q2=>
   a8z n ax1 b1 kont1 mx1 q2 (iadd .i64 i1 1) l3
  else
   kont1 l1
def a7s(n:Nat)(ax1:(List Int))(b1:(List Int)):Option (List Int):=
 a8z n ax1 b1 (fun(l2:List Int)=>
  (a1v n l2).bind fun v1=>
  some v1) n 0 0 ([]:List Int)
def a5o(n:Nat)(ax1:(List Int))(b1:(List Int))(kont1:(List Int)->Option (List Int)):Nat->Int->Int->(List Int)->Option (List Int)
 |0,_,_,_=>none
 |mx1+1,borrow1,i1,l1=>
  bif decide (i1<(ax1.length:Int))then
   (ix ax1 i1).bind fun ex1=>
   (a4i n b1 i1).bind fun v2=>
   (bif decide ((isub .i64 (isub .i64 ex1 v2) borrow1)<0)then
    some (1,iadd .i64 (isub .i64 (isub .i64 ex1 v2) borrow1) 1048576)
   else
    some (0,isub .i64 (isub .i64 ex1 v2) borrow1)).bind fun(borrow2,nx1)=>
   (app 8 l1 [nx1]).bind fun l3=>
   a5o n ax1 b1 kont1 mx1 borrow2 (iadd .i64 i1 1) l3
  else
   kont1 l1
def a3e(n:Nat)(ax1:(List Int))(b1:(List Int)):Option (List Int):=
 a5o n ax1 b1 (fun(l2:List Int)=>
  (a1v n l2).bind fun v1=>
  some v1) n 0 0 ([]:List Int)
def a8c(n:Nat)(ax1:(List Int))(b1:(List Int))(i1:Int)(kont2:(List Int)->Option (List Int)):Nat->Int->Int->(List Int)->Option (List Int)
 |0,_,_,_=>none
 |mx2+1,carry1,k1,l4=>
  (bif decide (k1<(b1.length:Int))then
   some true
  else
   some (decide (0<carry1))).bind fun v2=>
  bif v2 then
   (ix l4 (iadd .i64 i1 k1)).bind fun ex1=>
   (ix ax1 i1).bind fun ex2=>
   (a4i n b1 k1).bind fun v3=>
   (rem (iadd .i64 (iadd .i64 ex1 (imul .i64 ex2 v3)) carry1) 1048576).bind fun q1=>
   (ix l4 (iadd .i64 i1 k1)).bind fun _=>
   (lset l4 (iadd .i64 i1 k1) q1).bind fun l6=>
   (quo .i64 (iadd .i64 (iadd .i64 ex1 (imul .i64 ex2 v3)) carry1) 1048576).bind fun q2=>
   a8c n ax1 b1 i1 kont2 mx2 q2 (iadd .i64 k1 1) l6
  else
   kont2 l4
def a4p(n:Nat)(ax1:(List Int))(b1:(List Int))(kont1:(List Int)->Option (List Int)):Nat->Int->(List Int)->Option (List Int)
 |0,_,_=>none
 |mx1+1,i1,l2=>
  bif decide (i1<(ax1.length:Int))then
   a8c n ax1 b1 i1 (fun(l5:List Int)=>
    a4p n ax1 b1 kont1 mx1 (iadd .i64 i1 1) l5) n 0 0 l2
  else
   kont1 l2
def a4j(n:Nat)(ax1:(List Int))(b1:(List Int)):Option (List Int):=
 (mks 8 0 (iadd .i64 (ax1.length:Int) (b1.length:Int))).bind fun l1=>
 a4p n ax1 b1 (fun(l3:List Int)=>
  (a1v n l3).bind fun v1=>
  some v1) n 0 l1
def a7p(n:Nat)(b1:(List Int))(v2:(List Int))(kont2:Int->Option ((List Int)×(List Int))):Nat->Int->Int->Option ((List Int)×(List Int))
 |0,_,_=>none
 |mx2+1,lo1,hi1=>
  bif decide (1<(isub .i64 hi1 lo1))then
   (quo .i64 (iadd .i64 lo1 hi1) 2).bind fun q1=>
   (a4j n b1 [q1]).bind fun v6=>
   (a6c n v2 v6).bind fun v7=>
   bif v7 then
    a7p n b1 v2 kont2 mx2 lo1 q1
   else
    a7p n b1 v2 kont2 mx2 q1 hi1
  else
   kont2 lo1
def a6h(n:Nat)(ax1:(List Int))(b1:(List Int))(kont1:(List Int)->(List Int)->Option ((List Int)×(List Int))):Nat->(List Int)->Int->(List Int)->Option ((List Int)×(List Int))
 |0,_,_,_=>none
 |mx1+1,rx1,i1,l2=>
  bif decide (0<=i1)then
   (ix ax1 i1).bind fun ex1=>
   (app 8 [ex1] rx1).bind fun l4=>
   (a1v n l4).bind fun v2=>
   a7p n b1 v2 (fun(lo2:Int)=>
    (ix l2 i1).bind fun _=>
    (lset l2 i1 lo2).bind fun l5=>
    (a1v n [lo2]).bind fun v3=>
    (a4j n b1 v3).bind fun v4=>
    (a3e n v2 v4).bind fun v5=>
    a6h n ax1 b1 kont1 mx1 v5 (isub .i64 i1 1) l5) n 0 1048576
  else
   kont1 rx1 l2
def a8m(n:Nat)(ax1:(List Int))(b1:(List Int)):Option ((List Int)×(List Int)):=
 (mks 8 0 (ax1.length:Int)).bind fun l1=>
 a6h n ax1 b1 (fun(rx2:(List Int))(l3:List Int)=>
  (a1v n l3).bind fun v1=>
  some (v1,rx2)) n [] (isub .i64 (ax1.length:Int) 1) l1
def a8w(n:Nat)(ax1:Big)(b1:Big):Option Int:=
 (a1n n ax1).bind fun v1=>
 (bif !v1 then
  some true
 else
  (a1n n b1).bind fun v6=>
  some (!v6)).bind fun v2=>
 (bif v2 then
  some true
 else
  (b0z n ax1 b1).bind fun v5=>
  some v5).bind fun v3=>
 bif v3 then
  some 0
 else
  bif ax1.Sign !=b1.Sign then
   bif decide (ax1.Sign<b1.Sign)then
    some (-1)
   else
    some 1
  else
   (a6c n ax1.Digits b1.Digits).bind fun v4=>
   bif v4==(decide (0<ax1.Sign))then
    some (-1)
   else
    some 1
def b1b(n:Nat)(ax1:Big):Option Big:=
 (a1n n ax1).bind fun v1=>
 bif !v1 then
  some (⟨0,[]⟩:Big)
 else
  (a1q n (IntKind.i64.wrap (0-ax1.Sign)) ax1.Digits).bind fun v2=>
  some v2
def b2y(n:Nat)(ax1:Big)(b1:Big):Option (Big×Int):=
 (a1n n ax1).bind fun v1=>
 (bif !v1 then
  some true
 else
  (a1n n b1).bind fun v12=>
  some (!v12)).bind fun v2=>
 bif v2 then
  some ((⟨0,[]⟩:Big),1)
 else
  (bif ax1.Sign==0 then
   some true
  else
   some (b1.Sign==0)).bind fun v3=>
  (bif v3 then
   some true
  else
   some (ax1.Sign==b1.Sign)).bind fun v4=>
  bif v4 then
   (a7s n ax1.Digits b1.Digits).bind fun v5=>
   (a1q n (ior .i64 ax1.Sign b1.Sign) v5).bind fun v6=>
   some (v6,0)
  else
   (a6c n ax1.Digits b1.Digits).bind fun v7=>
   bif v7 then
    (a3e n b1.Digits ax1.Digits).bind fun v8=>
    (a1q n b1.Sign v8).bind fun v9=>
    some (v9,0)
   else
    (a3e n ax1.Digits b1.Digits).bind fun v10=>
    (a1q n ax1.Sign v10).bind fun v11=>
    some (v11,0)
def b5s(n:Nat)(ax1:Big)(b1:Big):Option (Big×Int):=
 (a1n n b1).bind fun v1=>
 bif !v1 then
  some ((⟨0,[]⟩:Big),1)
 else
  ((b1b n b1).bind fun v2=>
  (b2y n ax1 v2).bind fun v3=>
  some (v3.1.Sign,v3.1.Digits,v3.2)).bind fun(f1,f2,ex1)=>
  some ((⟨f1,f2⟩:Big),ex1)
def a6o(n:Nat)(ax1:Big)(b1:Big):Option (Big×Int):=
 (a1n n ax1).bind fun v1=>
 (bif !v1 then
  some true
 else
  (a1n n b1).bind fun v5=>
  some (!v5)).bind fun v2=>
 bif v2 then
  some ((⟨0,[]⟩:Big),1)
 else
  (a4j n ax1.Digits b1.Digits).bind fun v3=>
  (a1q n (imul .i64 ax1.Sign b1.Sign) v3).bind fun v4=>
  some (v4,0)
def b0d(n:Nat)(ax1:Big)(b1:Big):Option (Big×Big×Int):=
 (a1n n ax1).bind fun v1=>
 (bif !v1 then
  some true
 else
  (a1n n b1).bind fun v11=>
  some (!v11)).bind fun v2=>
 bif v2 then
  some ((⟨0,[]⟩:Big),(⟨0,[]⟩:Big),1)
 else
  bif b1.Sign==0 then
   some ((⟨0,[]⟩:Big),(⟨0,[]⟩:Big),14)
  else
   (a8m n ax1.Digits b1.Digits).bind fun v3=>
   (bif decide (0<=(imul .i64 ax1.Sign b1.Sign))then
    some true
   else
    some ((v3.2.length:Int)==0)).bind fun v4=>
   bif v4 then
    (a1q n (imul .i64 ax1.Sign b1.Sign) v3.1).bind fun v5=>
    (a1q n ax1.Sign v3.2).bind fun v6=>
    some (v5,v6,0)
   else
    (a7s n v3.1 [1]).bind fun v7=>
    (a1q n (-1) v7).bind fun v8=>
    (a3e n b1.Digits v3.2).bind fun v9=>
    (a1q n b1.Sign v9).bind fun v10=>
    some (v8,v10,0)
def a8t(n:Nat)(kont1:(List Int)->Option (Big×Int)):Nat->(List Int)->(List Int)->Option (Big×Int)
 |0,_,_=>none
 |mx1+1,x1,y1=>
  bif decide (0<(y1.length:Int))then
   (a8m n x1 y1).bind fun v4=>
   a8t n kont1 mx1 y1 v4.2
  else
   kont1 x1
def b1v(n:Nat)(ax1:Big)(b1:Big):Option (Big×Int):=
 (a1n n ax1).bind fun v1=>
 (bif !v1 then
  some true
 else
  (a1n n b1).bind fun v5=>
  some (!v5)).bind fun v2=>
 bif v2 then
  some ((⟨0,[]⟩:Big),1)
 else
  a8t n (fun(x2:(List Int))=>
   (a1q n 1 x2).bind fun v3=>
   some (v3,0)) n ax1.Digits b1.Digits
end Go.Proofs.YthaegflpecbfgaaGreatDoor.M
namespace Go.Proofs.YthaegflpecbfgaaGreatDoor.M
open Go Go.RowKit Rt
set_option linter.unusedVariables false
def a6g(n:Nat)(f1:Frac):Option Bool:=
 (a1n n f1.P).bind fun v1=>
 (bif !v1 then
  some true
 else
  (a1n n f1.Q).bind fun v7=>
  some (!v7)).bind fun v2=>
 (bif v2 then
  some true
 else
  some (decide (f1.Q.Sign<1))).bind fun v3=>
 bif v3 then
  some false
 else
  (b1v n f1.P f1.Q).bind fun v4=>
  (b2h n 1).bind fun v5=>
  (a8w n v4.1 v5).bind fun v6=>
  some (v6==0)
def b1s(n:Nat)(p1:Big)(q1:Big):Option (Frac×Int):=
 (a1n n p1).bind fun v1=>
 (bif !v1 then
  some true
 else
  (a1n n q1).bind fun v8=>
  some (!v8)).bind fun v2=>
 bif v2 then
  some ((⟨(⟨0,[]⟩:Big),(⟨0,[]⟩:Big)⟩:Frac),1)
 else
  bif q1.Sign==0 then
   some ((⟨(⟨0,[]⟩:Big),(⟨0,[]⟩:Big)⟩:Frac),14)
  else
   (bif decide (q1.Sign<0)then
    (b1b n p1).bind fun v6=>
    (b1b n q1).bind fun v7=>
    some (v7.Sign,v7.Digits,v6.Sign,v6.Digits)
   else
    some (q1.Sign,q1.Digits,p1.Sign,p1.Digits)).bind fun(f1,f2,f3,f4)=>
   (b1v n (⟨f3,f4⟩:Big) (⟨f1,f2⟩:Big)).bind fun v3=>
   (b0d n (⟨f3,f4⟩:Big) v3.1).bind fun v4=>
   (b0d n (⟨f1,f2⟩:Big) v3.1).bind fun v5=>
   some ((⟨v4.1,v5.1⟩:Frac),0)
def b9r(n:Nat)(p1:Int)(q1:Int):Option (Frac×Int):=
 (b2h n p1).bind fun v1=>
 (b2h n q1).bind fun v2=>
 (b1s n v1 v2).bind fun v3=>
 some (v3.1,v3.2)
def d0b(n:Nat)(ax1:Frac)(b1:Frac):Option (Frac×Int):=
 (a6g n ax1).bind fun v1=>
 (bif !v1 then
  some true
 else
  (a6g n b1).bind fun v8=>
  some (!v8)).bind fun v2=>
 bif v2 then
  some ((⟨(⟨0,[]⟩:Big),(⟨0,[]⟩:Big)⟩:Frac),1)
 else
  (a6o n ax1.P b1.Q).bind fun v3=>
  (a6o n b1.P ax1.Q).bind fun v4=>
  (a6o n ax1.Q b1.Q).bind fun v5=>
  (b2y n v3.1 v4.1).bind fun v6=>
  (b1s n v6.1 v5.1).bind fun v7=>
  some (v7.1,v7.2)
def b3d(n:Nat)(ax1:Frac)(b1:Frac):Option (Frac×Int):=
 (a6g n ax1).bind fun v1=>
 (bif !v1 then
  some true
 else
  (a6g n b1).bind fun v8=>
  some (!v8)).bind fun v2=>
 bif v2 then
  some ((⟨(⟨0,[]⟩:Big),(⟨0,[]⟩:Big)⟩:Frac),1)
 else
  (a6o n ax1.P b1.Q).bind fun v3=>
  (a6o n b1.P ax1.Q).bind fun v4=>
  (a6o n ax1.Q b1.Q).bind fun v5=>
  (b5s n v3.1 v4.1).bind fun v6=>
  (b1s n v6.1 v5.1).bind fun v7=>
  some (v7.1,v7.2)
def a6a(n:Nat)(nx1:Int):Option Frac:=
 (b9r n nx1 1).bind fun v1=>
 some v1.1
end Go.Proofs.YthaegflpecbfgaaGreatDoor.M
namespace Go.Proofs.YthaegflpecbfgaaGreatDoor.M
open Go Go.RowKit Rt
set_option linter.unusedVariables false
def c1c(_n:Nat)(nx1:Int)(high1:Int):Option Bool:=
 (bif decide (0<=nx1)then
  some (decide (nx1<=high1))
 else
  some false).bind fun v1=>
 some v1
def a8j(n:Nat)(k1:Int):Option Bool:=
 (c1c n k1 200).bind fun v1=>
 some (!v1)
def a8k(n:Nat)(wx1:Frac):Option Bool:=
 (a2f n wx1).bind fun v1=>
 (bif !v1 then
  some true
 else
  (b2a n wx1).bind fun v3=>
  some (decide (v3<0))).bind fun v2=>
 some v2
def slices_IndexFunc_api_Frac_api_Frac_L1(n:Nat)(s1:(List Frac))(f1:(Frac->Option Bool))(kont1:Option Int):Nat->Int->Option Int
 |0,_=>none
 |mx1+1,i1=>
  bif decide (i1<(s1.length:Int))then
   (ix s1 i1).bind fun ex1=>
   (f1 ex1).bind fun v1=>
   bif v1 then
    some i1
   else
    slices_IndexFunc_api_Frac_api_Frac_L1 n s1 f1 kont1 mx1 (iadd .i64 i1 1)
  else
   kont1
theorem slices_IndexFunc_api_Frac_api_Frac_L1_s:type_of% @slices_IndexFunc_api_Frac_api_Frac_L1.eq_2:= @slices_IndexFunc_api_Frac_api_Frac_L1.eq_2
def a2j(n:Nat)(s1:(List Frac))(f1:(Frac->Option Bool)):Option Int:=
 slices_IndexFunc_api_Frac_api_Frac_L1 n s1 f1 (
  some (-1)) n 0
def a0s(n:Nat)(s1:(List Frac))(f1:(Frac->Option Bool)):Option Bool:=
 (a2j n s1 f1).bind fun v1=>
 some (decide (0<=v1))
structure Facts where
 Lifts:(List Int)
 Persons:Int
 Flats:Int
 deriving DecidableEq,Inhabited
def rp_Facts:Rp Facts where
 k:=3
 R:=fun F cs x=>∃(a0:Option Addr)(n0:Nat)(c0:Nat),cs= [.slice a0 n0 c0,.int .i64 x.Persons,.int .i64 x.Flats]/\SlR (Rp.int .i64) F a0 n0 c0 x.Lifts
 len:=by rintro F cs x ⟨a0,n0,c0,h,_⟩;simp [h]
 mono:=by rintro F F' cs x hF ⟨a0,n0,c0,h,h0⟩;exact⟨a0,n0,c0,h,h0.mono hF⟩
 one:=by rintro F cs x ⟨a0,n0,c0,h,_⟩ u hu;subst h;simp at hu;rcases hu with rfl|rfl|rfl<;>rfl
def b5c(n:Nat)(f1:Facts)(weights1:(List Frac))(nx1:Int):Option Bool:=
 (bif(f1.Lifts.length:Int)==nx1 then
  some ((weights1.length:Int)==nx1)
 else
  some false).bind fun v1=>
 (bif v1 then
  (c1c n f1.Persons 1000).bind fun v9=>
  some v9
 else
  some false).bind fun v2=>
 (bif v2 then
  (c1c n f1.Flats 1000).bind fun v8=>
  some v8
 else
  some false).bind fun v3=>
 (bif v3 then
  (a1w n f1.Lifts (a8j n)).bind fun v7=>
  some (!v7)
 else
  some false).bind fun v4=>
 (bif v4 then
  (a0s n weights1 (a8k n)).bind fun v6=>
  some (!v6)
 else
  some false).bind fun v5=>
 some v5
def b5k(n:Nat)(f1:Frac):Option Frac:=
 ((a0r n f1.P.Digits).bind fun v1=>
 (a0r n f1.Q.Digits).bind fun v2=>
 some (v1,v2)).bind fun(f2,f3)=>
 some (⟨(⟨f1.P.Sign,f2⟩:Big),(⟨f1.Q.Sign,f3⟩:Big)⟩:Frac)
def a9j(n:Nat)(op1:Int)(ax1:Frac)(b1:Frac):Option Frac:=
 bif op1==5 then
  (b2i n ax1 b1).bind fun v1=>
  some v1.1
 else
  bif op1==6 then
   (b9i n ax1 b1).bind fun v2=>
   some v2.1
  else
   bif op1==7 then
    (b3l n ax1 b1).bind fun v3=>
    some v3.1
   else
    bif op1==8 then
     (b9b n ax1 b1).bind fun v4=>
     some v4.1
    else
     bif op1==9 then
      (b9v n ax1 b1).bind fun v5=>
      some v5.1
     else
      bif op1==10 then
       (b6n n ax1 b1).bind fun v6=>
       some v6.1
      else
       some (⟨(⟨0,[]⟩:Big),(⟨0,[]⟩:Big)⟩:Frac)
structure known where
 names:(List Bs)
 facts:Facts
 weights:(List Frac)
 deriving DecidableEq,Inhabited
mutual
def fee_known_number:Nat->known->Expr->Option Frac
 |0,_,_=>none
 |n+1,k1,x1=>
  (a0o n k1.names x1.Name).bind fun v1=>
  bif x1.Op==0 then
   (a3q n x1.N).bind fun v2=>
   some v2
  else
   bif x1.Op==1 then
    (ix k1.facts.Lifts v1).bind fun ex1=>
    (a3q n ex1).bind fun v3=>
    some v3
   else
    bif x1.Op==2 then
     (a3q n k1.facts.Persons).bind fun v4=>
     some v4
    else
     bif x1.Op==3 then
      (a3q n k1.facts.Flats).bind fun v5=>
      some v5
     else
      bif x1.Op==4 then
       (ix k1.weights v1).bind fun ex2=>
       some ex2
      else
       bif x1.Op==11 then
        (ix x1.Args 0).bind fun ex3=>
        (fee_known_truth n k1 ex3).bind fun v6=>
        bif v6 then
         (ix x1.Args 1).bind fun ex4=>
         (fee_known_number n k1 ex4).bind fun v7=>
         some v7
        else
         (ix x1.Args 2).bind fun ex5=>
         (fee_known_number n k1 ex5).bind fun v8=>
         some v8
       else
        (ix x1.Args 0).bind fun ex6=>
        (ix x1.Args 1).bind fun ex7=>
        (fee_known_number n k1 ex6).bind fun v9=>
        (fee_known_number n k1 ex7).bind fun v10=>
        (a9j n x1.Op v9 v10).bind fun v11=>
        some v11
def fee_known_truth:Nat->known->Expr->Option Bool
 |0,_,_=>none
 |n+1,k1,x1=>
  bif x1.Op==14 then
   (ix x1.Args 0).bind fun ex1=>
   (fee_known_truth n k1 ex1).bind fun v1=>
   some (!v1)
  else
   bif x1.Op==15 then
    (ix x1.Args 0).bind fun ex2=>
    (fee_known_truth n k1 ex2).bind fun v2=>
    (bif v2 then
     (ix x1.Args 1).bind fun ex3=>
     (fee_known_truth n k1 ex3).bind fun v4=>
     some v4
    else
     some false).bind fun v3=>
    some v3
   else
    bif x1.Op==16 then
     (ix x1.Args 0).bind fun ex4=>
     (fee_known_truth n k1 ex4).bind fun v5=>
     (bif v5 then
      some true
     else
      (ix x1.Args 1).bind fun ex5=>
      (fee_known_truth n k1 ex5).bind fun v7=>
      some v7).bind fun v6=>
     some v6
    else
     (ix x1.Args 0).bind fun ex6=>
     (ix x1.Args 1).bind fun ex7=>
     (fee_known_number n k1 ex6).bind fun v8=>
     (fee_known_number n k1 ex7).bind fun v9=>
     (a7h n v8 v9).bind fun v10=>
     bif x1.Op==12 then
      some (decide (v10<0))
     else
      some (v10==0)
 end
theorem fee_known_number_s:type_of% @fee_known_number.eq_2:= @fee_known_number.eq_2
theorem fee_known_truth_s:type_of% @fee_known_truth.eq_2:= @fee_known_truth.eq_2
def a4l(n:Nat)(t1:Tariff)(names1:(List Bs))(f1:Facts)(weights1:(List Frac)):Option (Frac×Int):=
 (a3v n t1 names1).bind fun v1=>
 bif v1 !=0 then
  some ((⟨(⟨0,[]⟩:Big),(⟨0,[]⟩:Big)⟩:Frac),v1)
 else
  (b5c n f1 weights1 (names1.length:Int)).bind fun v2=>
  bif !v2 then
   some ((⟨(⟨0,[]⟩:Big),(⟨0,[]⟩:Big)⟩:Frac),1)
  else
   (fee_known_number n (⟨names1,f1,weights1⟩:known) t1.Fee).bind fun v3=>
   (b5k n v3).bind fun v4=>
   some (v4,0)
def ref36_Few_L2(n:Nat)(weights1:(List Frac))(kont1:Option Bool):Nat->Int->Option Bool
 |0,_=>none
 |mx1+1,i2=>
  (bif decide (i2<(weights1.length:Int))then
   some (decide (i2<10))
  else
   some false).bind fun v6=>
  bif v6 then
   (ix weights1 i2).bind fun ex1=>
   (b1k n ex1 4).bind fun v7=>
   bif !v7 then
    some false
   else
    ref36_Few_L2 n weights1 kont1 mx1 (iadd .i64 i2 1)
  else
   kont1
theorem ref36_Few_L2_s:type_of% @ref36_Few_L2.eq_2:= @ref36_Few_L2.eq_2
def ref36_Few_L1(n:Nat)(names1:(List Bs))(kont2:Option Bool):Nat->Int->Option Bool
 |0,_=>none
 |mx2+1,i1=>
  (bif decide (i1<(names1.length:Int))then
   some (decide (i1<10))
  else
   some false).bind fun v8=>
  bif v8 then
   (ix names1 i1).bind fun ex2=>
   bif decide (30<(ex2.length:Int))then
    some false
   else
    ref36_Few_L1 n names1 kont2 mx2 (iadd .i64 i1 1)
  else
   kont2
theorem ref36_Few_L1_s:type_of% @ref36_Few_L1.eq_2:= @ref36_Few_L1.eq_2
def b5a(n:Nat)(t1:Tariff)(names1:(List Bs))(f1:Facts)(weights1:(List Frac)):Option Bool:=
 ref36_Few_L1 n names1 (
  ref36_Few_L2 n weights1 (
   (a7c n t1.Fee 60 12).bind fun v1=>
   (bif v1 then
    some (decide ((t1.Name.length:Int)<=30))
   else
    some false).bind fun v2=>
   (bif v2 then
    some (decide ((names1.length:Int)<=8))
   else
    some false).bind fun v3=>
   (bif v3 then
    some (decide ((f1.Lifts.length:Int)<=8))
   else
    some false).bind fun v4=>
   (bif v4 then
    some (decide ((weights1.length:Int)<=8))
   else
    some false).bind fun v5=>
   some v5) n 0) n 0
end Go.Proofs.YthaegflpecbfgaaGreatDoor.M
namespace Go.Proofs.YthaegflpecbfgaaGreatDoor.M
open Go Go.RowKit Rt
set_option linter.unusedVariables false
structure reader where
 l:(List Token)
 at_:Int
 e:Int
 deriving DecidableEq,Inhabited
theorem fa149_2:b0k Tryz.prog 149 2 2:=fun _ _ _=>by kernel_rfl
theorem ag38:a9n Tryz.prog 38 false:=fun _=>by kernel_rfl
theorem fa149_0:b0k Tryz.prog 149 0 0:=fun _ _ _=>by kernel_rfl
theorem ag144:a9n Tryz.prog 144 false:=fun _=>by kernel_rfl
theorem fa149_1:b0k Tryz.prog 149 1 1:=fun _ _ _=>by kernel_rfl
theorem u144:Tryz.prog.underlying 144=some (.slice 152):=by kernel_rfl
def a3f(_n:Nat)(rx1:reader):Option (reader×Token):=
 (bif rx1.e !=0 then
  some true
 else
  some (rx1.at_==(rx1.l.length:Int))).bind fun v1=>
 bif v1 then
  some (rx1,(⟨4,[],0,0⟩:Token))
 else
  (ix rx1.l rx1.at_).bind fun ex1=>
  some (rx1,ex1)
theorem a5c(n:Nat)(rx1:reader)(r:(reader×Token))(hm:a3f n rx1=some r){w:World}{F:Frz}(hs:Sat F w){j:Option Addr}{k:Nat}{g:Nat}{brx1:Nat}(o:SlR rp_Token F j k g rx1.l)(hbrx1:(OE.box brx1 149 [.slice j k g,.int .i64 rx1.at_,.int .i64 rx1.e]).ok w)(hfrx1:F brx1=none):
 Calls Tryz.prog 188 #[.pointer (some ⟨brx1,0,none⟩)] w fun e w'=>∃v F' cs' O',e= .returned v/\HS F w [brx1] F' (.box brx1 149 cs'::O') w'/\(∃(al_0:Option Addr)(nl_0:Nat)(cl_0:Nat),v= .agg #[.int .i64 r.2.Kind,vs r.2.Text,.int .i64 r.2.N,.int .i64 r.2.Pos]/\cs'= [.slice al_0 nl_0 cl_0,.int .i64 r.1.at_,.int .i64 r.1.e]/\O'= []/\SlR rp_Token F' al_0 nl_0 cl_0 r.1.l):=by
 unfold a3f at hm
 have h:=HS.lend hs hbrx1 hfrx1
 refine a2g 31 Tryz.func188 Y Y Y (a0f (a0a (a3w ze152 Y Y Y h ?_)))
 intro b1 Q H
 refine a0e (a0d (a0f (a0f (b6c (by kernel_rfl) (by kernel_rfl) H (a2x Y Y Y Y (fun _ _ _ _=>a0b Y Y Y Yn) (d6c Y Y Y (a2x Y Y Y Y (fun _ _ _ _=>a0i fa149_2 Y Y Y Yn) (a2x Y Y Y Y (fun _ _ _ hq=>a1y ag38 Y Y hq Y (i:=1) Y Y Yn) (a2x Y Y Y Y (fun _ _ _ _=>a0x Y Y Y Y Y Yn) ?_)))))))))
 refine a2x Y Y Y Y (fun _ _ _ _=>a0b Y Y Y Yn) ?_
 obtain⟨v1,m,hm⟩:=Yb hm
 refine e4r 11 (fun a=>Has 31 a [(0,.pointer (some ⟨brx1,0,none⟩)),(2,.pointer (some ⟨b1,0,none⟩)),(19,.bool v1)]) ?_ ?_
 intro a G
 refine c8a G (e1q ?_)
 rintro R ⟨I,p,x⟩
 refine a0d ?_
 rcases a0g hm with⟨q,hm⟩|⟨q,hm⟩
 refine a1j 19 Y q (a1t Y (a0f (a0a (a5r (v:= .agg #[.int .i64 4,vs [],.int .i64 0,.int .i64 0]) Y Y Y (fun _=>by kernel_rfl) (a0w sz152 Y x Y Y Y Y (i:=0) Y Y Y Y ?_)))))
 intro T y
 refine a0e (a0d (a3x (a0p (b0o Y ag152 sz152 Y y Y (i:=0) Y ?_))))
 obtain rfl:=Yo hm
 exact⟨_,_,_,_,Y,y.Yp [1] Y Y,j,k,g,Y,Y,Y,(o.mono p)⟩
 refine a1j 19 Y q (a1f Y (a2v (a0d (a0f (a8a (SH I [.box brx1 149 [.slice j k g,.int .i64 rx1.at_,.int .i64 rx1.e]]) 11 Y (by kernel_rfl) x ?_)))))
 intro U z
 have S0:=z.Ys Yf [1] Y Y
 refine d_tk 0 Y (by kernel_rfl) Y Y Y Y S0 (fun _ _ _ _ _=>a0b Y Y Y Yn) (e3c 1 Y (by kernel_rfl) (by kernel_rfl) (by kernel_rfl) Y Y Y S0 (d_tk 2 Y (by kernel_rfl) Y Y Y Y S0 (fun _ _ _ _ _=>a0i fa149_0 Y Y Y Yn) (d_tk 3 Y (by kernel_rfl) Y Y Y Y S0 (fun _ _ _ _ hq=>a1y ag144 Y Y hq Y (i:=0) Y Y Yn) (d_tk 4 Y (by kernel_rfl) Y Y Y Y S0 (fun _ _ _ _ _=>a0b Y Y Y Yn) (e3c 5 Y (by kernel_rfl) (by kernel_rfl) (by kernel_rfl) Y Y Y S0 (d_tk 6 Y (by kernel_rfl) Y Y Y Y S0 (fun _ _ _ _ _=>a0i fa149_1 Y Y Y Yn) ?_))))))
 refine d_tk 7 Y (by kernel_rfl) Y Y Y Y S0 (fun _ _ _ _ hq=>a1y ag3 Y Y hq Y (i:=0) Y Y Yn) ?_
 obtain⟨ex1,J,hm⟩:=Yb hm
 obtain⟨b2,o1,g,K,L,u⟩:=b3h (P:=Tryz.prog) (r:=rp_Token) u144 sz152 (o.mono p) J
 have M:g= [.int .i64 ex1.Kind,vs ex1.Text,.int .i64 ex1.N,.int .i64 ex1.Pos]:=L
 subst M
 refine d2h 8 Y (by kernel_rfl) (by kernel_rfl) (by kernel_rfl) Y Y Y Y u S0 (d_tk 9 Y (by kernel_rfl) Y Y Y Y S0 (fun _ _ _ hleq hq=>e1w ag152 sz152 Y Y hq (K.mono hleq) Y Y Yn) (a1m 10 Y (by kernel_rfl) (a0w sz152 Y z Y Y Y Y (i:=0) Y Y Y Y ?_)))
 intro V s
 refine a0y (s.Ys Yf [1] Y Y) (a8o (by kernel_rfl) (a0d (a3x (b0o Y ag152 sz152 Y s Y (i:=0) Y ?_))))
 obtain rfl:=Yo hm
 exact⟨_,_,_,_,Y,s.Yp [1] Y Y,j,k,g,Y,Y,Y,(o.mono p)⟩
 clear hm
 rcases a0g m with⟨t,m⟩|⟨t,m⟩
 refine d0v 8 Y t (a4h Y Y Y (a4h Y Y Y (a4h Y Y Y (a4h Y Y Y (a4h Y Y Y (a4h Y Y Y (a4h Y Y Y (a4h Y Y Y (a4h Y Y Y (a4h Y Y Y (a2x Y Y Y Y (fun _ _ _ _=>a0n Y Y Y Y Yn) (d0n (fun a ha=> ?_)))))))))))))
 cases m
 exact ha.cut (l:= [0,2,19]) Y
 refine d0v 8 Y t (a2x Y Y Y Y (fun _ _ _ _=>a0b Y Y Y Yn) (d6c Y Y Y (a2x Y Y Y Y (fun _ _ _ _=>a0i fa149_1 Y Y Y Yn) (a2x Y Y Y Y (fun _ _ _ hq=>a1y ag3 Y Y hq Y (i:=1) Y Y Yn) (a2x Y Y Y Y (fun _ _ _ _=>a0b Y Y Y Yn) (d6c Y Y Y ?_))))))
 refine a2x Y Y Y Y (fun _ _ _ _=>a0i fa149_0 Y Y Y Yn) (a2x Y Y Y Y (fun _ _ _ hq=>a1y ag144 Y Y hq Y (i:=1) Y Y Yn) (a2x Y Y Y Y (fun _ _ _ _=>a6y o.len u144 Y Y Y Yn) (a2x Y Y Y Y (fun _ _ _ _=>a0x Y Y Y Y Y Yn) (a2x Y Y Y Y (fun _ _ _ _=>a0j Y Y Y Y Yn) (d0n (fun a ha=> ?_))))))
 cases m
 exact ha.cut (l:= [0,2,19]) Y
theorem sz38:SizeIs Tryz.prog 38 1:=fun _=>by kernel_rfl
def a2a(_n:Nat)(rx1:reader)(ex1:Int):Option reader:=
 bif rx1.e==0 then
  some (⟨rx1.l,rx1.at_,ex1⟩:reader)
 else
  some rx1
theorem a5e(n:Nat)(rx1:reader)(ex1:Int)(r:reader)(hm:a2a n rx1 ex1=some r){w:World}{F:Frz}(hs:Sat F w){g:Option Addr}{j:Nat}{k:Nat}{brx1:Nat}(o:SlR rp_Token F g j k rx1.l)(hbrx1:(OE.box brx1 149 [.slice g j k,.int .i64 rx1.at_,.int .i64 rx1.e]).ok w)(hfrx1:F brx1=none):
 Calls Tryz.prog 136 #[.pointer (some ⟨brx1,0,none⟩),.int .i64 ex1] w fun e w'=>∃v F' cs' O',e= .returned v/\HS F w [brx1] F' (.box brx1 149 cs'::O') w'/\(∃(al_0:Option Addr)(nl_0:Nat)(cl_0:Nat),v= .tuple #[]/\cs'= [.slice al_0 nl_0 cl_0,.int .i64 r.at_,.int .i64 r.e]/\O'= []/\SlR rp_Token F' al_0 nl_0 cl_0 r.l):=by
 unfold a2a at hm
 have h:=HS.lend hs hbrx1 hfrx1
 refine a2g 13 Tryz.func136 Y Y Y (a0f (a0a (a0b Y Y Y (b4o Y Y Y (a0i fa149_2 Y Y Y (a1y ag38 Y Y h Y (i:=0) Y Y (a0x Y Y Y Y Y (a0e (a0d ?_)))))))))
 rcases a0g hm with⟨m,hm⟩|⟨m,hm⟩
 refine a1j 8 Y m (a1t Y (a0a (a0b Y Y Y (a0b Y Y Y (b4o Y Y Y (a0i fa149_2 Y Y Y (a0w sz38 Y h Y Y Y Y (i:=0) Y Y Y Y ?_)))))))
 intro q p
 refine a0e (d6i Y ?_)
 obtain rfl:=Yo hm
 exact⟨_,_,_,_,Y,p.Yp [0] Y Y,g,j,k,Y,Y,Y,o⟩
 refine a1j 8 Y m (a1f Y (a2v (d6i Y ?_)))
 obtain rfl:=Yo hm
 exact⟨_,_,_,_,Y,h.Yp [0] Y Y,g,j,k,Y,Y,Y,o⟩
theorem ent188:Ent Tryz.prog 188:=fun _ _=>by kernel_rfl
theorem fa152_1:b0k Tryz.prog 152 1 1:=fun _ _ _=>by kernel_rfl
theorem fa152_0:b0k Tryz.prog 152 0 0:=fun _ _ _=>by kernel_rfl
def a5a(n:Nat)(rx1:reader)(s2:Bs):Option (reader×Bool):=
 (a3f n rx1).bind fun v1=>
 (bif v1.2.Text==s2 then
  (bif v1.2.Kind==0 then
   some true
  else
   some (v1.2.Kind==3)).bind fun v3=>
  some v3
 else
  some false).bind fun v2=>
 some (v1.1,v2)
theorem b8c(n:Nat)(rx1:reader)(s2:Bs)(r:(reader×Bool))(hm:a5a n rx1 s2=some r){w:World}{F:Frz}(hs:Sat F w){p:Option Addr}{q:Nat}{s:Nat}{brx1:Nat}(y:SlR rp_Token F p q s rx1.l)(hbrx1:(OE.box brx1 149 [.slice p q s,.int .i64 rx1.at_,.int .i64 rx1.e]).ok w)(hfrx1:F brx1=none):
 Calls Tryz.prog 135 #[.pointer (some ⟨brx1,0,none⟩),vs s2] w fun e w'=>∃v F' cs' O',e= .returned v/\HS F w [brx1] F' (.box brx1 149 cs'::O') w'/\(∃(al_0:Option Addr)(nl_0:Nat)(cl_0:Nat),v= .bool r.2/\cs'= [.slice al_0 nl_0 cl_0,.int .i64 r.1.at_,.int .i64 r.1.e]/\O'= []/\SlR rp_Token F' al_0 nl_0 cl_0 r.1.l):=by
 unfold a5a at hm
 have h:=HS.lend hs hbrx1 hfrx1
 refine a2g 22 Tryz.func135 Y Y Y (a0f (a0a (a0c Y Y Y (a0e (a0d (a0f (a0a (a0b Y Y Y ?_))))))))
 obtain⟨v1,z,hm⟩:=Yb hm
 refine a2w ent188 Y Y Y Y h (i:=0) Y (a5c _ _ _ z h.sat y (h.get (i:=0) Y) (h.lendable (i:=0) Y)) ?_
 rintro _ M _ _ N Q G ⟨H,I,J,rfl,rfl,rfl,K⟩
 refine a3w ze152 Y Y Y G ?_
 intro b1 R L
 refine a0w sz152 Y L Y Y Y Y (i:=0) Y Y Y Y ?_
 intro t k
 refine a0e (a0d (a0f (a0a (a0i fa152_1 Y Y Y (a1y ag9 Y Y k Y (i:=0) Y Y (a0b Y Y Y (c0f Y Y Y Y Y (a0b Y Y Y ?_))))))))
 obtain⟨v2,g,hm⟩:=Yb hm
 refine a8i 9 (fun a w'=>t=w'/\Has 22 a [(21,.bool v2)]) ?_ ?_
 rintro a T ⟨rfl,u⟩
 refine a2k u (a0c Y Y Y (a0e (a0d (a3x (a9d Y Y ?_)))))
 obtain rfl:=Yo hm
 exact⟨_,_,_,_,Y,k.Yp [1] Y Y,H,I,J,Y,Y,Y,K⟩
 clear hm
 rcases a0g g with⟨m,g⟩|⟨m,g⟩
 refine a3o 12 Y m (a0i fa152_0 Y Y Y (a1y ag3 Y Y k Y (i:=0) Y Y (a0x Y Y Y Y Y (a0b Y Y Y ?_))))
 obtain⟨v3,j,g⟩:=Yb g
 refine a8i 4 (fun a w'=>t=w'/\Has 22 a [(12,.bool true),(20,.bool v3)]) ?_ ?_
 rintro a U ⟨rfl,x⟩
 refine a2k x (a0n Y Y Y Y (a0e (a0m (fun a ha=> ?_))))
 cases g
 exact⟨Y,ha.cut (l:= [21]) Y⟩
 clear g
 rcases a0g j with⟨o,j⟩|⟨o,j⟩
 refine a3o 16 Y o (a1g Y (by decide) Y (a1g Y (by decide) Y (a1g Y (by decide) Y (a0n Y Y Y Y (a0e (a0m (fun a ha=> ?_)))))))
 cases j
 exact⟨Y,ha.cut (l:= [12,20]) Y⟩
 refine a3o 16 Y o (a0i fa152_0 Y Y Y (a1y ag3 Y Y k Y (i:=0) Y Y (a0x Y Y Y Y Y (a0j Y Y Y Y (a0e (a0m (fun a ha=> ?_)))))))
 cases j
 exact⟨Y,ha.cut (l:= [12,20]) Y⟩
 refine a3o 12 Y m (a1g Y (by decide) Y (a1g Y (by decide) Y (a1g Y (by decide) Y (a1g Y (by decide) Y (a1g Y (by decide) Y (a1g Y (by decide) Y (a1g Y (by decide) Y (a1g Y (by decide) Y (a0j Y Y Y Y (a0e (a0m (fun a ha=> ?_))))))))))))
 cases g
 exact⟨Y,ha.cut (l:= [21]) Y⟩
theorem ent135:Ent Tryz.prog 135:=fun _ _=>by kernel_rfl
def a2p(n:Nat)(rx1:reader)(s2:Bs):Option (reader×Bool):=
 (a5a n rx1 s2).bind fun v1=>
 (bif v1.2 then
  some (iadd .i64 v1.1.at_ 1)
 else
  some v1.1.at_).bind fun f1=>
 some ((⟨v1.1.l,f1,v1.1.e⟩:reader),v1.2)
theorem a5b(n:Nat)(rx1:reader)(s2:Bs)(r:(reader×Bool))(hm:a2p n rx1 s2=some r){w:World}{F:Frz}(hs:Sat F w){o:Option Addr}{p:Nat}{q:Nat}{brx1:Nat}(y:SlR rp_Token F o p q rx1.l)(hbrx1:(OE.box brx1 149 [.slice o p q,.int .i64 rx1.at_,.int .i64 rx1.e]).ok w)(hfrx1:F brx1=none):
 Calls Tryz.prog 137 #[.pointer (some ⟨brx1,0,none⟩),vs s2] w fun e w'=>∃v F' cs' O',e= .returned v/\HS F w [brx1] F' (.box brx1 149 cs'::O') w'/\(∃(al_0:Option Addr)(nl_0:Nat)(cl_0:Nat),v= .bool r.2/\cs'= [.slice al_0 nl_0 cl_0,.int .i64 r.1.at_,.int .i64 r.1.e]/\O'= []/\SlR rp_Token F' al_0 nl_0 cl_0 r.1.l):=by
 unfold a2p at hm
 have h:=HS.lend hs hbrx1 hfrx1
 refine a2g 18 Tryz.func137 Y Y Y (a0f (a0a (a0c Y Y Y (a0e (a0d (a0f (a0a (a0b Y Y Y (a0b Y Y Y ?_)))))))))
 obtain⟨v1,z,hm⟩:=Yb hm
 refine a2w ent135 Y Y Y Y h (i:=0) Y (b8c _ _ _ _ z h.sat y (h.get (i:=0) Y) (h.lendable (i:=0) Y)) ?_
 rintro _ G _ _ L M j ⟨s,t,u,rfl,rfl,rfl,H⟩
 refine a0c Y Y Y (a0e (a0d (a0f (a0f (a0a (a0b Y Y Y (a0e (a0d ?_))))))))
 obtain⟨f1,g,hm⟩:=Yb hm
 refine c0t (fun a w'=>∃(k:Frz),Frz.le G k/\HS F w [brx1] k [.box brx1 149 [.slice s t u,.int .i64 f1,.int .i64 v1.1.e]] w'/\Has 18 a [(5,.bool v1.2)]) ?_ ?_
 rintro a N ⟨k,I,J,x⟩
 refine a3a x (a0f (a0a (a0b Y Y Y (a0c Y Y Y (a0e (a0d (a3x (a9d Y Y ?_))))))))
 obtain rfl:=Yo hm
 exact⟨_,_,_,_,Y,J.Yp [0] Y Y,s,t,u,Y,Y,Y,(H.mono I)⟩
 clear hm
 rcases a0g g with⟨m,g⟩|⟨m,g⟩
 refine a1j 9 Y m (a1t Y (a0a (a0b Y Y Y (b4o Y Y Y (a0i fa149_1 Y Y Y (a1y ag3 Y Y j Y (i:=0) Y Y (a0x Y Y Y Y Y (b4o Y Y Y ?_))))))))
 refine a0i fa149_1 Y Y Y (a0w sz3 Y j Y Y Y Y (i:=0) Y Y Y Y ?_)
 intro Q K
 refine a0e (a0m (fun a ha=> ?_))
 cases g
 exact⟨_,Yf,K.Yp [0] Y Y,ha.cut (l:= [5]) Y⟩
 refine a1j 9 Y m (a1f Y (a2v (a0m (fun a ha=> ?_))))
 cases g
 exact⟨_,Yf,j.Yp [0] Y Y,ha.cut (l:= [5]) Y⟩
theorem ent137:Ent Tryz.prog 137:=fun _ _=>by kernel_rfl
theorem ent136:Ent Tryz.prog 136:=fun _ _=>by kernel_rfl
def tariff_reader_need_L1(n:Nat)(l1:(List Bs))(kont1:(List Token)->Int->Int->Option reader):Nat->Int->(List Token)->Int->Int->Option reader
 |0,_,_,_,_=>none
 |mx1+1,i1,f1,f2,f3=>
  bif decide (i1<(l1.length:Int))then
   (ix l1 i1).bind fun ex1=>
   (a2p n (⟨f1,f2,f3⟩:reader) ex1).bind fun v1=>
   bif !v1.2 then
    (a2a n v1.1 12).bind fun v2=>
    tariff_reader_need_L1 n l1 kont1 mx1 (iadd .i64 i1 1) v2.l v2.at_ v2.e
   else
    tariff_reader_need_L1 n l1 kont1 mx1 (iadd .i64 i1 1) v1.1.l v1.1.at_ v1.1.e
  else
   kont1 f1 f2 f3
theorem tariff_reader_need_L1_s:type_of% @tariff_reader_need_L1.eq_2:= @tariff_reader_need_L1.eq_2
def a0q(n:Nat)(rx1:reader)(l1:(List Bs)):Option reader:=
 tariff_reader_need_L1 n l1 (fun(f4:(List Token))(f5:Int)(f6:Int)=>
  some (⟨f4,f5,f6⟩:reader)) n 0 rx1.l rx1.at_ rx1.e
theorem a2d(n:Nat)(rx1:reader)(l1:(List Bs))(r:reader)(hm:a0q n rx1 l1=some r){w:World}{F:Frz}(hs:Sat F w){J:Option Addr}{L:Nat}{k:Nat}{brx1:Nat}{M:Option Addr}{N:Nat}{Q:Nat}(g4:SlR rp_Token F J L k rx1.l)(hbrx1:(OE.box brx1 149 [.slice J L k,.int .i64 rx1.at_,.int .i64 rx1.e]).ok w)(hfrx1:F brx1=none)(U:SlR Rp.str F M N Q l1):
 Calls Tryz.prog 132 #[.pointer (some ⟨brx1,0,none⟩),.slice M N Q] w fun e w'=>∃v F' cs' O',e= .returned v/\HS F w [brx1] F' (.box brx1 149 cs'::O') w'/\(∃(al_0:Option Addr)(nl_0:Nat)(cl_0:Nat),v= .tuple #[]/\cs'= [.slice al_0 nl_0 cl_0,.int .i64 r.at_,.int .i64 r.e]/\O'= []/\SlR rp_Token F' al_0 nl_0 cl_0 r.l):=by
 unfold a0q at hm
 have h:=HS.lend hs hbrx1 hfrx1
 refine a2g 19 Tryz.func132 Y Y Y (a0f (a0a (a0b Y Y Y (a6y U.len u27 Y Y Y (a0b Y Y Y (a0e (a0d (a3d ?_))))))))
 intro a g1
 obtain⟨kont1,hkont1⟩:∃kont1:(List Token)->Int->Int->Option reader,kont1=(fun(f4:(List Token))(f5:Int)(f6:Int)=>some (⟨f4,f5,f6⟩:reader)):=⟨_,Y⟩
 replace hm:(fun m(s:Int×(List Token)×Int×Int)=>tariff_reader_need_L1 n l1 kont1 m s.1 s.2.1 s.2.2.1 s.2.2.2) n (0,rx1.l,rx1.at_,rx1.e)=some r:=by rw [hkont1];exact hm
 refine b9w (id:=0) (fun m(s:Int×(List Token)×Int×Int)=>tariff_reader_need_L1 n l1 kont1 m s.1 s.2.1 s.2.2.1 s.2.2.2) (fun(y:(List Token)×Int×Int)=>kont1 y.1 y.2.1 y.2.2) r (fun(s:Int×(List Token)×Int×Int)a w'=>∃(p:Frz)(q:Option Addr)(t:Nat)(u:Nat),Frz.le F p/\HS F w [brx1] p [.box brx1 149 [.slice q t u,.int .i64 s.2.2.1,.int .i64 s.2.2.2]] w'/\(SlR rp_Token p q t u s.2.1)/\Has 19 a [(0,.pointer (some ⟨brx1,0,none⟩)),(6,.slice M N Q),(7,.int .i64 (l1.length:Int)),(8,.int .i64 s.1)]) (fun(y:(List Token)×Int×Int)a w'=>∃(x:Frz)(z:Option Addr)(G:Nat)(H:Nat),Frz.le F x/\HS F w [brx1] x [.box brx1 149 [.slice z G H,.int .i64 y.2.1,.int .i64 y.2.2]] w'/\(SlR rp_Token x z G H y.1)/\Has 19 a []) (fun _=>Y) ?_ ?_ hm ⟨_,J,L,k,Yf,h.Yp [0] Y Y,g4,g1.cut (l:= [0,6,7,8]) Y⟩
 clear hm;rintro⟨f4,f5,f6⟩ a gm hm ⟨x,z,G,H,gn,g5,g6,g2⟩
 rw [hkont1]at hm
 replace hm:=hm
 refine a6x (e:= .exit 0) g2 (a3l (d6i Y ?_))
 obtain rfl:=Yo hm
 exact⟨_,_,_,_,Y,g5.Yp [0] Y Y,z,G,H,Y,Y,Y,g6⟩
 clear hm hkont1;intro hk1 mx1 K ihx1
 rintro⟨i1,f1,f2,f3⟩ a go hm ⟨p,q,t,u,I,g,V,g3⟩
 simp only [tariff_reader_need_L1_s]at hm
 refine a3a g3 (a0f (a0a (a0x Y Y Y Y Y (a0e (a0d (a0f ?_))))))
 rcases a0g hm with⟨R,hm⟩|⟨R,hm⟩
 refine a1j 9 Y R (a1t Y (a2v (a0d (a0f (a3d (a0f (a0a ?_)))))))
 obtain⟨ex1,g7,hm⟩:=Yb hm
 refine a9w (r:=Rp.str) u27 sz9 Y Y Y Y (U.mono I) g7 ?_
 intro b1 o1 k g8 g9
 have ga:k= [vs ex1]:=g9
 subst ga
 refine a6u (j:=0) ag9 Y Y g g8 Y Y (a0c Y Y Y (a0e (a0d (a0f (a0a (a0b Y Y Y (a0b Y Y Y ?_)))))))
 obtain⟨v1,gb,hm⟩:=Yb hm
 refine a2w ent137 Y Y Y Y g (i:=0) Y (a5b _ _ _ _ gb g.sat V (g.get (i:=0) Y) (g.lendable (i:=0) Y)) ?_
 rintro _ gp _ _ gq Z o ⟨gc,gd,ge,rfl,rfl,rfl,g0⟩
 refine c8c Y Y Y (a0e (a0d ?_))
 rcases a0g hm with⟨T,hm⟩|⟨T,hm⟩
 refine a1j 15 Y T (a1t Y (a0a (a0b Y Y Y ?_)))
 obtain⟨v2,gf,hm⟩:=Yb hm
 refine a2w ent136 Y Y Y Y o (i:=0) Y (a5e _ _ _ _ gf o.sat g0 (o.get (i:=0) Y) (o.lendable (i:=0) Y)) ?_
 rintro _ gr _ _ gs gg gh ⟨gi,gj,gk,rfl,rfl,rfl,gl⟩
 refine a0e (a4x (a0d (a0a (a0x Y Y Y Y Y (a0b Y Y Y (a0e (a0m (fun a ha=>ihx1 ((iadd .i64 i1 1),v2.l,v2.at_,v2.e) a _ hm ?_))))))))
 exact⟨_,gi,gj,gk,((I.trans Z).trans gg),gh.Yp [0] Y Y,gl,ha.cut (l:= [0,6,7,8]) Y⟩
 refine a1j 15 Y T (a1f Y (a2v (a4x (a0d (a0a (a0x Y Y Y Y Y (a0b Y Y Y (a0e (a0m (fun a ha=>ihx1 ((iadd .i64 i1 1),v1.1.l,v1.1.at_,v1.1.e) a _ hm ?_))))))))))
 exact⟨_,gc,gd,ge,(I.trans Z),o.Yp [0] Y Y,g0,ha.cut (l:= [0,6,7,8]) Y⟩
 refine a1j 9 Y R (a1f Y (b1f (a1b (a1b (fun a ha=>hk1 (f1,f2,f3) a _ hm ?_)))))
 exact⟨_,q,t,u,I,g.Yp [0] Y Y,V,ha.cut (l:= []) Y⟩
def a3z(n:Nat)(rx1:reader)(kind1:Int):Option (reader×Token):=
 (a3f n rx1).bind fun v1=>
 bif v1.2.Kind !=kind1 then
  (a2a n v1.1 12).bind fun v2=>
  some (v2,(⟨0,[],0,0⟩:Token))
 else
  some ((⟨v1.1.l,iadd .i64 v1.1.at_ 1,v1.1.e⟩:reader),v1.2)
theorem b6w(n:Nat)(rx1:reader)(kind1:Int)(r:(reader×Token))(hm:a3z n rx1 kind1=some r){w:World}{F:Frz}(hs:Sat F w){m:Option Addr}{o:Nat}{p:Nat}{brx1:Nat}(x:SlR rp_Token F m o p rx1.l)(hbrx1:(OE.box brx1 149 [.slice m o p,.int .i64 rx1.at_,.int .i64 rx1.e]).ok w)(hfrx1:F brx1=none):
 Calls Tryz.prog 133 #[.pointer (some ⟨brx1,0,none⟩),.int .i64 kind1] w fun e w'=>∃v F' cs' O',e= .returned v/\HS F w [brx1] F' (.box brx1 149 cs'::O') w'/\(∃(al_0:Option Addr)(nl_0:Nat)(cl_0:Nat),v= .agg #[.int .i64 r.2.Kind,vs r.2.Text,.int .i64 r.2.N,.int .i64 r.2.Pos]/\cs'= [.slice al_0 nl_0 cl_0,.int .i64 r.1.at_,.int .i64 r.1.e]/\O'= []/\SlR rp_Token F' al_0 nl_0 cl_0 r.1.l):=by
 unfold a3z at hm
 have h:=HS.lend hs hbrx1 hfrx1
 refine a2g 23 Tryz.func133 Y Y Y (a0f (a0a (a3w ze152 Y Y Y h ?_)))
 intro b1 U j
 refine a0e (a0d (a0f (a0a (a0b Y Y Y ?_))))
 obtain⟨v1,y,hm⟩:=Yb hm
 refine a2w ent188 Y Y Y Y j (i:=1) Y (a5c _ _ _ y j.sat x (j.get (i:=1) Y) (j.lendable (i:=1) Y)) ?_
 rintro _ V _ _ Z g0 z ⟨G,H,I,rfl,rfl,rfl,q⟩
 refine a3w ze152 Y Y Y z ?_
 intro b2 g1 J
 refine a0w sz152 Y J Y Y Y Y (i:=0) Y Y Y Y ?_
 intro g2 g
 refine a0e (a0d (a0f (a0f (a0a (a0i fa152_0 Y Y Y (a1y ag3 Y Y g Y (i:=0) Y Y (a0b Y Y Y (a0x Y Y Y Y Y (a0e (a0d ?_))))))))))
 rcases a0g hm with⟨k,hm⟩|⟨k,hm⟩
 refine a1j 11 Y k (a1t Y (a0f (a0a (a0b Y Y Y ?_))))
 obtain⟨v2,K,hm⟩:=Yb hm
 refine a2w ent136 Y Y Y Y g (i:=2) Y (a5e _ _ _ _ K g.sat q (g.get (i:=2) Y) (g.lendable (i:=2) Y)) ?_
 rintro _ g3 _ _ g4 g5 L ⟨M,Q,R,rfl,rfl,rfl,T⟩
 refine a0e (a0d (a0f (a0a (a5r (v:= .agg #[.int .i64 0,vs [],.int .i64 0,.int .i64 0]) Y Y Y (fun _=>by kernel_rfl) (a0w sz152 Y L Y Y Y Y (i:=1) Y Y Y Y ?_)))))
 intro g6 s
 refine a0e (a0d (a3x (a0p (b0o Y ag152 sz152 Y s Y (i:=1) Y ?_))))
 obtain rfl:=Yo hm
 exact⟨_,_,_,_,Y,s.Yp [2] Y Y,M,Q,R,Y,Y,Y,T⟩
 refine a1j 11 Y k (a1f Y (a2v (a0d (a0f (a0a (a0b Y Y Y (b4o Y Y Y (a0i fa149_1 Y Y Y (a1y ag3 Y Y g Y (i:=2) Y Y (a0x Y Y Y Y Y (b4o Y Y Y ?_)))))))))))
 refine a0i fa149_1 Y Y Y (a0w sz3 Y g Y Y Y Y (i:=2) Y Y Y Y ?_)
 intro g7 t
 refine a0e (a0d (a0f (a0a (a6v ag152 sz152 Y Y t Y (i:=0) Y Y (a0w sz152 Y t Y Y Y Y (i:=1) Y Y Y Y ?_)))))
 intro g8 u
 refine a0e (a0d (a3x (b0o Y ag152 sz152 Y u Y (i:=1) Y ?_)))
 obtain rfl:=Yo hm
 exact⟨_,_,_,_,Y,u.Yp [2] Y Y,G,H,I,Y,Y,Y,q⟩
theorem key9:KeyIs Tryz.prog 9 (K:=Bs) vs .string:=KeyIs.str (by kernel_rfl)
theorem um193:Tryz.prog.underlying 193=some (.map 9 3):=by kernel_rfl
def b0l(_n:Nat):Option (List (Bs×Int)):=
 some (mput (mput (mput (mput (mput (mput (mput (mput ([]:(List (Bs×Int))) [43] 5) [45] 6) [42] 7) [47] 8) [60] 12) [61] 13) [97,110,100] 15) [111,114] 16)
theorem b7m(n:Nat)(r:(List (Bs×Int)))(hm:b0l n=some r){w:World}{F:Frz}(hs:Sat F w):
 Calls Tryz.prog 190 #[] w fun e w'=>∃v F' O',e= .returned v/\HS F w [] F' O' w'/\(∃(b0_0:Nat)(es0_0:List MapEntry)(cl0_0:Nat),v= .map (some b0_0)/\O'= [.mp b0_0 es0_0 cl0_0]/\MpR vs (Value.int .i64) es0_0 r):=by
 unfold b0l at hm
 have h:=HS.init hs
 refine a2g 3 Tryz.func190 Y Y Y (a0f (a0a (a0c Y Y Y (a0e (a0d (a0f (a0a (d9z Y Y h ?_))))))))
 intro b1 L g
 refine b2f (l:=([]:(List (Bs×Int)))) (k:= [43]) (v:=5) (i:=0) (.inl Y) key9 um193 Y g Y Y Y Y (show MpR vs (Value.int .i64) [] ([]:(List (Bs×Int)))from trivial) ?_
 intro M es1 cl1 j m
 refine b2f (l:=(mput ([]:(List (Bs×Int))) [43] 5)) (k:= [45]) (v:=6) (i:=0) (.inl Y) key9 um193 Y j Y Y Y Y m ?_
 intro N es2 cl2 o p
 refine b2f (l:=(mput (mput ([]:(List (Bs×Int))) [43] 5) [45] 6)) (k:= [42]) (v:=7) (i:=0) (.inl Y) key9 um193 Y o Y Y Y Y p ?_
 intro Q es3 cl3 q s
 refine b2f (l:=(mput (mput (mput ([]:(List (Bs×Int))) [43] 5) [45] 6) [42] 7)) (k:= [47]) (v:=8) (i:=0) (.inl Y) key9 um193 Y q Y Y Y Y s ?_
 intro R es4 cl4 t u
 refine b2f (l:=(mput (mput (mput (mput ([]:(List (Bs×Int))) [43] 5) [45] 6) [42] 7) [47] 8)) (k:= [60]) (v:=12) (i:=0) (.inl Y) key9 um193 Y t Y Y Y Y u ?_
 intro T es5 cl5 x y
 refine b2f (l:=(mput (mput (mput (mput (mput ([]:(List (Bs×Int))) [43] 5) [45] 6) [42] 7) [47] 8) [60] 12)) (k:= [61]) (v:=13) (i:=0) (.inl Y) key9 um193 Y x Y Y Y Y y ?_
 intro U es6 cl6 z G
 refine b2f (l:=(mput (mput (mput (mput (mput (mput ([]:(List (Bs×Int))) [43] 5) [45] 6) [42] 7) [47] 8) [60] 12) [61] 13)) (k:= [97,110,100]) (v:=15) (i:=0) (.inl Y) key9 um193 Y z Y Y Y Y G ?_
 intro V es7 cl7 H I
 refine b2f (l:=(mput (mput (mput (mput (mput (mput (mput ([]:(List (Bs×Int))) [43] 5) [45] 6) [42] 7) [47] 8) [60] 12) [61] 13) [97,110,100] 15)) (k:= [111,114]) (v:=16) (i:=0) (.inl Y) key9 um193 Y H Y Y Y Y I ?_
 intro Z es8 cl8 J K
 refine a0b Y Y Y (a0c Y Y Y (a0e (a0d (a3x (a9d Y Y ?_)))))
 obtain rfl:=Yo hm
 exact⟨_,_,_,Y,J.Yp [0] Y Y,b1,es8,cl8,Y,Y,K⟩
theorem ent189:Ent Tryz.prog 189:=fun _ _=>by kernel_rfl
theorem ent132:Ent Tryz.prog 132:=fun _ _=>by kernel_rfl
theorem ent190:Ent Tryz.prog 190:=fun _ _=>by kernel_rfl
theorem zv3:∀w,(zeroValue 3).run Tryz.prog w= .ok ((Value.int .i64) 0) w:=fun _=>by kernel_rfl
theorem fa152_2:b0k Tryz.prog 152 2 2:=fun _ _ _=>by kernel_rfl
theorem ent134:Ent Tryz.prog 134:=fun _ _=>by kernel_rfl
theorem ent133:Ent Tryz.prog 133:=fun _ _=>by kernel_rfl
theorem ap22:AppIs Tryz.prog 22 24 4 56:=AppIs.of (z:= .agg #[.int .i64 0,.int .i64 0,vs [],.slice none 0 0]) (by kernel_rfl) (by kernel_rfl) rfl (by decide) (by decide)
theorem sz22:SizeIs Tryz.prog 22 1:=fun _=>by kernel_rfl
mutual
def tariff_reader_expr:Nat->reader->Option (reader×Expr)
 |0,_=>none
 |n+1,rx1=>
  (a2p n rx1 [110,111,116]).bind fun v1=>
  bif v1.2 then
   (tariff_reader_atom n v1.1).bind fun v2=>
   some (v2.1,(⟨14,0,[],[v2.2]⟩:Expr))
  else
   (a2p n v1.1 [105,102]).bind fun v3=>
   bif v3.2 then
    (tariff_reader_atom n v3.1).bind fun v4=>
    (a0q n v4.1 [[116,104,101,110]]).bind fun v5=>
    (tariff_reader_atom n v5).bind fun v6=>
    (a0q n v6.1 [[101,108,115,101]]).bind fun v7=>
    (tariff_reader_atom n v7).bind fun v8=>
    some (v8.1,(⟨11,0,[],[v4.2,v6.2,v8.2]⟩:Expr))
   else
    (tariff_reader_atom n v3.1).bind fun v9=>
    (a3f n v9.1).bind fun v10=>
    (b0l n).bind fun v11=>
    (bif !((mget v11 v10.2.Text).isSome)then
     some (true,v10.1.l,v10.1.at_,v10.1.e)
    else
     (a2p n v10.1 v10.2.Text).bind fun v14=>
     some (!v14.2,v14.1.l,v14.1.at_,v14.1.e)).bind fun(v12,f1,f2,f3)=>
    bif v12 then
     some ((⟨f1,f2,f3⟩:reader),v9.2)
    else
     (tariff_reader_atom n (⟨f1,f2,f3⟩:reader)).bind fun v13=>
     some (v13.1,(⟨(mget v11 v10.2.Text).getD 0,0,[],[v9.2,v13.2]⟩:Expr))
def tariff_reader_atom:Nat->reader->Option (reader×Expr)
 |0,_=>none
 |n+1,rx1=>
  (a3f n rx1).bind fun v1=>
  bif v1.2.Kind==1 then
   some ((⟨v1.1.l,iadd .i64 v1.1.at_ 1,v1.1.e⟩:reader),(⟨0,v1.2.N,[],[]⟩:Expr))
  else
   (bif v1.2.Kind !=0 then
    some (v1.2.Kind !=3)
   else
    some false).bind fun v2=>
   bif v2 then
    (a2a n v1.1 12).bind fun v3=>
    some (v3,(⟨0,0,[],[]⟩:Expr))
   else
    bif v1.2.Text== [40]then
     (tariff_reader_expr n (⟨v1.1.l,iadd .i64 v1.1.at_ 1,v1.1.e⟩:reader)).bind fun v4=>
     (a0q n v4.1 [[41]]).bind fun v5=>
     some (v5,v4.2)
    else
     bif v1.2.Text== [112,101,114,115,111,110,115]then
      some ((⟨v1.1.l,iadd .i64 v1.1.at_ 1,v1.1.e⟩:reader),(⟨2,0,[],[]⟩:Expr))
     else
      bif v1.2.Text== [102,108,97,116,115]then
       some ((⟨v1.1.l,iadd .i64 v1.1.at_ 1,v1.1.e⟩:reader),(⟨3,0,[],[]⟩:Expr))
      else
       (bif v1.2.Text== [108,105,102,116,115]then
        some true
       else
        some (v1.2.Text== [119,101,105,103,104,116])).bind fun v6=>
       bif v6 then
        (bif v1.2.Text== [119,101,105,103,104,116]then
         some 4
        else
         some 1).bind fun f1=>
        (a0q n (⟨v1.1.l,iadd .i64 v1.1.at_ 1,v1.1.e⟩:reader) [[40]]).bind fun v7=>
        (a3z n v7 0).bind fun v8=>
        (a0q n v8.1 [[41]]).bind fun v9=>
        some (v9,(⟨f1,0,v8.2.Text,[]⟩:Expr))
       else
        (bif v1.2.Text== [109,105,110]then
         some true
        else
         some (v1.2.Text== [109,97,120])).bind fun v10=>
        bif v10 then
         (bif v1.2.Text== [109,97,120]then
          some 10
         else
          some 9).bind fun f2=>
         (a0q n (⟨v1.1.l,iadd .i64 v1.1.at_ 1,v1.1.e⟩:reader) [[40]]).bind fun v11=>
         ((tariff_reader_expr n v11).bind fun v15=>
         (app 56 ([]:List Expr) [v15.2]).bind fun l4=>
         some (l4,v15.1.l,v15.1.at_,v15.1.e)).bind fun(l1,f3,f4,f5)=>
         (a0q n (⟨f3,f4,f5⟩:reader) [[44]]).bind fun v12=>
         ((tariff_reader_expr n v12).bind fun v14=>
         (app 56 l1 [v14.2]).bind fun l3=>
         some (l3,v14.1.l,v14.1.at_,v14.1.e)).bind fun(l2,f6,f7,f8)=>
         (a0q n (⟨f6,f7,f8⟩:reader) [[41]]).bind fun v13=>
         some (v13,(⟨f2,0,[],l2⟩:Expr))
        else
         (a2a n (⟨v1.1.l,isub .i64 (iadd .i64 v1.1.at_ 1) 1,v1.1.e⟩:reader) 12).bind fun v16=>
         some (v16,(⟨0,0,[],[]⟩:Expr))
 end
theorem tariff_reader_expr_s:type_of% @tariff_reader_expr.eq_2:= @tariff_reader_expr.eq_2
theorem tariff_reader_atom_s:type_of% @tariff_reader_atom.eq_2:= @tariff_reader_atom.eq_2
theorem b4q(n:Nat):(∀(rx1:reader)(r:(reader×Expr))(_:tariff_reader_expr n rx1=some r){w:World}{F:Frz}(_:Sat F w){h7:Option Addr}{h8:Nat}{h9:Nat}{brx1:Nat}(_:SlR rp_Token F h7 h8 h9 rx1.l)(_:(OE.box brx1 149 [.slice h7 h8 h9,.int .i64 rx1.at_,.int .i64 rx1.e]).ok w)(_:F brx1=none),Calls Tryz.prog 134 #[.pointer (some ⟨brx1,0,none⟩)] w fun e w'=>∃v F' cs' O',e= .returned v/\HS F w [brx1] F' (.box brx1 149 cs'::O') w'/\(∃(al_0:Option Addr)(nl_0:Nat)(cl_0:Nat)(a0_3:Option Addr)(n0_3:Nat)(c0_3:Nat),v= .agg #[.int .i64 r.2.Op,.int .i64 r.2.N,vs r.2.Name,.slice a0_3 n0_3 c0_3]/\cs'= [.slice al_0 nl_0 cl_0,.int .i64 r.1.at_,.int .i64 r.1.e]/\O'= []/\SlR rp_Token F' al_0 nl_0 cl_0 r.1.l/\SlR rp_Expr F' a0_3 n0_3 c0_3 r.2.Args))/\
 (∀(rx1:reader)(r:(reader×Expr))(_:tariff_reader_atom n rx1=some r){w:World}{F:Frz}(_:Sat F w){h7:Option Addr}{h8:Nat}{h9:Nat}{brx1:Nat}(_:SlR rp_Token F h7 h8 h9 rx1.l)(_:(OE.box brx1 149 [.slice h7 h8 h9,.int .i64 rx1.at_,.int .i64 rx1.e]).ok w)(_:F brx1=none),Calls Tryz.prog 189 #[.pointer (some ⟨brx1,0,none⟩)] w fun e w'=>∃v F' cs' O',e= .returned v/\HS F w [brx1] F' (.box brx1 149 cs'::O') w'/\(∃(al_0:Option Addr)(nl_0:Nat)(cl_0:Nat)(a0_3:Option Addr)(n0_3:Nat)(c0_3:Nat),v= .agg #[.int .i64 r.2.Op,.int .i64 r.2.N,vs r.2.Name,.slice a0_3 n0_3 c0_3]/\cs'= [.slice al_0 nl_0 cl_0,.int .i64 r.1.at_,.int .i64 r.1.e]/\O'= []/\SlR rp_Token F' al_0 nl_0 cl_0 r.1.l/\SlR rp_Expr F' a0_3 n0_3 c0_3 r.2.Args)):=by
 induction n with
 |zero=>
  refine⟨?_,?_⟩
  intro rx1 r hm
  exact absurd (show(none:Option (reader×Expr))=some r from hm) (by simp)
  intro rx1 r hm
  exact absurd (show(none:Option (reader×Expr))=some r from hm) (by simp)
 |succ n ih=>
  refine⟨?_,?_⟩
  intro rx1 r hm w F hs h7 h8 h9 brx1 k6 hbrx1 hfrx1
  rw [tariff_reader_expr_s]at hm
  have h:=HS.lend hs hbrx1 hfrx1
  refine a2g 62 Tryz.func134 Y Y Y (a0f (a0a (a3w ze24 Y Y Y h ?_)))
  intro b1 o7 gt
  refine a0e (a0d (a0f (a3d (a0f (a0a (a0b Y Y Y ?_))))))
  obtain⟨v1,k7,hm⟩:=Yb hm
  refine a2w ent137 Y Y Y Y gt (i:=1) Y (a5b _ _ _ _ k7 gt.sat k6 (gt.get (i:=1) Y) (gt.lendable (i:=1) Y)) ?_
  rintro _ k8 _ _ o8 o9 gf ⟨i0,i1,i2,rfl,rfl,rfl,g3⟩
  refine a0c Y Y Y (a0e (a0d ?_))
  rcases a0g hm with⟨hb,hm⟩|⟨hb,hm⟩
  refine a1j 9 Y hb (a1t Y (a0f (a0a (a0b Y Y Y ?_))))
  obtain⟨v2,k9,hm⟩:=Yb hm
  refine a2w ent189 Y Y Y Y gf (i:=1) Y (ih.2 _ _ k9 gf.sat g3 (gf.get (i:=1) Y) (gf.lendable (i:=1) Y)) ?_
  rintro _ lb _ _ oa ob ka ⟨kb,kc,kd,jy,jz,k0,rfl,rfl,rfl,ke,kf⟩
  refine a0k (e:=24) (cs:= [.int .i64 v2.2.Op,.int .i64 v2.2.N,vs v2.2.Name,.slice jy jz k0]) (q:=4) Y Y ka Y (fun _=>by kernel_rfl) Y Y ?_
  intro b2 lc Z
  obtain⟨ld,lf,k1,hsx1⟩:=a4y Z (k:=2) rfl (i:=0) Y (by decide) ((show RowN rp_Expr lb 1 [.int .i64 v2.2.Op,.int .i64 v2.2.N,vs v2.2.Name,.slice jy jz k0] [v2.2]from⟨Y,⟨_,_,Y,(expr_iff.2 ⟨jy,jz,k0,Y,kf⟩),(Y:RowR rp_Expr _ [] [])⟩⟩))
  refine a5r (v:= .agg #[.int .i64 14,.int .i64 0,vs [],.slice (some ⟨b2,0,none⟩) 1 1]) Y Y Y (fun _=>by kernel_rfl) (a0w sz24 Y k1 Y Y Y Y (i:=0) Y Y Y Y ?_)
  intro oc j6
  refine a0e (a0d (a3x (a1p (a0p (b0o Y ag24 sz24 Y j6 Y (i:=0) Y ?_)))))
  obtain rfl:=Yo hm
  exact⟨_,_,_,_,Y,j6.Yp [1] Y Y,kb,kc,kd,(some ⟨b2,0,none⟩),1,1,Y,Y,Y,(ke.mono lf),hsx1⟩
  refine a1j 9 Y hb (a1f Y (a0f (a0a (a0b Y Y Y ?_))))
  obtain⟨v3,kg,hm⟩:=Yb hm
  refine a2w ent137 Y Y Y Y gf (i:=1) Y (a5b _ _ _ _ kg gf.sat g3 (gf.get (i:=1) Y) (gf.lendable (i:=1) Y)) ?_
  rintro _ od _ _ oe kh gg ⟨lg,lh,li,rfl,rfl,rfl,k2⟩
  refine a0c Y Y Y (a0e (a0d ?_))
  rcases a0g hm with⟨gu,hm⟩|⟨gu,hm⟩
  refine a1j 16 Y gu (a1t Y (a0f (a0a (a0b Y Y Y ?_))))
  obtain⟨v4,ki,hm⟩:=Yb hm
  refine a2w ent189 Y Y Y Y gg (i:=1) Y (ih.2 _ _ ki gg.sat k2 (gg.get (i:=1) Y) (gg.lendable (i:=1) Y)) ?_
  rintro _ lj _ _ of lk k3 ⟨ll,lm,ln,j7,j8,j9,rfl,rfl,rfl,kj,kk⟩
  refine a3w ze24 Y Y Y k3 ?_
  intro b3 og g0
  refine a0w sz24 Y g0 Y Y Y Y (i:=0) Y Y Y Y ?_
  intro oh jf
  refine a0e (a0d (a0f (a0a (a0b Y Y Y (a0k (e:=9) (cs:= [vs [116,104,101,110]]) (q:=1) Y Y jf Y (fun _=>by kernel_rfl) Y Y ?_)))))
  intro b4 jg jh
  obtain⟨ja,k4,gv,hsx2⟩:=a4y jh (k:=3) rfl (i:=0) Y (by decide) ((show RowN Rp.str lj 1 [vs [116,104,101,110]] [[116,104,101,110]]from⟨Y,⟨_,_,Y,Y,(Y:RowR Rp.str _ [] [])⟩⟩))
  obtain⟨v5,kl,hm⟩:=Yb hm
  refine a2w ent132 Y Y Y Y gv (i:=2) Y (a2d _ _ _ _ kl gv.sat (kj.mono k4) (gv.get (i:=2) Y) (gv.lendable (i:=2) Y) hsx2) ?_
  rintro _ oi _ _ lu km gw ⟨oj,ol,om,rfl,rfl,rfl,kn⟩
  refine a0e (a0d (a0f (a0a (a0b Y Y Y ?_))))
  obtain⟨v6,ko,hm⟩:=Yb hm
  refine a2w ent189 Y Y Y Y gw (i:=2) Y (ih.2 _ _ ko gw.sat kn (gw.get (i:=2) Y) (gw.lendable (i:=2) Y)) ?_
  rintro _ lo _ _ lv lp gx ⟨lq,lr,ls,hc,hd,he,rfl,rfl,rfl,kp,i3⟩
  refine a3w ze24 Y Y Y gx ?_
  intro b5 lw i4
  refine a0w sz24 Y i4 Y Y Y Y (i:=0) Y Y Y Y ?_
  intro lx i5
  refine a0e (a0d (a0f (a0a (a0b Y Y Y (a0k (e:=9) (cs:= [vs [101,108,115,101]]) (q:=1) Y Y i5 Y (fun _=>by kernel_rfl) Y Y ?_)))))
  intro b6 ly i6
  obtain⟨lt,k5,gh,hsx3⟩:=a4y i6 (k:=4) rfl (i:=0) Y (by decide) ((show RowN Rp.str lo 1 [vs [101,108,115,101]] [[101,108,115,101]]from⟨Y,⟨_,_,Y,Y,(Y:RowR Rp.str _ [] [])⟩⟩))
  obtain⟨v7,kq,hm⟩:=Yb hm
  refine a2w ent132 Y Y Y Y gh (i:=3) Y (a2d _ _ _ _ kq gh.sat (kp.mono k5) (gh.get (i:=3) Y) (gh.lendable (i:=3) Y) hsx3) ?_
  rintro _ kr _ _ lz i7 ji ⟨i8,g4,i9,rfl,rfl,rfl,hf⟩
  refine a0e (a0d (a0f (a8a (SH kr [.box b5 24 [.int .i64 v6.2.Op,.int .i64 v6.2.N,vs v6.2.Name,.slice hc hd he],.box b3 24 [.int .i64 v4.2.Op,.int .i64 v4.2.N,vs v4.2.Name,.slice j7 j8 j9]]) 7 Y (by kernel_rfl) ji ?_)))
  intro m0 g1
  have S0:=g1.Ys Yf [0,1] Y Y
  refine d_tk 0 Y (by kernel_rfl) Y Y Y Y S0 (fun _ _ _ _ hq=>a6v ag24 sz24 Y Y hq Y (i:=1) Y Y Yn) (d_tk 1 Y (by kernel_rfl) Y Y Y Y S0 (fun _ _ _ _ hq=>a6v ag24 sz24 Y Y hq Y (i:=0) Y Y Yn) (d_tk 2 Y (by kernel_rfl) Y Y Y Y S0 (fun _ _ _ _ _=>a0b Y Y Y Yn) (a1m 3 Y (by kernel_rfl) ?_)))
  obtain⟨v8,ks,hm⟩:=Yb hm
  refine a2w ent189 Y Y Y Y g1 (i:=3) Y (ih.2 _ _ ks g1.sat hf (g1.get (i:=3) Y) (g1.lendable (i:=3) Y)) ?_
  rintro _ kt _ _ m1 gi ia ⟨hg,hh,hi,ib,ic,id,rfl,rfl,rfl,jj,ie⟩
  refine a0y (ia.Ys gi [0,1] Y Y) (a1m 4 Y (by kernel_rfl) (a0k (e:=24) (cs:= [.int .i64 v4.2.Op,.int .i64 v4.2.N,vs v4.2.Name,.slice j7 j8 j9,.int .i64 v6.2.Op,.int .i64 v6.2.N,vs v6.2.Name,.slice hc hd he,.int .i64 v8.2.Op,.int .i64 v8.2.N,vs v8.2.Name,.slice ib ic id]) (q:=4) Y Y ia Y (fun _=>by kernel_rfl) Y Y ?_))
  intro b7 m2 ig
  refine a0y (ig.Ys gi [1,2] Y Y) ?_
  obtain⟨hj,hk,gj,hsx4⟩:=a4y ig (k:=4) rfl (i:=0) Y (by decide) ((show RowN rp_Expr kt 3 [.int .i64 v4.2.Op,.int .i64 v4.2.N,vs v4.2.Name,.slice j7 j8 j9,.int .i64 v6.2.Op,.int .i64 v6.2.N,vs v6.2.Name,.slice hc hd he,.int .i64 v8.2.Op,.int .i64 v8.2.N,vs v8.2.Name,.slice ib ic id] [v4.2,v6.2,v8.2]from⟨Y,⟨_,_,Y,(expr_iff.2 ⟨j7,j8,j9,Y,((((((kk.mono k4).mono km).mono lp).mono k5).mono i7).mono gi)⟩),⟨_,_,Y,(expr_iff.2 ⟨hc,hd,he,Y,(((i3.mono k5).mono i7).mono gi)⟩),⟨_,_,Y,(expr_iff.2 ⟨ib,ic,id,Y,ie⟩),(Y:RowR rp_Expr _ [] [])⟩⟩⟩⟩))
  refine d_tk 5 Y (by kernel_rfl) Y Y Y Y (gj.Ys (gi.trans hk) [0,1] Y Y) (fun _ _ _ _ _=>a5r (v:= .agg #[.int .i64 11,.int .i64 0,vs [],.slice (some ⟨b7,0,none⟩) 3 3]) Y Y Y (fun _=>by kernel_rfl) Yn) (a1m 6 Y (by kernel_rfl) (a0w sz24 Y gj Y Y Y Y (i:=2) Y Y Y Y ?_))
  intro m3 g5
  refine a0y (g5.Ys (gi.trans hk) [0,1] Y Y) (a8o (by kernel_rfl) (a0d (a3x (a1p (a0p (b0o Y ag24 sz24 Y g5 Y (i:=2) Y ?_))))))
  obtain rfl:=Yo hm
  exact⟨_,_,_,_,Y,g5.Yp [3] Y Y,hg,hh,hi,(some ⟨b7,0,none⟩),3,3,Y,Y,Y,(jj.mono hk),hsx4⟩
  refine a1j 16 Y gu (a1f Y (a2v (a4x (a0d (a0f (a0a (a0b Y Y Y ?_)))))))
  obtain⟨v9,ku,hm⟩:=Yb hm
  refine a2w ent189 Y Y Y Y gg (i:=1) Y (ih.2 _ _ ku gg.sat k2 (gg.get (i:=1) Y) (gg.lendable (i:=1) Y)) ?_
  rintro _ m4 _ _ m5 kv jk ⟨hl,gy,hn,I,J,K,rfl,rfl,rfl,jl,ii⟩
  refine a3w ze24 Y Y Y jk ?_
  intro b8 m6 jm
  refine a0w sz24 Y jm Y Y Y Y (i:=0) Y Y Y Y ?_
  intro m7 gz
  refine a0e (a0d (a0f (a0a (a0b Y Y Y ?_))))
  obtain⟨v10,jn,hm⟩:=Yb hm
  refine a2w ent188 Y Y Y Y gz (i:=2) Y (a5c _ _ _ jn gz.sat jl (gz.get (i:=2) Y) (gz.lendable (i:=2) Y)) ?_
  rintro _ ij _ _ m8 jo h0 ⟨ik,il,im,rfl,rfl,rfl,io⟩
  refine a3w ze152 Y Y Y h0 ?_
  intro b9 m9 ip
  refine a0w sz152 Y ip Y Y Y Y (i:=0) Y Y Y Y ?_
  intro ma iq
  refine a0e (a0d (a0f (a8a (SH ij [.box b9 152 [.int .i64 v10.2.Kind,vs v10.2.Text,.int .i64 v10.2.N,.int .i64 v10.2.Pos],.box b8 24 [.int .i64 v9.2.Op,.int .i64 v9.2.N,vs v9.2.Name,.slice I J K],.box b1 24 [.int .i64 0,.int .i64 0,vs [],.slice none 0 0],.box brx1 149 [.slice ik il im,.int .i64 v10.1.at_,.int .i64 v10.1.e]]) 9 Y (by kernel_rfl) iq ?_)))
  intro mb h1
  refine d_tk 1 Y (by kernel_rfl) Y Y Y Y (h1.Ys Yf [0,1,2,3] Y Y) (fun _ _ _ _ _=>a0i fa152_1 Y Y Y Yn) (d_tk 2 Y (by kernel_rfl) Y Y Y Y (h1.Ys Yf [0,1,2,3] Y Y) (fun _ _ _ _ hq=>a1y ag9 Y Y hq Y (i:=0) Y Y Yn) (a1m 0 Y (by kernel_rfl) ?_))
  obtain⟨v11,ho,hm⟩:=Yb hm
  refine a1r ent190 Y Y Y Y h1 (b7m _ _ ho h1.sat) ?_
  rintro _ g6 _ mc h2 Q ⟨bs17,ess17,cls17,rfl,rfl,h3⟩
  have S1:=Q.Ys h2 [1,2,3,4] Y Y
  refine a0y S1 (a1m 3 Y (by kernel_rfl) (e1f (k:=v10.2.Text) (z:=0) (i:=0) key9 um193 zv3 Y Y Q Y Y Y h3 (a0y S1 (d_tk 4 Y (by kernel_rfl) Y Y Y Y S1 (fun _ _ _ _ _=>a0b Y Y Y Yn) (d_tk 5 Y (by kernel_rfl) Y Y Y Y S1 (fun _ _ _ _ _=>a1h Y Y Y Y Yn) (d_tk 6 Y (by kernel_rfl) Y Y Y Y S1 (fun _ _ _ _ _=>a1h Y Y Y Y Yn) ?_))))))
  refine d_tk 7 Y (by kernel_rfl) Y Y Y Y S1 (fun _ _ _ _ _=>a0c Y Y Y Yn) (d_tk 8 Y (by kernel_rfl) Y Y Y Y S1 (fun _ _ _ _ _=>a0c Y Y Y Yn) (a8o (by kernel_rfl) (a0d (a0f (a0f (a0a (a0b Y Y Y (c8c Y Y Y (a0b Y Y Y ?_)))))))))
  obtain⟨⟨v12,f1,f2,f3⟩,g7,hm⟩:=Yb hm
  refine a8i 6 (fun a w'=>∃(h4:Frz)(o:Option Addr)(p:Nat)(s:Nat),Frz.le g6 h4/\HS F w [brx1] h4 [.mp bs17 ess17 cls17,.box b9 152 [.int .i64 v10.2.Kind,vs v10.2.Text,.int .i64 v10.2.N,.int .i64 v10.2.Pos],.box b8 24 [.int .i64 v9.2.Op,.int .i64 v9.2.N,vs v9.2.Name,.slice I J K],.box b1 24 [.int .i64 0,.int .i64 0,vs [],.slice none 0 0],.box brx1 149 [.slice o p s,.int .i64 f2,.int .i64 f3]] w'/\(SlR rp_Token h4 o p s f1)/\Has 62 a [(0,.pointer (some ⟨brx1,0,none⟩)),(2,.pointer (some ⟨b1,0,none⟩)),(5,.pointer (some ⟨b8,0,none⟩)),(7,.int .i64 ((mget v11 v10.2.Text).getD 0)),(54,.bool v12)]) ?_ ?_
  rintro a md ⟨h4,o,p,s,gk,gl,gm,jp⟩
  refine a2k jp (a0e (a0d ?_))
  rcases a0g hm with⟨hp,hm⟩|⟨hp,hm⟩
  refine a1j 54 Y hp (a1t Y (a0f (a0a (a6v ag24 sz24 Y Y gl Y (i:=2) Y Y (a0w sz24 Y gl Y Y Y Y (i:=3) Y Y Y Y ?_)))))
  intro me ir
  refine a0e (a0d (a3x (a0p (b0o Y ag24 sz24 Y ir Y (i:=3) Y ?_))))
  obtain rfl:=Yo hm
  exact⟨_,_,_,_,Y,ir.Yp [4] Y Y,o,p,s,I,J,K,Y,Y,Y,gm,(((ii.mono jo).mono h2).mono gk)⟩
  refine a1j 54 Y hp (a1f Y (a2v (a0d (a0f (a8a (SH h4 [.mp bs17 ess17 cls17,.box b9 152 [.int .i64 v10.2.Kind,vs v10.2.Text,.int .i64 v10.2.N,.int .i64 v10.2.Pos],.box b8 24 [.int .i64 v9.2.Op,.int .i64 v9.2.N,vs v9.2.Name,.slice I J K]]) 7 Y (by kernel_rfl) gl ?_)))))
  intro mf gn
  have S2:=gn.Ys Yf [0,1,2] Y Y
  refine d_tk 0 Y (by kernel_rfl) Y Y Y Y S2 (fun _ _ _ _ _=>a0b Y Y Y Yn) (d_tk 1 Y (by kernel_rfl) Y Y Y Y S2 (fun _ _ _ _ hq=>a6v ag24 sz24 Y Y hq Y (i:=2) Y Y Yn) (d_tk 2 Y (by kernel_rfl) Y Y Y Y S2 (fun _ _ _ _ _=>a0b Y Y Y Yn) (a1m 3 Y (by kernel_rfl) ?_)))
  obtain⟨v13,hr,hm⟩:=Yb hm
  refine a2w ent189 Y Y Y Y gn (i:=4) Y (ih.2 _ _ hr gn.sat gm (gn.get (i:=4) Y) (gn.lendable (i:=4) Y)) ?_
  rintro _ it _ _ mg g2 go ⟨gp,mh,gq,g8,g9,ga,rfl,rfl,rfl,gr,h5⟩
  refine a0y (go.Ys g2 [0,1,2] Y Y) (a1m 4 Y (by kernel_rfl) (a0k (e:=24) (cs:= [.int .i64 v9.2.Op,.int .i64 v9.2.N,vs v9.2.Name,.slice I J K,.int .i64 v13.2.Op,.int .i64 v13.2.N,vs v13.2.Name,.slice g8 g9 ga]) (q:=4) Y Y go Y (fun _=>by kernel_rfl) Y Y ?_))
  intro b10 mi iu
  refine a0y (iu.Ys g2 [1,2,3] Y Y) ?_
  obtain⟨gs,iv,iw,hsx5⟩:=a4y iu (k:=5) rfl (i:=0) Y (by decide) ((show RowN rp_Expr it 2 [.int .i64 v9.2.Op,.int .i64 v9.2.N,vs v9.2.Name,.slice I J K,.int .i64 v13.2.Op,.int .i64 v13.2.N,vs v13.2.Name,.slice g8 g9 ga] [v9.2,v13.2]from⟨Y,⟨_,_,Y,(expr_iff.2 ⟨I,J,K,Y,((((ii.mono jo).mono h2).mono gk).mono g2)⟩),⟨_,_,Y,(expr_iff.2 ⟨g8,g9,ga,Y,h5⟩),(Y:RowR rp_Expr _ [] [])⟩⟩⟩))
  refine d_tk 5 Y (by kernel_rfl) Y Y Y Y (iw.Ys (g2.trans iv) [0,1,2] Y Y) (fun _ _ _ _ _=>a5r (v:= .agg #[.int .i64 ((mget v11 v10.2.Text).getD 0),.int .i64 0,vs [],.slice (some ⟨b10,0,none⟩) 2 2]) Y Y Y (fun _=>by kernel_rfl) Yn) (a1m 6 Y (by kernel_rfl) (a0w sz24 Y iw Y Y Y Y (i:=3) Y Y Y Y ?_))
  intro mj ht
  refine a0y (ht.Ys (g2.trans iv) [0,1,2] Y Y) (a8o (by kernel_rfl) (a0d (a3x (b0o Y ag24 sz24 Y ht Y (i:=3) Y ?_))))
  obtain rfl:=Yo hm
  exact⟨_,_,_,_,Y,ht.Yp [4] Y Y,gp,mh,gq,(some ⟨b10,0,none⟩),2,2,Y,Y,Y,(gr.mono iv),hsx5⟩
  clear hm
  rcases a0g g7 with⟨hu,g7⟩|⟨hu,g7⟩
  refine a3o 48 Y hu (a1g Y (by decide) Y (a1g Y (by decide) Y (a1g Y (by decide) Y (a1g Y (by decide) Y (a1g Y (by decide) Y (a0n Y Y Y Y (a0e (a0m (fun a ha=> ?_)))))))))
  cases g7
  exact⟨_,ik,il,im,Yf,Q.Yp [0,1,2,3,4] Y Y,(io.mono h2),ha.cut (l:= [0,2,5,7,54]) Y⟩
  refine a3o 48 Y hu (a0b Y Y Y (a0i fa152_1 Y Y Y (a1y ag9 Y Y Q Y (i:=1) Y Y ?_)))
  obtain⟨v14,jq,g7⟩:=Yb g7
  refine a2w ent137 Y Y Y Y Q (i:=4) Y (a5b _ _ _ _ jq Q.sat (io.mono h2) (Q.get (i:=4) Y) (Q.lendable (i:=4) Y)) ?_
  rintro _ mk _ _ ml ix jr ⟨t,x,y,rfl,rfl,rfl,h6⟩
  refine c8c Y Y Y (a0j Y Y Y Y (a0e (a0m (fun a ha=> ?_))))
  cases g7
  exact⟨_,t,x,y,ix,jr.Yp [0,1,2,3,4] Y Y,h6,ha.cut (l:= [0,2,5,7,54]) Y⟩
  intro rx1 r hm w F hs h7 h8 h9 brx1 k6 hbrx1 hfrx1
  rw [tariff_reader_atom_s]at hm
  have h:=HS.lend hs hbrx1 hfrx1
  refine a2g 117 Tryz.func189 Y Y Y (a0f (a0a (a3w ze24 Y Y Y h ?_)))
  intro b1 o7 gt
  refine a0e (a0d (a0f (a0a (a0b Y Y Y ?_))))
  obtain⟨v1,k7,hm⟩:=Yb hm
  refine a2w ent188 Y Y Y Y gt (i:=1) Y (a5c _ _ _ k7 gt.sat k6 (gt.get (i:=1) Y) (gt.lendable (i:=1) Y)) ?_
  rintro _ k8 _ _ o8 o9 gf ⟨i0,i1,i2,rfl,rfl,rfl,g3⟩
  refine a3w ze152 Y Y Y gf ?_
  intro b2 oa ka
  refine a0w sz152 Y ka Y Y Y Y (i:=0) Y Y Y Y ?_
  intro lc Z
  refine a0e (a0d (a0f (a0f (a0a (a0i fa152_0 Y Y Y (a1y ag3 Y Y Z Y (i:=0) Y Y (a0x Y Y Y Y Y (a0e (a0d ?_)))))))))
  rcases a0g hm with⟨hb,hm⟩|⟨hb,hm⟩
  refine a1j 11 Y hb (a1t Y (a0f (a0a (a0b Y Y Y (b4o Y Y Y (a0i fa149_1 Y Y Y (a1y ag3 Y Y Z Y (i:=2) Y Y (a0x Y Y Y Y Y (b4o Y Y Y ?_)))))))))
  refine a0i fa149_1 Y Y Y (a0w sz3 Y Z Y Y Y Y (i:=2) Y Y Y Y ?_)
  intro oc k1
  refine a0e (a0d (a0f (a0a (a0i fa152_2 Y Y Y (a1y ag3 Y Y k1 Y (i:=0) Y Y (a5r (v:= .agg #[.int .i64 0,.int .i64 v1.2.N,vs [],.slice none 0 0]) Y Y Y (fun _=>by kernel_rfl) (a0w sz24 Y k1 Y Y Y Y (i:=1) Y Y Y Y ?_)))))))
  intro oe j6
  refine a0e (a0d (a3x (a0p (b0o Y ag24 sz24 Y j6 Y (i:=1) Y ?_))))
  obtain rfl:=Yo hm
  exact⟨_,_,_,_,Y,j6.Yp [2] Y Y,i0,i1,i2,none,0,0,Y,Y,Y,g3,SlR.nil _ _⟩
  refine a1j 11 Y hb (a1f Y (a2v (a0d (a0f (a0f (a0a (a0i fa152_0 Y Y Y (a1y ag3 Y Y Z Y (i:=0) Y Y (a0x Y Y Y Y Y (a0b Y Y Y ?_))))))))))
  obtain⟨v2,gu,hm⟩:=Yb hm
  refine a8i 4 (fun a w'=>lc=w'/\Has 117 a [(0,.pointer (some ⟨brx1,0,none⟩)),(2,.pointer (some ⟨b1,0,none⟩)),(3,.pointer (some ⟨b2,0,none⟩)),(29,.bool v2)]) ?_ ?_
  rintro a of ⟨rfl,jp⟩
  refine a2k jp (a0e (a0d ?_))
  rcases a0g hm with⟨g7,hm⟩|⟨g7,hm⟩
  refine a1j 29 Y g7 (a1t Y (a0f (a0a (a0b Y Y Y ?_))))
  obtain⟨v3,k9,hm⟩:=Yb hm
  refine a2w ent136 Y Y Y Y Z (i:=2) Y (a5e _ _ _ _ k9 Z.sat g3 (Z.get (i:=2) Y) (Z.lendable (i:=2) Y)) ?_
  rintro _ lb _ _ og ob gg ⟨kb,kc,kd,rfl,rfl,rfl,ke⟩
  refine a0e (a0d (a0f (a0a (a5r (v:= .agg #[.int .i64 0,.int .i64 0,vs [],.slice none 0 0]) Y Y Y (fun _=>by kernel_rfl) (a0w sz24 Y gg Y Y Y Y (i:=1) Y Y Y Y ?_)))))
  intro oh k3
  refine a0e (a0d (a3x (a0p (b0o Y ag24 sz24 Y k3 Y (i:=1) Y ?_))))
  obtain rfl:=Yo hm
  exact⟨_,_,_,_,Y,k3.Yp [2] Y Y,kb,kc,kd,none,0,0,Y,Y,Y,ke,SlR.nil _ _⟩
  refine a1j 29 Y g7 (a1f Y (a2v (a0d (a0f (a0a (a0b Y Y Y (b4o Y Y Y (a0i fa149_1 Y Y Y (a1y ag3 Y Y Z Y (i:=2) Y Y (a0x Y Y Y Y Y (b4o Y Y Y ?_)))))))))))
  refine a0i fa149_1 Y Y Y (a0w sz3 Y Z Y Y Y Y (i:=2) Y Y Y Y ?_)
  intro jg g0
  refine a0e (a0d (a0f (a0f (a0a (a0i fa152_1 Y Y Y (a1y ag9 Y Y g0 Y (i:=0) Y Y (a0e (a0d (a3d (a0f (a0a (c0f Y Y Y Y Y (a0c Y Y Y (a0e (a0d ?_)))))))))))))))
  rcases a0g hm with⟨hp,hm⟩|⟨hp,hm⟩
  refine a1j 42 Y hp (a1t Y (a0f (a0a (a0b Y Y Y ?_))))
  obtain⟨v4,kg,hm⟩:=Yb hm
  refine a2w ent134 Y Y Y Y g0 (i:=2) Y (ih.1 _ _ kg g0.sat g3 (g0.get (i:=2) Y) (g0.lendable (i:=2) Y)) ?_
  rintro _ ld _ _ lu lf jf ⟨jy,jz,k0,lg,lh,li,rfl,rfl,rfl,kf,k2⟩
  refine a3w ze24 Y Y Y jf ?_
  intro b3 lv jh
  refine a0w sz24 Y jh Y Y Y Y (i:=0) Y Y Y Y ?_
  intro lw gv
  refine a0e (a0d (a0f (a0a (a0b Y Y Y (a0k (e:=9) (cs:= [vs [41]]) (q:=1) Y Y gv Y (fun _=>by kernel_rfl) Y Y ?_)))))
  intro b4 lx gw
  obtain⟨od,kh,gx,hsx1⟩:=a4y gw (k:=4) rfl (i:=0) Y (by decide) ((show RowN Rp.str ld 1 [vs [41]] [[41]]from⟨Y,⟨_,_,Y,Y,(Y:RowR Rp.str _ [] [])⟩⟩))
  obtain⟨v5,ki,hm⟩:=Yb hm
  refine a2w ent132 Y Y Y Y gx (i:=3) Y (a2d _ _ _ _ ki gx.sat (kf.mono kh) (gx.get (i:=3) Y) (gx.lendable (i:=3) Y) hsx1) ?_
  rintro _ lj _ _ ly lk i4 ⟨ll,lm,ln,rfl,rfl,rfl,kj⟩
  refine a0e (a0d (a0f (a0a (a6v ag24 sz24 Y Y i4 Y (i:=0) Y Y (a0w sz24 Y i4 Y Y Y Y (i:=2) Y Y Y Y ?_)))))
  intro lz i5
  refine a0e (a0d (a3x (a1p (a0p (b0o Y ag24 sz24 Y i5 Y (i:=2) Y ?_)))))
  obtain rfl:=Yo hm
  exact⟨_,_,_,_,Y,i5.Yp [3] Y Y,ll,lm,ln,lg,lh,li,Y,Y,Y,kj,((k2.mono kh).mono lk)⟩
  refine a1j 42 Y hp (a1f Y (a0f (a0a (c0f Y Y Y Y Y (a0c Y Y Y (a0e (a0d ?_)))))))
  rcases a0g hm with⟨hu,hm⟩|⟨hu,hm⟩
  refine a1j 50 Y hu (a1t Y (a0f (a0a (a5r (v:= .agg #[.int .i64 2,.int .i64 0,vs [],.slice none 0 0]) Y Y Y (fun _=>by kernel_rfl) (a0w sz24 Y g0 Y Y Y Y (i:=1) Y Y Y Y ?_)))))
  intro m0 i6
  refine a0e (a0d (a3x (a1p (a0p (b0o Y ag24 sz24 Y i6 Y (i:=1) Y ?_)))))
  obtain rfl:=Yo hm
  exact⟨_,_,_,_,Y,i6.Yp [2] Y Y,i0,i1,i2,none,0,0,Y,Y,Y,g3,SlR.nil _ _⟩
  refine a1j 50 Y hu (a1f Y (a0f (a0a (c0f Y Y Y Y Y (a0c Y Y Y (a0e (a0d ?_)))))))
  rcases a0g hm with⟨kw,hm⟩|⟨kw,hm⟩
  refine a1j 53 Y kw (a1t Y (a0f (a0a (a5r (v:= .agg #[.int .i64 3,.int .i64 0,vs [],.slice none 0 0]) Y Y Y (fun _=>by kernel_rfl) (a0w sz24 Y g0 Y Y Y Y (i:=1) Y Y Y Y ?_)))))
  intro m1 gh
  refine a0e (a0d (a3x (a1p (a0p (b0o Y ag24 sz24 Y gh Y (i:=1) Y ?_)))))
  obtain rfl:=Yo hm
  exact⟨_,_,_,_,Y,gh.Yp [2] Y Y,i0,i1,i2,none,0,0,Y,Y,Y,g3,SlR.nil _ _⟩
  refine a1j 53 Y kw (a1f Y (a0f (a0f (a0a (c0f Y Y Y Y Y (a0c Y Y Y (a0e (a0d ?_))))))))
  obtain⟨v6,jb,hm⟩:=Yb hm
  refine c0t (fun a w'=>jg=w'/\Has 117 a [(0,.pointer (some ⟨brx1,0,none⟩)),(2,.pointer (some ⟨b1,0,none⟩)),(3,.pointer (some ⟨b2,0,none⟩)),(41,vs v1.2.Text),(56,.bool v6)]) ?_ ?_
  rintro a m2 ⟨rfl,mm⟩
  refine a3a mm ?_
  rcases a0g hm with⟨kx,hm⟩|⟨kx,hm⟩
  refine a1j 56 Y kx (a1t Y (a0f (a0a (a5r (v:= .agg #[.int .i64 1,.int .i64 0,vs [],.slice none 0 0]) Y Y Y (fun _=>by kernel_rfl) (a3w ze24 Y Y Y g0 ?_)))))
  intro b5 m3 ji
  refine a0w sz24 Y ji Y Y Y Y (i:=0) Y Y Y Y ?_
  intro m5 g1
  refine a0e (a0d (a0f (a0f (a0a (a0i fa152_1 Y Y Y (a1y ag9 Y Y g1 Y (i:=1) Y Y (c0f Y Y Y Y Y (a0e (a0d ?_)))))))))
  obtain⟨f1,jc,hm⟩:=Yb hm
  refine c0t (fun a w'=>∃(ja:Frz),Frz.le k8 ja/\HS F w [brx1] ja [.box b5 24 [.int .i64 f1,.int .i64 0,vs [],.slice none 0 0],.box b2 152 [.int .i64 v1.2.Kind,vs v1.2.Text,.int .i64 v1.2.N,.int .i64 v1.2.Pos],.box b1 24 [.int .i64 0,.int .i64 0,vs [],.slice none 0 0],.box brx1 149 [.slice i0 i1 i2,.int .i64 (iadd .i64 v1.1.at_ 1),.int .i64 v1.1.e]] w'/\Has 117 a [(0,.pointer (some ⟨brx1,0,none⟩)),(2,.pointer (some ⟨b1,0,none⟩)),(5,.pointer (some ⟨b5,0,none⟩))]) ?_ ?_
  rintro a m6 ⟨ja,k4,ia,mn⟩
  refine a3a mn (a0f (a0a (a0b Y Y Y (a0k (e:=9) (cs:= [vs [40]]) (q:=1) Y Y ia Y (fun _=>by kernel_rfl) Y Y ?_))))
  intro b6 m7 ig
  obtain⟨oi,km,gj,hsx2⟩:=a4y ig (k:=4) rfl (i:=0) Y (by decide) ((show RowN Rp.str ja 1 [vs [40]] [[40]]from⟨Y,⟨_,_,Y,Y,(Y:RowR Rp.str _ [] [])⟩⟩))
  obtain⟨v7,kl,hm⟩:=Yb hm
  refine a2w ent132 Y Y Y Y gj (i:=3) Y (a2d _ _ _ _ kl gj.sat ((g3.mono k4).mono km) (gj.get (i:=3) Y) (gj.lendable (i:=3) Y) hsx2) ?_
  rintro _ lo _ _ m8 lp g5 ⟨j7,j8,j9,rfl,rfl,rfl,kk⟩
  refine a0e (a0d (a0f (a0a (a0b Y Y Y ?_))))
  obtain⟨v8,ko,hm⟩:=Yb hm
  refine a2w ent133 Y Y Y Y g5 (i:=3) Y (b6w _ _ _ _ ko g5.sat kk (g5.get (i:=3) Y) (g5.lendable (i:=3) Y)) ?_
  rintro _ lt _ _ m9 k5 jk ⟨oj,ol,om,rfl,rfl,rfl,kn⟩
  refine e5c (v:= .agg #[.int .i64 v8.2.Kind,vs v8.2.Text,.int .i64 v8.2.N,.int .i64 v8.2.Pos]) (u:=vs v8.2.Text) (fun _=>by kernel_rfl) Y Y Y (a0i fa24_2 Y Y Y (a0w sz9 Y jk Y Y Y Y (i:=0) Y Y Y Y ?_))
  intro ma jm
  refine a0e (a0d (a0f (a0a (a0b Y Y Y (a0k (e:=9) (cs:= [vs [41]]) (q:=1) Y Y jm Y (fun _=>by kernel_rfl) Y Y ?_)))))
  intro b7 mb gz
  obtain⟨kr,i7,h0,hsx3⟩:=a4y gz (k:=4) rfl (i:=0) Y (by decide) ((show RowN Rp.str lt 1 [vs [41]] [[41]]from⟨Y,⟨_,_,Y,Y,(Y:RowR Rp.str _ [] [])⟩⟩))
  obtain⟨v9,kq,hm⟩:=Yb hm
  refine a2w ent132 Y Y Y Y h0 (i:=3) Y (a2d _ _ _ _ kq h0.sat (kn.mono i7) (h0.get (i:=3) Y) (h0.lendable (i:=3) Y) hsx3) ?_
  rintro _ kt _ _ mc gi ip ⟨lq,lr,ls,rfl,rfl,rfl,kp⟩
  refine a0e (a0d (a0f (a0a (a6v ag24 sz24 Y Y ip Y (i:=0) Y Y (a0w sz24 Y ip Y Y Y Y (i:=2) Y Y Y Y ?_)))))
  intro md iq
  refine a0e (a0d (a3x (a1p (a0p (b0o Y ag24 sz24 Y iq Y (i:=2) Y ?_)))))
  obtain rfl:=Yo hm
  exact⟨_,_,_,_,Y,iq.Yp [3] Y Y,lq,lr,ls,none,0,0,Y,Y,Y,kp,SlR.nil _ _⟩
  clear hm
  rcases a0g jc with⟨js,jc⟩|⟨js,jc⟩
  refine a1j 62 Y js (a1t Y (a0a (a0i fa24_0 Y Y Y (a0w sz3 Y g1 Y Y Y Y (i:=0) Y Y Y Y ?_))))
  intro me h1
  refine a0e (a0m (fun a ha=> ?_))
  cases jc
  exact⟨_,Yf,h1.Yp [0,1,2,3] Y Y,ha.cut (l:= [0,2,5]) Y⟩
  refine a1j 62 Y js (a1f Y (a2v (a0m (fun a ha=> ?_))))
  cases jc
  exact⟨_,Yf,g1.Yp [0,1,2,3] Y Y,ha.cut (l:= [0,2,5]) Y⟩
  refine a1j 56 Y kx (a1f Y (a0f (a0f (a0a (c0f Y Y Y Y Y (a0c Y Y Y (a0e (a0d ?_))))))))
  obtain⟨v10,hv,hm⟩:=Yb hm
  refine c0t (fun a w'=>jg=w'/\Has 117 a [(0,.pointer (some ⟨brx1,0,none⟩)),(2,.pointer (some ⟨b1,0,none⟩)),(3,.pointer (some ⟨b2,0,none⟩)),(75,.bool v10)]) ?_ ?_
  rintro a mf ⟨rfl,mo⟩
  refine a3a mo ?_
  rcases a0g hm with⟨jt,hm⟩|⟨jt,hm⟩
  refine a1j 75 Y jt (a1t Y (a0f (a0a (a5r (v:= .agg #[.int .i64 9,.int .i64 0,vs [],.slice none 0 0]) Y Y Y (fun _=>by kernel_rfl) (a3w ze24 Y Y Y g0 ?_)))))
  intro b8 mg Q
  refine a0w sz24 Y Q Y Y Y Y (i:=0) Y Y Y Y ?_
  intro mi gl
  refine a0e (a0d (a0f (a0f (a0a (a0i fa152_1 Y Y Y (a1y ag9 Y Y gl Y (i:=1) Y Y (c0f Y Y Y Y Y (a0e (a0d ?_)))))))))
  obtain⟨f2,hw,hm⟩:=Yb hm
  refine c0t (fun a w'=>∃(hj:Frz),Frz.le k8 hj/\HS F w [brx1] hj [.box b8 24 [.int .i64 f2,.int .i64 0,vs [],.slice none 0 0],.box b2 152 [.int .i64 v1.2.Kind,vs v1.2.Text,.int .i64 v1.2.N,.int .i64 v1.2.Pos],.box b1 24 [.int .i64 0,.int .i64 0,vs [],.slice none 0 0],.box brx1 149 [.slice i0 i1 i2,.int .i64 (iadd .i64 v1.1.at_ 1),.int .i64 v1.1.e]] w'/\Has 117 a [(0,.pointer (some ⟨brx1,0,none⟩)),(2,.pointer (some ⟨b1,0,none⟩)),(6,.pointer (some ⟨b8,0,none⟩))]) ?_ ?_
  rintro a mj ⟨hj,hk,ir,mq⟩
  refine a3a mq (a0f (a0a (a0b Y Y Y (a0k (e:=9) (cs:= [vs [40]]) (q:=1) Y Y ir Y (fun _=>by kernel_rfl) Y Y ?_))))
  intro b9 ml gn
  obtain⟨m4,kv,go,hsx4⟩:=a4y gn (k:=4) rfl (i:=0) Y (by decide) ((show RowN Rp.str hj 1 [vs [40]] [[40]]from⟨Y,⟨_,_,Y,Y,(Y:RowR Rp.str _ [] [])⟩⟩))
  obtain⟨v11,ks,hm⟩:=Yb hm
  refine a2w ent132 Y Y Y Y go (i:=3) Y (a2d _ _ _ _ ks go.sat ((g3.mono hk).mono kv) (go.get (i:=3) Y) (go.lendable (i:=3) Y) hsx4) ?_
  rintro _ ij _ _ on jo iu ⟨hc,hd,he,rfl,rfl,rfl,i3⟩
  refine a0e (a0d ?_)
  have iw:=iu.nilRow 24 4
  obtain⟨⟨l1,f3,f4,f5⟩,G,hm⟩:=Yb hm
  refine e0h (fun a w'=>∃(g6:Frz)(i8:Option Addr)(g4:Nat)(i9:Nat)(xss11:List Value)(hg:Option Addr)(hh:Nat)(hi:Nat),Frz.le ij g6/\HS F w [brx1] g6 [.row 24 4 i8 g4 i9 xss11,.box b8 24 [.int .i64 f2,.int .i64 0,vs [],.slice i8 g4 i9],.box b2 152 [.int .i64 v1.2.Kind,vs v1.2.Text,.int .i64 v1.2.N,.int .i64 v1.2.Pos],.box b1 24 [.int .i64 0,.int .i64 0,vs [],.slice none 0 0],.box brx1 149 [.slice hg hh hi,.int .i64 f4,.int .i64 f5]] w'/\(RowN rp_Expr g6 g4 xss11 l1)/\(SlR rp_Token g6 hg hh hi f3)/\Has 117 a [(0,.pointer (some ⟨brx1,0,none⟩)),(2,.pointer (some ⟨b1,0,none⟩)),(6,.pointer (some ⟨b8,0,none⟩))]) ?_ ?_
  rintro a oo ⟨g6,i8,g4,i9,xss11,hg,hh,hi,h2,ht,hf,jj,mr⟩
  refine a3a mr (a0f (a0a (a0b Y Y Y (a0k (e:=9) (cs:= [vs [44]]) (q:=1) Y Y ht Y (fun _=>by kernel_rfl) Y Y ?_))))
  intro b10 op jr
  obtain⟨h4,gk,iy,hsx5⟩:=a4y jr (k:=5) rfl (i:=0) Y (by decide) ((show RowN Rp.str g6 1 [vs [44]] [[44]]from⟨Y,⟨_,_,Y,Y,(Y:RowR Rp.str _ [] [])⟩⟩))
  obtain⟨v12,ku,hm⟩:=Yb hm
  refine a2w ent132 Y Y Y Y iy (i:=4) Y (a2d _ _ _ _ ku iy.sat (jj.mono gk) (iy.get (i:=4) Y) (iy.lendable (i:=4) Y) hsx5) ?_
  rintro _ it _ _ oq g2 ms ⟨ib,ic,id,rfl,rfl,rfl,ie⟩
  refine a0e (a0d ?_)
  obtain⟨⟨l2,f6,f7,f8⟩,H,hm⟩:=Yb hm
  refine e0h (fun a w'=>∃(gs:Frz)(hl:Option Addr)(gy:Nat)(hn:Nat)(xss14:List Value)(I:Option Addr)(J:Nat)(K:Nat),Frz.le it gs/\HS F w [brx1] gs [.row 24 4 hl gy hn xss14,.box b8 24 [.int .i64 f2,.int .i64 0,vs [],.slice hl gy hn],.box b2 152 [.int .i64 v1.2.Kind,vs v1.2.Text,.int .i64 v1.2.N,.int .i64 v1.2.Pos],.box b1 24 [.int .i64 0,.int .i64 0,vs [],.slice none 0 0],.box brx1 149 [.slice I J K,.int .i64 f7,.int .i64 f8]] w'/\(RowN rp_Expr gs gy xss14 l2)/\(SlR rp_Token gs I J K f6)/\Has 117 a [(0,.pointer (some ⟨brx1,0,none⟩)),(2,.pointer (some ⟨b1,0,none⟩)),(6,.pointer (some ⟨b8,0,none⟩))]) ?_ ?_
  rintro a os ⟨gs,hl,gy,hn,xss14,I,J,K,iv,mt,jl,ii,mu⟩
  refine a3a mu (a0f (a0a (a0b Y Y Y (a0k (e:=9) (cs:= [vs [41]]) (q:=1) Y Y mt Y (fun _=>by kernel_rfl) Y Y ?_))))
  intro b11 ot mv
  obtain⟨mk,ix,iz,hsx6⟩:=a4y mv (k:=5) rfl (i:=0) Y (by decide) ((show RowN Rp.str gs 1 [vs [41]] [[41]]from⟨Y,⟨_,_,Y,Y,(Y:RowR Rp.str _ [] [])⟩⟩))
  obtain⟨v13,jn,hm⟩:=Yb hm
  refine a2w ent132 Y Y Y Y iz (i:=4) Y (a2d _ _ _ _ jn iz.sat (ii.mono ix) (iz.get (i:=4) Y) (iz.lendable (i:=4) Y) hsx6) ?_
  rintro _ ou _ _ ov mw ky ⟨ik,il,im,rfl,rfl,rfl,io⟩
  refine a0e (a0d (a0f (a0a (a6v ag24 sz24 Y Y ky Y (i:=1) Y Y (a0w sz24 Y ky Y Y Y Y (i:=3) Y Y Y Y ?_)))))
  intro ow mx
  refine a0e (a0d (a3x (a1p (a0p ?_))))
  obtain⟨ox,my,kz,hsx7⟩:=a4y mx (k:=4) rfl (i:=0) Y (by decide) ((jl.mono ix).mono mw)
  refine b0o Y ag24 sz24 Y kz Y (i:=2) Y ?_
  obtain rfl:=Yo hm
  exact⟨_,_,_,_,Y,kz.Yp [3] Y Y,ik,il,im,hl,gy,hn,Y,Y,Y,(io.mono my),hsx7⟩
  clear hm
  refine a8a (SH it [.box b2 152 [.int .i64 v1.2.Kind,vs v1.2.Text,.int .i64 v1.2.N,.int .i64 v1.2.Pos],.box b1 24 [.int .i64 0,.int .i64 0,vs [],.slice none 0 0]]) 8 Y (by kernel_rfl) ms ?_
  intro oy R
  have S3:=R.Ys Yf [2,3] Y Y
  refine d_tk 0 Y (by kernel_rfl) Y Y Y Y S3 (fun _ _ _ _ _=>a0i fa24_3 Y Y Y Yn) (d_tk 2 Y (by kernel_rfl) Y Y Y Y S3 (fun _ _ _ _ _=>a0b Y Y Y Yn) (b6s 1 3 Y Y (by kernel_rfl) ?_ ?_))
  refine a1y ag22 Y Y R Y (i:=1) Y Y (a0y S3 (a1m 3 Y (by kernel_rfl) ?_))
  obtain⟨v14,ho,H⟩:=Yb H
  refine a2w ent134 Y Y Y Y R (i:=4) Y (ih.1 _ _ ho R.sat ie (R.get (i:=4) Y) (R.lendable (i:=4) Y)) ?_
  rintro _ j0 _ _ mz g gb ⟨j1,j2,j3,o,p,s,rfl,rfl,rfl,h3,gm⟩
  refine a0y (gb.Ys g [2,3] Y Y) (a1m 4 Y (by kernel_rfl) (a0k (e:=24) (cs:= [.int .i64 v14.2.Op,.int .i64 v14.2.N,vs v14.2.Name,.slice o p s]) (q:=4) Y Y gb Y (fun _=>by kernel_rfl) Y Y ?_))
  intro b12 l0 T
  refine a0y (T.Ys g [3,4] Y Y) (a1m 5 Y (by kernel_rfl) ?_)
  obtain⟨l3,jd,H⟩:=Yb H
  refine a7g (r:=rp_Expr) ap22 Y Y T Y Y (i:=1) (j:=0) Y Y (((hf.mono gk).mono g2).mono g) ((show RowN rp_Expr j0 1 [.int .i64 v14.2.Op,.int .i64 v14.2.N,vs v14.2.Name,.slice o p s] [v14.2]from⟨Y,⟨_,_,Y,(expr_iff.2 ⟨o,p,s,Y,gm⟩),(Y:RowR rp_Expr _ [] [])⟩⟩)) jd ?_
  intro gp gq l5 L gr
  refine a0y (L.Ys g [3,4] Y Y) (d_tk 6 Y (by kernel_rfl) Y Y Y Y (L.Ys g [3,4] Y Y) (fun _ _ _ _ _=>a0i fa24_3 Y Y Y Yn) (a1m 7 Y (by kernel_rfl) (a0w sz22 Y L Y Y Y Y (i:=2) Y Y Y Y ?_)))
  intro l6 gc
  refine a0y (gc.Ys g [3,4] Y Y) (a8o (by kernel_rfl) (a0m (fun a ha=> ?_)))
  cases H
  exact⟨_,gp,(g4+1),gq,(xss11++ [.int .i64 v14.2.Op,.int .i64 v14.2.N,vs v14.2.Name,.slice o p s]),j1,j2,j3,g,gc.Yp [1,2,3,4,5] Y Y,gr,h3,ha.cut (l:= [0,2,6]) Y⟩
  obtain⟨v14,ho,H⟩:=Yb H
  refine a2w ent134 Y Y Y Y R (i:=4) Y (ih.1 _ _ ho R.sat ie (R.get (i:=4) Y) (R.lendable (i:=4) Y)) ?_
  rintro _ j0 _ _ mz g gb ⟨j1,j2,j3,o,p,s,rfl,rfl,rfl,h3,gm⟩
  refine a0y (gb.Ys g [2,3] Y Y) (b6s 1 4 Y Y (by kernel_rfl) ?_ ?_)
  refine a1y ag22 Y Y gb Y (i:=1) Y Y (a0y (gb.Ys g [2,3] Y Y) (a1m 4 Y (by kernel_rfl) (a0k (e:=24) (cs:= [.int .i64 v14.2.Op,.int .i64 v14.2.N,vs v14.2.Name,.slice o p s]) (q:=4) Y Y gb Y (fun _=>by kernel_rfl) Y Y ?_)))
  intro b12 l0 T
  refine a0y (T.Ys g [3,4] Y Y) (a1m 5 Y (by kernel_rfl) ?_)
  obtain⟨l3,jd,H⟩:=Yb H
  refine a7g (r:=rp_Expr) ap22 Y Y T Y Y (i:=1) (j:=0) Y Y (((hf.mono gk).mono g2).mono g) ((show RowN rp_Expr j0 1 [.int .i64 v14.2.Op,.int .i64 v14.2.N,vs v14.2.Name,.slice o p s] [v14.2]from⟨Y,⟨_,_,Y,(expr_iff.2 ⟨o,p,s,Y,gm⟩),(Y:RowR rp_Expr _ [] [])⟩⟩)) jd ?_
  intro gp gq l5 L gr
  refine a0y (L.Ys g [3,4] Y Y) (d_tk 6 Y (by kernel_rfl) Y Y Y Y (L.Ys g [3,4] Y Y) (fun _ _ _ _ _=>a0i fa24_3 Y Y Y Yn) (a1m 7 Y (by kernel_rfl) (a0w sz22 Y L Y Y Y Y (i:=2) Y Y Y Y ?_)))
  intro l6 gc
  refine a0y (gc.Ys g [3,4] Y Y) (a8o (by kernel_rfl) (a0m (fun a ha=> ?_)))
  cases H
  exact⟨_,gp,(g4+1),gq,(xss11++ [.int .i64 v14.2.Op,.int .i64 v14.2.N,vs v14.2.Name,.slice o p s]),j1,j2,j3,g,gc.Yp [1,2,3,4,5] Y Y,gr,h3,ha.cut (l:= [0,2,6]) Y⟩
  refine a0k (e:=24) (cs:= [.int .i64 v14.2.Op,.int .i64 v14.2.N,vs v14.2.Name,.slice o p s]) (q:=4) Y Y gb Y (fun _=>by kernel_rfl) Y Y ?_
  intro b12 l0 T
  refine a0y (T.Ys g [3,4] Y Y) (a1m 1 Y (by kernel_rfl) (a1y ag22 Y Y T Y (i:=2) Y Y (a0y (T.Ys g [3,4] Y Y) (a1m 5 Y (by kernel_rfl) ?_))))
  obtain⟨l3,jd,H⟩:=Yb H
  refine a7g (r:=rp_Expr) ap22 Y Y T Y Y (i:=1) (j:=0) Y Y (((hf.mono gk).mono g2).mono g) ((show RowN rp_Expr j0 1 [.int .i64 v14.2.Op,.int .i64 v14.2.N,vs v14.2.Name,.slice o p s] [v14.2]from⟨Y,⟨_,_,Y,(expr_iff.2 ⟨o,p,s,Y,gm⟩),(Y:RowR rp_Expr _ [] [])⟩⟩)) jd ?_
  intro gp gq l5 L gr
  refine a0y (L.Ys g [3,4] Y Y) (d_tk 6 Y (by kernel_rfl) Y Y Y Y (L.Ys g [3,4] Y Y) (fun _ _ _ _ _=>a0i fa24_3 Y Y Y Yn) (a1m 7 Y (by kernel_rfl) (a0w sz22 Y L Y Y Y Y (i:=2) Y Y Y Y ?_)))
  intro l6 gc
  refine a0y (gc.Ys g [3,4] Y Y) (a8o (by kernel_rfl) (a0m (fun a ha=> ?_)))
  cases H
  exact⟨_,gp,(g4+1),gq,(xss11++ [.int .i64 v14.2.Op,.int .i64 v14.2.N,vs v14.2.Name,.slice o p s]),j1,j2,j3,g,gc.Yp [1,2,3,4,5] Y Y,gr,h3,ha.cut (l:= [0,2,6]) Y⟩
  clear hm
  refine a8a (SH ij [.box b2 152 [.int .i64 v1.2.Kind,vs v1.2.Text,.int .i64 v1.2.N,.int .i64 v1.2.Pos],.box b1 24 [.int .i64 0,.int .i64 0,vs [],.slice none 0 0]]) 8 Y (by kernel_rfl) iw ?_
  intro oz U
  have S4:=U.Ys Yf [2,3] Y Y
  refine d_tk 0 Y (by kernel_rfl) Y Y Y Y S4 (fun _ _ _ _ _=>a0i fa24_3 Y Y Y Yn) (d_tk 2 Y (by kernel_rfl) Y Y Y Y S4 (fun _ _ _ _ _=>a0b Y Y Y Yn) (b6s 1 3 Y Y (by kernel_rfl) ?_ ?_))
  refine a1y ag22 Y Y U Y (i:=1) Y Y (a0y S4 (a1m 3 Y (by kernel_rfl) ?_))
  obtain⟨v15,hr,G⟩:=Yb G
  refine a2w ent134 Y Y Y Y U (i:=4) Y (ih.1 _ _ hr U.sat i3 (U.get (i:=4) Y) (U.lendable (i:=4) Y)) ?_
  rintro _ j4 _ _ o0 m gd ⟨g8,g9,ga,t,x,y,rfl,rfl,rfl,h5,h6⟩
  refine a0y (gd.Ys m [2,3] Y Y) (a1m 4 Y (by kernel_rfl) (a0k (e:=24) (cs:= [.int .i64 v15.2.Op,.int .i64 v15.2.N,vs v15.2.Name,.slice t x y]) (q:=4) Y Y gd Y (fun _=>by kernel_rfl) Y Y ?_))
  intro b13 l7 V
  refine a0y (V.Ys m [3,4] Y Y) (a1m 5 Y (by kernel_rfl) ?_)
  obtain⟨l4,je,G⟩:=Yb G
  refine a7g (r:=rp_Expr) ap22 Y Y V Y Y (i:=1) (j:=0) Y Y ((show RowN rp_Expr _ 0 [] []from⟨Y,Y⟩).mono m) ((show RowN rp_Expr j4 1 [.int .i64 v15.2.Op,.int .i64 v15.2.N,vs v15.2.Name,.slice t x y] [v15.2]from⟨Y,⟨_,_,Y,(expr_iff.2 ⟨t,x,y,Y,h6⟩),(Y:RowR rp_Expr _ [] [])⟩⟩)) je ?_
  intro hx hy l8 M hz
  refine a0y (M.Ys m [3,4] Y Y) (d_tk 6 Y (by kernel_rfl) Y Y Y Y (M.Ys m [3,4] Y Y) (fun _ _ _ _ _=>a0i fa24_3 Y Y Y Yn) (a1m 7 Y (by kernel_rfl) (a0w sz22 Y M Y Y Y Y (i:=2) Y Y Y Y ?_)))
  intro l9 ge
  refine a0y (ge.Ys m [3,4] Y Y) (a8o (by kernel_rfl) (a0m (fun a ha=> ?_)))
  cases G
  exact⟨_,hx,(0+1),hy,([]++ [.int .i64 v15.2.Op,.int .i64 v15.2.N,vs v15.2.Name,.slice t x y]),g8,g9,ga,m,ge.Yp [1,2,3,4,5] Y Y,hz,h5,ha.cut (l:= [0,2,6]) Y⟩
  obtain⟨v15,hr,G⟩:=Yb G
  refine a2w ent134 Y Y Y Y U (i:=4) Y (ih.1 _ _ hr U.sat i3 (U.get (i:=4) Y) (U.lendable (i:=4) Y)) ?_
  rintro _ j4 _ _ o0 m gd ⟨g8,g9,ga,t,x,y,rfl,rfl,rfl,h5,h6⟩
  refine a0y (gd.Ys m [2,3] Y Y) (b6s 1 4 Y Y (by kernel_rfl) ?_ ?_)
  refine a1y ag22 Y Y gd Y (i:=1) Y Y (a0y (gd.Ys m [2,3] Y Y) (a1m 4 Y (by kernel_rfl) (a0k (e:=24) (cs:= [.int .i64 v15.2.Op,.int .i64 v15.2.N,vs v15.2.Name,.slice t x y]) (q:=4) Y Y gd Y (fun _=>by kernel_rfl) Y Y ?_)))
  intro b13 l7 V
  refine a0y (V.Ys m [3,4] Y Y) (a1m 5 Y (by kernel_rfl) ?_)
  obtain⟨l4,je,G⟩:=Yb G
  refine a7g (r:=rp_Expr) ap22 Y Y V Y Y (i:=1) (j:=0) Y Y ((show RowN rp_Expr _ 0 [] []from⟨Y,Y⟩).mono m) ((show RowN rp_Expr j4 1 [.int .i64 v15.2.Op,.int .i64 v15.2.N,vs v15.2.Name,.slice t x y] [v15.2]from⟨Y,⟨_,_,Y,(expr_iff.2 ⟨t,x,y,Y,h6⟩),(Y:RowR rp_Expr _ [] [])⟩⟩)) je ?_
  intro hx hy l8 M hz
  refine a0y (M.Ys m [3,4] Y Y) (d_tk 6 Y (by kernel_rfl) Y Y Y Y (M.Ys m [3,4] Y Y) (fun _ _ _ _ _=>a0i fa24_3 Y Y Y Yn) (a1m 7 Y (by kernel_rfl) (a0w sz22 Y M Y Y Y Y (i:=2) Y Y Y Y ?_)))
  intro l9 ge
  refine a0y (ge.Ys m [3,4] Y Y) (a8o (by kernel_rfl) (a0m (fun a ha=> ?_)))
  cases G
  exact⟨_,hx,(0+1),hy,([]++ [.int .i64 v15.2.Op,.int .i64 v15.2.N,vs v15.2.Name,.slice t x y]),g8,g9,ga,m,ge.Yp [1,2,3,4,5] Y Y,hz,h5,ha.cut (l:= [0,2,6]) Y⟩
  refine a0k (e:=24) (cs:= [.int .i64 v15.2.Op,.int .i64 v15.2.N,vs v15.2.Name,.slice t x y]) (q:=4) Y Y gd Y (fun _=>by kernel_rfl) Y Y ?_
  intro b13 l7 V
  refine a0y (V.Ys m [3,4] Y Y) (a1m 1 Y (by kernel_rfl) (a1y ag22 Y Y V Y (i:=2) Y Y (a0y (V.Ys m [3,4] Y Y) (a1m 5 Y (by kernel_rfl) ?_))))
  obtain⟨l4,je,G⟩:=Yb G
  refine a7g (r:=rp_Expr) ap22 Y Y V Y Y (i:=1) (j:=0) Y Y ((show RowN rp_Expr _ 0 [] []from⟨Y,Y⟩).mono m) ((show RowN rp_Expr j4 1 [.int .i64 v15.2.Op,.int .i64 v15.2.N,vs v15.2.Name,.slice t x y] [v15.2]from⟨Y,⟨_,_,Y,(expr_iff.2 ⟨t,x,y,Y,h6⟩),(Y:RowR rp_Expr _ [] [])⟩⟩)) je ?_
  intro hx hy l8 M hz
  refine a0y (M.Ys m [3,4] Y Y) (d_tk 6 Y (by kernel_rfl) Y Y Y Y (M.Ys m [3,4] Y Y) (fun _ _ _ _ _=>a0i fa24_3 Y Y Y Yn) (a1m 7 Y (by kernel_rfl) (a0w sz22 Y M Y Y Y Y (i:=2) Y Y Y Y ?_)))
  intro l9 ge
  refine a0y (ge.Ys m [3,4] Y Y) (a8o (by kernel_rfl) (a0m (fun a ha=> ?_)))
  cases G
  exact⟨_,hx,(0+1),hy,([]++ [.int .i64 v15.2.Op,.int .i64 v15.2.N,vs v15.2.Name,.slice t x y]),g8,g9,ga,m,ge.Yp [1,2,3,4,5] Y Y,hz,h5,ha.cut (l:= [0,2,6]) Y⟩
  clear hm
  rcases a0g hw with⟨ju,hw⟩|⟨ju,hw⟩
  refine a1j 81 Y ju (a1t Y (a0a (a0i fa24_0 Y Y Y (a0w sz3 Y gl Y Y Y Y (i:=0) Y Y Y Y ?_))))
  intro p0 o1
  refine a0e (a0m (fun a ha=> ?_))
  cases hw
  exact⟨_,Yf,o1.Yp [0,1,2,3] Y Y,ha.cut (l:= [0,2,6]) Y⟩
  refine a1j 81 Y ju (a1f Y (a2v (a0m (fun a ha=> ?_))))
  cases hw
  exact⟨_,Yf,gl.Yp [0,1,2,3] Y Y,ha.cut (l:= [0,2,6]) Y⟩
  refine a1j 75 Y jt (a1f Y (a2v (a4x (a0d (a0f (a0a (a0b Y Y Y (b4o Y Y Y (a0i fa149_1 Y Y Y (a1y ag3 Y Y g0 Y (i:=2) Y Y (a0x Y Y Y Y Y (b4o Y Y Y ?_))))))))))))
  refine a0i fa149_1 Y Y Y (a0w sz3 Y g0 Y Y Y Y (i:=2) Y Y Y Y ?_)
  intro p1 j5
  refine a0e (a0d (a0f (a0a (a0b Y Y Y ?_))))
  obtain⟨v16,jq,hm⟩:=Yb hm
  refine a2w ent136 Y Y Y Y j5 (i:=2) Y (a5e _ _ _ _ jq j5.sat g3 (j5.get (i:=2) Y) (j5.lendable (i:=2) Y)) ?_
  rintro _ p2 _ _ p3 p4 o2 ⟨o3,o4,o5,rfl,rfl,rfl,o6⟩
  refine a0e (a0d (a0f (a0a (a5r (v:= .agg #[.int .i64 0,.int .i64 0,vs [],.slice none 0 0]) Y Y Y (fun _=>by kernel_rfl) (a0w sz24 Y o2 Y Y Y Y (i:=1) Y Y Y Y ?_)))))
  intro p5 la
  refine a0e (a0d (a3x (b0o Y ag24 sz24 Y la Y (i:=1) Y ?_)))
  obtain rfl:=Yo hm
  exact⟨_,_,_,_,Y,la.Yp [2] Y Y,o3,o4,o5,none,0,0,Y,Y,Y,o6,SlR.nil _ _⟩
  clear hm
  rcases a0g hv with⟨jv,hv⟩|⟨jv,hv⟩
  refine a1j 75 Y jv (a1t Y (a2v (a0m (fun a ha=> ?_))))
  cases hv
  exact⟨Y,ha.cut (l:= [0,2,3,75]) Y⟩
  refine a1j 75 Y jv (a1f Y (a0a (c0f Y Y Y Y Y (a0c Y Y Y (a0e (a0m (fun a ha=> ?_)))))))
  cases hv
  exact⟨Y,ha.cut (l:= [0,2,3,75]) Y⟩
  clear hm
  rcases a0g jb with⟨jw,jb⟩|⟨jw,jb⟩
  refine a1j 56 Y jw (a1t Y (a2v (a0m (fun a ha=> ?_))))
  cases jb
  exact⟨Y,ha.cut (l:= [0,2,3,41,56]) Y⟩
  refine a1j 56 Y jw (a1f Y (a0a (c0f Y Y Y Y Y (a0c Y Y Y (a0e (a0m (fun a ha=> ?_)))))))
  cases jb
  exact⟨Y,ha.cut (l:= [0,2,3,41,56]) Y⟩
  clear hm
  rcases a0g gu with⟨jx,gu⟩|⟨jx,gu⟩
  refine a3o 25 Y jx (a0i fa152_0 Y Y Y (a1y ag3 Y Y Z Y (i:=0) Y Y (a0x Y Y Y Y Y (a0n Y Y Y Y (a0e (a0m (fun a ha=> ?_)))))))
  cases gu
  exact⟨Y,ha.cut (l:= [0,2,3,29]) Y⟩
  refine a3o 25 Y jx (a1g Y (by decide) Y (a1g Y (by decide) Y (a1g Y (by decide) Y (a0j Y Y Y Y (a0e (a0m (fun a ha=> ?_)))))))
  cases gu
  exact⟨Y,ha.cut (l:= [0,2,3,29]) Y⟩
theorem b5j(n:Nat)(rx1:reader)(r:(reader×Expr))(hm:tariff_reader_expr n rx1=some r){w:World}{F:Frz}(hs:Sat F w){g:Option Addr}{h:Nat}{i:Nat}{brx1:Nat}(j:SlR rp_Token F g h i rx1.l)(hbrx1:(OE.box brx1 149 [.slice g h i,.int .i64 rx1.at_,.int .i64 rx1.e]).ok w)(hfrx1:F brx1=none):
 Calls Tryz.prog 134 #[.pointer (some ⟨brx1,0,none⟩)] w fun e w'=>∃v F' cs' O',e= .returned v/\HS F w [brx1] F' (.box brx1 149 cs'::O') w'/\(∃(al_0:Option Addr)(nl_0:Nat)(cl_0:Nat)(a0_3:Option Addr)(n0_3:Nat)(c0_3:Nat),v= .agg #[.int .i64 r.2.Op,.int .i64 r.2.N,vs r.2.Name,.slice a0_3 n0_3 c0_3]/\cs'= [.slice al_0 nl_0 cl_0,.int .i64 r.1.at_,.int .i64 r.1.e]/\O'= []/\SlR rp_Token F' al_0 nl_0 cl_0 r.1.l/\SlR rp_Expr F' a0_3 n0_3 c0_3 r.2.Args):=
 (b4q n).1 rx1 r hm hs j hbrx1 hfrx1
def b5p(n:Nat)(s1:Bs):Option (Tariff×Int×Int):=
 (c0d n s1).bind fun v1=>
 bif v1.2.2 !=0 then
  some ((⟨[],(⟨0,0,[],[]⟩:Expr),0⟩:Tariff),v1.2.1,v1.2.2)
 else
  (a0q n (⟨v1.1,0,0⟩:reader) [[116,97,114,105,102,102]]).bind fun v2=>
  (a3z n v2 0).bind fun v3=>
  (a0q n v3.1 [[123],[102,101,101],[61]]).bind fun v4=>
  (tariff_reader_expr n v4).bind fun v5=>
  (a5a n v5.1 [59]).bind fun v6=>
  (bif v6.2 then
   (tariff_sized n v5.2 10 100).bind fun v16=>
   some (!v16.2,v16.1)
  else
   some (false,100)).bind fun(v7,_)=>
  (bif v7 then
   (a2a n v6.1 6).bind fun v15=>
   some (v15.l,v15.at_,v15.e)
  else
   some (v6.1.l,v6.1.at_,v6.1.e)).bind fun(f2,f3,f4)=>
  (a0q n (⟨f2,f3,f4⟩:reader) [[59]]).bind fun v8=>
  (a2p n v8 [99,97,112]).bind fun v9=>
  (bif v9.2 then
   (a0q n v9.1 [[61]]).bind fun v12=>
   (a3z n v12 1).bind fun v13=>
   (a0q n v13.1 [[59]]).bind fun v14=>
   some (v13.2.N,v14.l,v14.at_,v14.e)
  else
   some ((-1),v9.1.l,v9.1.at_,v9.1.e)).bind fun(f5,f6,f7,f8)=>
  (a0q n (⟨f6,f7,f8⟩:reader) [[125]]).bind fun v10=>
  (bif decide (v10.at_<(v1.1.length:Int))then
   (a2a n v10 12).bind fun v11=>
   some (v11.l,v11.at_,v11.e)
  else
   some (v10.l,v10.at_,v10.e)).bind fun(_,f10,f11)=>
  bif f11==0 then
   some ((⟨v3.2.Text,v5.2,f5⟩:Tariff),0,0)
  else
   bif decide (f10<(v1.1.length:Int))then
    (ix v1.1 f10).bind fun ex1=>
    some ((⟨[],(⟨0,0,[],[]⟩:Expr),0⟩:Tariff),ex1.Pos,f11)
   else
    some ((⟨[],(⟨0,0,[],[]⟩:Expr),0⟩:Tariff),(s1.length:Int),f11)
end Go.Proofs.YthaegflpecbfgaaGreatDoor.M
namespace Go.Proofs.YthaegflpecbfgaaGreatDoor.M
open Go Go.RowKit Rt
set_option linter.unusedVariables false
structure maker where
 names:(List Bs)
 facts:Facts
 full:Bool
 deriving DecidableEq,Inhabited
structure Affine where
 Const:Frac
 Coefs:(List Frac)
 deriving DecidableEq,Inhabited
def rp_Affine:Rp Affine where
 k:=5
 R:=fun F cs x=>∃(a1:Option Addr)(n1:Nat)(c1:Nat)(a3:Option Addr)(n3:Nat)(c3:Nat)(a4:Option Addr)(n4:Nat)(c4:Nat),cs= [.int .i64 x.Const.P.Sign,.slice a1 n1 c1,.int .i64 x.Const.Q.Sign,.slice a3 n3 c3,.slice a4 n4 c4]/\SlR (Rp.int .i64) F a1 n1 c1 x.Const.P.Digits/\SlR (Rp.int .i64) F a3 n3 c3 x.Const.Q.Digits/\SlR rp_Frac F a4 n4 c4 x.Coefs
 len:=by rintro F cs x ⟨a1,n1,c1,a3,n3,c3,a4,n4,c4,h,_⟩;simp [h]
 mono:=by rintro F F' cs x hF ⟨a1,n1,c1,a3,n3,c3,a4,n4,c4,h,h0,h1,h2⟩;exact⟨a1,n1,c1,a3,n3,c3,a4,n4,c4,h,h0.mono hF,h1.mono hF,h2.mono hF⟩
 one:=by rintro F cs x ⟨a1,n1,c1,a3,n3,c3,a4,n4,c4,h,_⟩ u hu;subst h;simp at hu;rcases hu with rfl|rfl|rfl|rfl|rfl<;>rfl
structure Form where
 Pieces:(List (List Affine))
 deriving DecidableEq,Inhabited
theorem ze34:c1h Tryz.prog 34 (.agg #[.slice none 0 0]):=fun _=>by kernel_rfl
theorem sz34:SizeIs Tryz.prog 34 1:=fun _=>by kernel_rfl
theorem ag34:a9n Tryz.prog 34 true:=fun _=>by kernel_rfl
def a1d(n:Nat)(mx1:maker)(c1:Frac):Option (maker×Form):=
 (a3q n 0).bind fun v1=>
 (a2z n [v1] (mx1.names.length:Int)).bind fun v2=>
 some (mx1,(⟨[[(⟨c1,v2⟩:Affine)]]⟩:Form))
def a2o(n:Nat)(mx1:maker)(x1:Expr):Option (maker×Frac):=
 (a3q n 0).bind fun v1=>
 (a2z n [v1] (mx1.names.length:Int)).bind fun v2=>
 ((a4l n (⟨[97],x1,(-1)⟩:Tariff) mx1.names mx1.facts v2).bind fun v3=>
 some (v3.1.P.Sign,v3.1.P.Digits,v3.1.Q.Sign,v3.1.Q.Digits)).bind fun(f1,f2,f3,f4)=>
 some (mx1,(⟨(⟨f1,f2⟩:Big),(⟨f3,f4⟩:Big)⟩:Frac))
def a5i(n:Nat)(mx1:maker)(x1:Expr):Option (maker×Bool):=
 (a2o n mx1 (⟨11,0,[],[x1,(⟨0,1,[],[]⟩:Expr),(⟨0,0,[],[]⟩:Expr)]⟩:Expr)).bind fun v1=>
 (b2a n v1.2).bind fun v2=>
 some (v1.1,decide (0<v2))
def a4a(n:Nat)(mx1:maker)(x1:Expr):Option (maker×Int):=
 (b1i n x1 mx1.names).bind fun v1=>
 some (mx1,v1.1)
def minmax_affine_L1(n:Nat)(ax1:Affine)(f1:(Int->Frac->Option Frac))(kont1:(List Frac)->Option Affine):Nat->Int->(List Frac)->Option Affine
 |0,_,_=>none
 |mx1+1,i1,l1=>
  bif decide (i1<(ax1.Coefs.length:Int))then
   (ix ax1.Coefs i1).bind fun ex1=>
   (f1 i1 ex1).bind fun v2=>
   (app 64 l1 [v2]).bind fun l3=>
   minmax_affine_L1 n ax1 f1 kont1 mx1 (iadd .i64 i1 1) l3
  else
   kont1 l1
theorem minmax_affine_L1_s:type_of% @minmax_affine_L1.eq_2:= @minmax_affine_L1.eq_2
def a7o(n:Nat)(ax1:Affine)(f1:(Int->Frac->Option Frac)):Option Affine:=
 (f1 (-1) ax1.Const).bind fun v1=>
 minmax_affine_L1 n ax1 f1 (fun(l2:List Frac)=>
  some (⟨v1,l2⟩:Affine)) n 0 ([]:List Frac)
def a5q(n:Nat)(p1:Int)(x1:Frac)(cap1:Frac):Option Frac:=
 (b3l n x1 cap1).bind fun v1=>
 some v1.1
def a6d(n:Nat)(ax1:Affine)(byx1:Frac):Option Affine:=
 (a7o n ax1 (fun(q0:Int)(q1:Frac)=>a5q n q0 q1 byx1)).bind fun v1=>
 some v1
def a7f(n:Nat)(i1:Int)(x1:Frac)(cap1:Affine):Option Frac:=
 (bif decide (0<=i1)then
  (ix cap1.Coefs i1).bind fun ex1=>
  some (ex1.P.Sign,ex1.P.Digits,ex1.Q.Sign,ex1.Q.Digits)
 else
  some (cap1.Const.P.Sign,cap1.Const.P.Digits,cap1.Const.Q.Sign,cap1.Const.Q.Digits)).bind fun(f1,f2,f3,f4)=>
 (b2i n x1 (⟨(⟨f1,f2⟩:Big),(⟨f3,f4⟩:Big)⟩:Frac)).bind fun v1=>
 some v1.1
def b1a(n:Nat)(ax1:Affine)(b1:Affine):Option Affine:=
 (a7o n ax1 (fun(q0:Int)(q1:Frac)=>a7f n q0 q1 b1)).bind fun v1=>
 some v1
theorem fa34_0:b0k Tryz.prog 34 0 0:=fun _ _ _=>by kernel_rfl
theorem ag32:a9n Tryz.prog 32 false:=fun _=>by kernel_rfl
theorem u32:Tryz.prog.underlying 32=some (.slice 57):=by kernel_rfl
theorem sz57:SizeIs Tryz.prog 57 1:=fun _=>by kernel_rfl
theorem ag57:a9n Tryz.prog 57 false:=fun _=>by kernel_rfl
theorem u57:Tryz.prog.underlying 57=some (.slice 62):=by kernel_rfl
def minmax_size_L1(n:Nat)(f1:Form)(kont1:Int->Option Int):Nat->Int->Int->Option Int
 |0,_,_=>none
 |mx1+1,nx1,i1=>
  bif decide (i1<(f1.Pieces.length:Int))then
   (ix f1.Pieces i1).bind fun ex1=>
   minmax_size_L1 n f1 kont1 mx1 (iadd .i64 nx1 (ex1.length:Int)) (iadd .i64 i1 1)
  else
   kont1 nx1
theorem minmax_size_L1_s:type_of% @minmax_size_L1.eq_2:= @minmax_size_L1.eq_2
def a4g(n:Nat)(f1:Form):Option Int:=
 minmax_size_L1 n f1 (fun(nx2:Int)=>
  some nx2) n 0 0
def a2l(_n:Nat)(mx1:maker)(nx1:Int):Option (maker×Bool):=
 (bif mx1.full then
  some true
 else
  some (decide (200<nx1))).bind fun v1=>
 some ((⟨mx1.names,mx1.facts,v1⟩:maker), !v1)
theorem ap57:AppIs Tryz.prog 57 62 5 88:=AppIs.of (z:= .agg #[.int .i64 0,.slice none 0 0,.int .i64 0,.slice none 0 0,.slice none 0 0]) (by kernel_rfl) (by kernel_rfl) rfl (by decide) (by decide)
def minmax_scaled_L2(n:Nat)(f3:Int)(f4:(List Int))(f5:Int)(f6:(List Int))(ex1:(List Affine))(kont2:(List Affine)->Option Form):Nat->Int->(List Affine)->Option Form
 |0,_,_=>none
 |mx2+1,i2,l3=>
  bif decide (i2<(ex1.length:Int))then
   (ix ex1 i2).bind fun ex2=>
   (a6d n ex2 (⟨(⟨f3,f4⟩:Big),(⟨f5,f6⟩:Big)⟩:Frac)).bind fun v1=>
   (app 88 l3 [v1]).bind fun l6=>
   minmax_scaled_L2 n f3 f4 f5 f6 ex1 kont2 mx2 (iadd .i64 i2 1) l6
  else
   kont2 l3
theorem minmax_scaled_L2_s:type_of% @minmax_scaled_L2.eq_2:= @minmax_scaled_L2.eq_2
def minmax_scaled_L1(n:Nat)(f1:Form)(kont1:(List (List Affine))->(List (List Affine))->Option Form):Nat->Int->(List (List Affine))->(List (List Affine))->Int->(List Int)->Int->(List Int)->Option Form
 |0,_,_,_,_,_,_,_=>none
 |mx1+1,i1,l1,f2,f3,f4,f5,f6=>
  bif decide (i1<(f1.Pieces.length:Int))then
   (ix f1.Pieces i1).bind fun ex1=>
   minmax_scaled_L2 n f3 f4 f5 f6 ex1 (fun(l4:List Affine)=>
    (app 24 l1 [l4]).bind fun l5=>
    minmax_scaled_L1 n f1 kont1 mx1 (iadd .i64 i1 1) l5 f2 f3 f4 f5 f6) n 0 ([]:List Affine)
  else
   kont1 l1 f2
theorem minmax_scaled_L1_s:type_of% @minmax_scaled_L1.eq_2:= @minmax_scaled_L1.eq_2
def a5m(n:Nat)(f1:Form)(byx1:Frac):Option Form:=
 minmax_scaled_L1 n f1 (fun(l2:List (List Affine))(f7:(List (List Affine)))=>
  some (⟨l2⟩:Form)) n 0 ([]:List (List Affine)) [] byx1.P.Sign byx1.P.Digits byx1.Q.Sign byx1.Q.Digits
def a1a(_n:Nat)(s1:(List Affine)):Option (List Affine):=app 88 [] s1
theorem a7u(n:Nat)(s1:(List Affine))(r:(List Affine))(hm:a1a n s1=some r){w:World}{F:Frz}(hs:Sat F w){g:Option Addr}{j:Nat}{k:Nat}(l:SlR rp_Affine F g j k s1):
 Calls Tryz.prog 196 #[.slice g j k] w fun e w'=>∃v F' O',e= .returned v/\HS F w [] F' O' w'/\(∃(a0_0:Option Addr)(n0_0:Nat)(c0_0:Nat)(xs0_0:List Value),v= .slice a0_0 n0_0 c0_0/\O'= [.row 62 5 a0_0 n0_0 c0_0 xs0_0]/\RowN rp_Affine F' n0_0 xs0_0 r):=by
 unfold a1a at hm
 have h:=HS.init hs
 refine a2g (args:= [.slice g j k]) 8 Tryz.func196 Y Y Y (a0f (a0a (a0c Y Y Y (a0e (a0d (a0f (a0f (a0a (a0b Y Y Y (e4b u57 Y Y Y (a0e (a0d ?_))))))))))))
 cases g with
 |none=>
  have h0:s1= []:=by
   rcases l.2.2.2 with h0|⟨_,_,_,h0,_⟩
   ·exact h0
   ·cases h0
  subst h0
  simp only [app,List.length_nil,Nat.add_zero,Nat.zero_mul,Nat.zero_le,if_true,List.append_nil,Option.some.injEq]at hm
  subst hm
  refine a1t Y (a0f (a0a (a0c Y Y Y (a0e (a0d (a3x (a0p (a9d Y Y ?_))))))))
  exact⟨_,_,_,Y,h.nilRow 62 5,none,0,0,[],Y,Y,Y,Y⟩
 |some ad=>
  refine a1f Y (a2v (a0d (a0f (a0a (a0k (e:=62) (cs:= []) (q:=5) Y Y h Y (fun _=>by kernel_rfl) Y Y ?_)))))
  intro b1 w1 h1
  refine a0b Y Y Y (b8x (r:=rp_Affine) ap57 Y Y Y h1 Y Y (i:=0) Y (show RowN rp_Affine _ 0 [] []from⟨Y,Y⟩) l hm ?_)
  intro a2 c2 w2 xs2 h2 m
  refine a0c Y Y Y (a0e (a0d (a3x (a9d Y Y ?_))))
  exact⟨_,_,_,Y,h2,a2,_,c2,xs2,Y,Y,m⟩
def minmax_maker_opposite_L3(n:Nat)(ex1:(List Affine))(ex2:(List Affine))(kont3:(List (List Affine))->Option (maker×Form)):Nat->Int->(List (List Affine))->Option (maker×Form)
 |0,_,_=>none
 |mx4+1,i3,l3=>
  bif decide (i3<(ex1.length:Int))then
   (ix ex1 i3).bind fun ex3=>
   (a1a n ex2).bind fun v2=>
   (a3q n (-1)).bind fun v3=>
   (a6d n ex3 v3).bind fun v4=>
   (app 88 v2 [v4]).bind fun l5=>
   (app 24 l3 [l5]).bind fun l6=>
   minmax_maker_opposite_L3 n ex1 ex2 kont3 mx4 (iadd .i64 i3 1) l6
  else
   kont3 l3
theorem minmax_maker_opposite_L3_s:type_of% @minmax_maker_opposite_L3.eq_2:= @minmax_maker_opposite_L3.eq_2
def minmax_maker_opposite_L2(n:Nat)(choices1:(List (List Affine)))(ex1:(List Affine))(kont2:(List (List Affine))->(List (List Affine))->(List (List Affine))->(List Bs)->(List Int)->Int->Int->Bool->Option (maker×Form)):Nat->Int->(List (List Affine))->(List (List Affine))->(List (List Affine))->(List Bs)->(List Int)->Int->Int->Bool->Option (maker×Form)
 |0,_,_,_,_,_,_,_,_,_=>none
 |mx3+1,i2,l1,f15,f16,f17,f18,f19,f20,f21=>
  bif decide (i2<(choices1.length:Int))then
   (ix choices1 i2).bind fun ex2=>
   minmax_maker_opposite_L3 n ex1 ex2 (fun(l4:List (List Affine))=>
    minmax_maker_opposite_L2 n choices1 ex1 kont2 mx3 (iadd .i64 i2 1) l4 f15 f16 f17 f18 f19 f20 f21) n 0 l1
  else
   kont2 l1 f15 f16 f17 f18 f19 f20 f21
theorem minmax_maker_opposite_L2_s:type_of% @minmax_maker_opposite_L2.eq_2:= @minmax_maker_opposite_L2.eq_2
def minmax_maker_opposite_L1(n:Nat)(f1:Form)(kont1:(List (List Affine))->(List (List Affine))->(List Bs)->(List Int)->Int->Int->Bool->Option (maker×Form)):Nat->(List (List Affine))->Int->(List (List Affine))->(List (List Affine))->(List Bs)->(List Int)->Int->Int->Bool->Option (maker×Form)
 |0,_,_,_,_,_,_,_,_,_=>none
 |mx2+1,choices1,i1,f2,f3,f4,f5,f6,f7,f8=>
  bif decide (i1<(f1.Pieces.length:Int))then
   (ix f1.Pieces i1).bind fun ex1=>
   (a2l n (⟨f4,(⟨f5,f6,f7⟩:Facts),f8⟩:maker) (imul .i64 (imul .i64 (choices1.length:Int) (ex1.length:Int)) (f3.length:Int))).bind fun v1=>
   bif !v1.2 then
    some (v1.1,(⟨[]⟩:Form))
   else
    minmax_maker_opposite_L2 n choices1 ex1 (fun(l2:List (List Affine))(f22:(List (List Affine)))(f23:(List (List Affine)))(f24:(List Bs))(f25:(List Int))(f26:Int)(f27:Int)(f28:Bool)=>
     minmax_maker_opposite_L1 n f1 kont1 mx2 l2 (iadd .i64 i1 1) f22 f23 f24 f25 f26 f27 f28) n 0 ([]:List (List Affine)) f2 f3 v1.1.names v1.1.facts.Lifts v1.1.facts.Persons v1.1.facts.Flats v1.1.full
  else
   kont1 choices1 f2 f4 f5 f6 f7 f8
theorem minmax_maker_opposite_L1_s:type_of% @minmax_maker_opposite_L1.eq_2:= @minmax_maker_opposite_L1.eq_2
def a2c(n:Nat)(mx1:maker)(f1:Form):Option (maker×Form):=
 minmax_maker_opposite_L1 n f1 (fun(choices2:(List (List Affine)))(f9:(List (List Affine)))(f10:(List Bs))(f11:(List Int))(f12:Int)(f13:Int)(f14:Bool)=>
  some ((⟨f10,(⟨f11,f12,f13⟩:Facts),f14⟩:maker),(⟨choices2⟩:Form))) n [[]] 0 [] f1.Pieces mx1.names mx1.facts.Lifts mx1.facts.Persons mx1.facts.Flats mx1.full
def minmax_join_L2(n:Nat)(piece1:((List Affine)->(List Affine)->Option (List Affine)))(f2:(List (List Affine)))(ex1:(List Affine))(kont2:(List (List Affine))->Option Form):Nat->Int->(List (List Affine))->Option Form
 |0,_,_=>none
 |mx2+1,i2,l3=>
  bif decide (i2<(f2.length:Int))then
   (ix f2 i2).bind fun ex2=>
   (piece1 ex1 ex2).bind fun v1=>
   (app 24 l3 [v1]).bind fun l5=>
   minmax_join_L2 n piece1 f2 ex1 kont2 mx2 (iadd .i64 i2 1) l5
  else
   kont2 l3
theorem minmax_join_L2_s:type_of% @minmax_join_L2.eq_2:= @minmax_join_L2.eq_2
def minmax_join_L1(n:Nat)(ax1:Form)(piece1:((List Affine)->(List Affine)->Option (List Affine)))(kont1:(List (List Affine))->(List (List Affine))->Option Form):Nat->Int->(List (List Affine))->(List (List Affine))->(List (List Affine))->Option Form
 |0,_,_,_,_=>none
 |mx1+1,i1,l1,f1,f2=>
  bif decide (i1<(ax1.Pieces.length:Int))then
   (ix ax1.Pieces i1).bind fun ex1=>
   minmax_join_L2 n piece1 f2 ex1 (fun(l4:List (List Affine))=>
    minmax_join_L1 n ax1 piece1 kont1 mx1 (iadd .i64 i1 1) l4 f1 f2) n 0 l1
  else
   kont1 l1 f1
theorem minmax_join_L1_s:type_of% @minmax_join_L1.eq_2:= @minmax_join_L1.eq_2
def a4k(n:Nat)(ax1:Form)(b1:Form)(piece1:((List Affine)->(List Affine)->Option (List Affine))):Option Form:=
 minmax_join_L1 n ax1 piece1 (fun(l2:List (List Affine))(f3:(List (List Affine)))=>
  some (⟨l2⟩:Form)) n 0 ([]:List (List Affine)) [] b1.Pieces
def minmax_sums_L2(n:Nat)(y1:(List Affine))(ex1:Affine)(kont2:(List Affine)->Option (List Affine)):Nat->Int->(List Affine)->Option (List Affine)
 |0,_,_=>none
 |mx2+1,i2,l3=>
  bif decide (i2<(y1.length:Int))then
   (ix y1 i2).bind fun ex2=>
   (b1a n ex1 ex2).bind fun v1=>
   (app 88 l3 [v1]).bind fun l5=>
   minmax_sums_L2 n y1 ex1 kont2 mx2 (iadd .i64 i2 1) l5
  else
   kont2 l3
theorem minmax_sums_L2_s:type_of% @minmax_sums_L2.eq_2:= @minmax_sums_L2.eq_2
def minmax_sums_L1(n:Nat)(x1:(List Affine))(y1:(List Affine))(kont1:(List Affine)->Option (List Affine)):Nat->Int->(List Affine)->Option (List Affine)
 |0,_,_=>none
 |mx1+1,i1,l1=>
  bif decide (i1<(x1.length:Int))then
   (ix x1 i1).bind fun ex1=>
   minmax_sums_L2 n y1 ex1 (fun(l4:List Affine)=>
    minmax_sums_L1 n x1 y1 kont1 mx1 (iadd .i64 i1 1) l4) n 0 l1
  else
   kont1 l1
theorem minmax_sums_L1_s:type_of% @minmax_sums_L1.eq_2:= @minmax_sums_L1.eq_2
def a4u(n:Nat)(x1:(List Affine))(y1:(List Affine)):Option (List Affine):=
 minmax_sums_L1 n x1 y1 (fun(l2:List Affine)=>
  some l2) n 0 ([]:List Affine)
def slices_Concat_api_Affine_api_Affine_L2(n:Nat)(slices1:(List (List Affine)))(kont1:(List Affine)->Option (List Affine)):Nat->Int->(List Affine)->Option (List Affine)
 |0,_,_=>none
 |mx1+1,i2,l1=>
  bif decide (i2<(slices1.length:Int))then
   (ix slices1 i2).bind fun ex1=>
   (app 88 l1 ex1).bind fun l3=>
   slices_Concat_api_Affine_api_Affine_L2 n slices1 kont1 mx1 (iadd .i64 i2 1) l3
  else
   kont1 l1
theorem slices_Concat_api_Affine_api_Affine_L2_s:type_of% @slices_Concat_api_Affine_api_Affine_L2.eq_2:= @slices_Concat_api_Affine_api_Affine_L2.eq_2
def slices_Concat_api_Affine_api_Affine_L1(n:Nat)(slices1:(List (List Affine)))(kont2:Int->Option (List Affine)):Nat->Int->Int->Option (List Affine)
 |0,_,_=>none
 |mx2+1,size1,i1=>
  bif decide (i1<(slices1.length:Int))then
   (ix slices1 i1).bind fun ex2=>
   bif decide ((iadd .i64 size1 (ex2.length:Int))<0)then
    none
   else
    slices_Concat_api_Affine_api_Affine_L1 n slices1 kont2 mx2 (iadd .i64 size1 (ex2.length:Int)) (iadd .i64 i1 1)
  else
   kont2 size1
theorem slices_Concat_api_Affine_api_Affine_L1_s:type_of% @slices_Concat_api_Affine_api_Affine_L1.eq_2:= @slices_Concat_api_Affine_api_Affine_L1.eq_2
def a1o(n:Nat)(slices1:(List (List Affine))):Option (List Affine):=
 slices_Concat_api_Affine_api_Affine_L1 n slices1 (fun(size2:Int)=>
  (b3m n [] size2).bind fun v1=>
  slices_Concat_api_Affine_api_Affine_L2 n slices1 (fun(l2:List Affine)=>
   some l2) n 0 v1) n 0 0
def a4w(n:Nat)(x1:(List Affine))(y1:(List Affine)):Option (List Affine):=
 (a1o n [x1,y1]).bind fun v1=>
 some v1
def slices_Concat_LLapi_Affine_api_Affine_L2(n:Nat)(slices1:(List (List (List Affine))))(kont1:(List (List Affine))->Option (List (List Affine))):Nat->Int->(List (List Affine))->Option (List (List Affine))
 |0,_,_=>none
 |mx1+1,i2,l1=>
  bif decide (i2<(slices1.length:Int))then
   (ix slices1 i2).bind fun ex1=>
   (app 24 l1 ex1).bind fun l3=>
   slices_Concat_LLapi_Affine_api_Affine_L2 n slices1 kont1 mx1 (iadd .i64 i2 1) l3
  else
   kont1 l1
theorem slices_Concat_LLapi_Affine_api_Affine_L2_s:type_of% @slices_Concat_LLapi_Affine_api_Affine_L2.eq_2:= @slices_Concat_LLapi_Affine_api_Affine_L2.eq_2
def slices_Concat_LLapi_Affine_api_Affine_L1(n:Nat)(slices1:(List (List (List Affine))))(kont2:Int->Option (List (List Affine))):Nat->Int->Int->Option (List (List Affine))
 |0,_,_=>none
 |mx2+1,size1,i1=>
  bif decide (i1<(slices1.length:Int))then
   (ix slices1 i1).bind fun ex2=>
   bif decide ((iadd .i64 size1 (ex2.length:Int))<0)then
    none
   else
    slices_Concat_LLapi_Affine_api_Affine_L1 n slices1 kont2 mx2 (iadd .i64 size1 (ex2.length:Int)) (iadd .i64 i1 1)
  else
   kont2 size1
theorem slices_Concat_LLapi_Affine_api_Affine_L1_s:type_of% @slices_Concat_LLapi_Affine_api_Affine_L1.eq_2:= @slices_Concat_LLapi_Affine_api_Affine_L1.eq_2
def a0h(n:Nat)(slices1:(List (List (List Affine)))):Option (List (List Affine)):=
 slices_Concat_LLapi_Affine_api_Affine_L1 n slices1 (fun(size2:Int)=>
  (b3y n [] size2).bind fun v1=>
  slices_Concat_LLapi_Affine_api_Affine_L2 n slices1 (fun(l2:List (List Affine))=>
   some l2) n 0 v1) n 0 0
def a2n(n:Nat)(s1:(List Affine))(f1:(Affine->Option Bool))(kont1:Option Int):Nat->Int->Option Int
 |0,_=>none
 |mx1+1,i1=>
  bif decide (i1<(s1.length:Int))then
   (ix s1 i1).bind fun ex1=>
   (f1 ex1).bind fun v1=>
   bif v1 then
    some i1
   else
    a2n n s1 f1 kont1 mx1 (iadd .i64 i1 1)
  else
   kont1
def a2y(n:Nat)(s1:(List Affine))(f1:(Affine->Option Bool)):Option Int:=
 a2n n s1 f1 (
  some (-1)) n 0
def a2m(n:Nat)(s1:(List Affine))(f1:(Affine->Option Bool)):Option Bool:=
 (a2y n s1 f1).bind fun v1=>
 some (decide (0<=v1))
def a2h(n:Nat)(s1:(List (List Affine)))(f1:((List Affine)->Option Bool))(kont1:Option Int):Nat->Int->Option Int
 |0,_=>none
 |mx1+1,i1=>
  bif decide (i1<(s1.length:Int))then
   (ix s1 i1).bind fun ex1=>
   (f1 ex1).bind fun v1=>
   bif v1 then
    some i1
   else
    a2h n s1 f1 kont1 mx1 (iadd .i64 i1 1)
  else
   kont1
def a2q(n:Nat)(s1:(List (List Affine)))(f1:((List Affine)->Option Bool)):Option Int:=
 a2h n s1 f1 (
  some (-1)) n 0
def a2i(n:Nat)(s1:(List (List Affine)))(f1:((List Affine)->Option Bool)):Option Bool:=
 (a2q n s1 f1).bind fun v1=>
 some (decide (0<=v1))
end Go.Proofs.YthaegflpecbfgaaGreatDoor.M
namespace Go.Proofs.YthaegflpecbfgaaGreatDoor.M
open Go Go.RowKit Rt
def setw(p:List (List Affine))(k:Int)(v:Frac):Option (List (List Affine)):=match p with
 | [[x]]=>(lset x.Coefs k v).bind fun c=>some [[⟨x.Const,c⟩]]
 |_=>none
def a7y(n:Nat)(x:Frac):Option Bool:=(a2f n x).bind fun v1=>some (!v1)
def a9x(n:Nat)(a:Affine)(k:Int):Option Bool:=
 (a7y n a.Const).bind fun v1=>
 (bif v1 then some true else some ((a.Coefs.length:Int) !=k)).bind fun v2=>
 (bif v2 then some true else(a0s n a.Coefs (a7y n)).bind fun v4=>some v4).bind fun v3=>
 some v3
def a9z(n:Nat)(l:List Affine)(k:Int):Option Bool:=
 (bif(l.length:Int)==0 then some true else(a2m n l (fun a=>a9x n a k)).bind fun v2=>some v2).bind fun v1=>
 some v1
def b5l(n:Nat)(f:Form)(k:Int):Option Bool:=
 (bif decide (0<(f.Pieces.length:Int))then(a2i n f.Pieces (fun l=>a9z n l k)).bind fun v2=>some (!v2)else some false).bind fun v1=>
 some v1
end Go.Proofs.YthaegflpecbfgaaGreatDoor.M
namespace Go.Proofs.YthaegflpecbfgaaGreatDoor.M
open Go Go.RowKit Rt
set_option linter.unusedVariables false
def a3r(n:Nat)(mx1:maker)(f1:Form)(byx1:Frac):Option (maker×Form):=
 (b2a n byx1).bind fun v1=>
 bif v1==0 then
  (a1d n mx1 byx1).bind fun v2=>
  some (v2.1,v2.2)
 else
  bif v1==1 then
   (a5m n f1 byx1).bind fun v3=>
   some (mx1,v3)
  else
   (a2c n mx1 f1).bind fun v4=>
   (b9o n byx1).bind fun v5=>
   (a5m n v4.2 v5).bind fun v6=>
   some (v4.1,v6)
def a5w(n:Nat)(mx1:maker)(op1:Int)(ax1:Form)(b1:Form):Option (maker×Form):=
 (bif op1==6 then
  (a2c n mx1 b1).bind fun v19=>
  some (v19.2.Pieces,v19.1.names,v19.1.facts.Lifts,v19.1.facts.Persons,v19.1.facts.Flats,v19.1.full)
 else
  some (b1.Pieces,mx1.names,mx1.facts.Lifts,mx1.facts.Persons,mx1.facts.Flats,mx1.full)).bind fun(f1,f2,f3,f4,f5,f6)=>
 (a4g n ax1).bind fun v1=>
 (a4g n (⟨f1⟩:Form)).bind fun v2=>
 bif op1==9 then
  (a4g n ax1).bind fun v3=>
  (a4g n (⟨f1⟩:Form)).bind fun v4=>
  (a2l n (⟨f2,(⟨f3,f4,f5⟩:Facts),f6⟩:maker) (iadd .i64 v3 v4)).bind fun v5=>
  bif !v5.2 then
   some (v5.1,(⟨[]⟩:Form))
  else
   bif op1==9 then
    (a0h n [ax1.Pieces,f1]).bind fun v6=>
    some (v5.1,(⟨v6⟩:Form))
   else
    bif op1==10 then
     (a4k n ax1 (⟨f1⟩:Form) (a4w n)).bind fun v7=>
     some (v5.1,v7)
    else
     (a4k n ax1 (⟨f1⟩:Form) (a4u n)).bind fun v8=>
     some (v5.1,v8)
 else
  bif op1==10 then
   (a4g n ax1).bind fun v9=>
   (a4g n (⟨f1⟩:Form)).bind fun v10=>
   (a2l n (⟨f2,(⟨f3,f4,f5⟩:Facts),f6⟩:maker) (iadd .i64 (imul .i64 v9 (f1.length:Int)) (imul .i64 v10 (ax1.Pieces.length:Int)))).bind fun v11=>
   bif !v11.2 then
    some (v11.1,(⟨[]⟩:Form))
   else
    bif op1==9 then
     (a0h n [ax1.Pieces,f1]).bind fun v12=>
     some (v11.1,(⟨v12⟩:Form))
    else
     bif op1==10 then
      (a4k n ax1 (⟨f1⟩:Form) (a4w n)).bind fun v13=>
      some (v11.1,v13)
     else
      (a4k n ax1 (⟨f1⟩:Form) (a4u n)).bind fun v14=>
      some (v11.1,v14)
  else
   (a2l n (⟨f2,(⟨f3,f4,f5⟩:Facts),f6⟩:maker) (imul .i64 v1 v2)).bind fun v15=>
   bif !v15.2 then
    some (v15.1,(⟨[]⟩:Form))
   else
    bif op1==9 then
     (a0h n [ax1.Pieces,f1]).bind fun v16=>
     some (v15.1,(⟨v16⟩:Form))
    else
     bif op1==10 then
      (a4k n ax1 (⟨f1⟩:Form) (a4w n)).bind fun v17=>
      some (v15.1,v17)
     else
      (a4k n ax1 (⟨f1⟩:Form) (a4u n)).bind fun v18=>
      some (v15.1,v18)
def minmax_maker_made:Nat->maker->Expr->Option (maker×Form)
 |0,_,_=>none
 |n+1,mx1,x1=>
  bif mx1.full then
   some (mx1,(⟨[]⟩:Form))
  else
   (a4a n mx1 x1).bind fun v1=>
   bif v1.2==1 then
    (a2o n v1.1 x1).bind fun v2=>
    (a1d n v2.1 v2.2).bind fun v3=>
    some (v3.1,v3.2)
   else
    bif x1.Op==4 then
     (a3q n 0).bind fun v4=>
     (a1d n v1.1 v4).bind fun v5=>
     (ix v5.2.Pieces 0).bind fun ex1=>
     (ix ex1 0).bind fun ex2=>
     (a0o n v5.1.names x1.Name).bind fun v6=>
     (a3q n 1).bind fun v7=>
     (ix ex2.Coefs v6).bind fun _=>
     (setw v5.2.Pieces v6 v7).bind fun p1=>
     some (v5.1,(⟨p1⟩:Form))
    else
     bif x1.Op==11 then
      (ix x1.Args 0).bind fun ex4=>
      (a5i n v1.1 ex4).bind fun v8=>
      bif v8.2 then
       (ix x1.Args 1).bind fun ex5=>
       (minmax_maker_made n v8.1 ex5).bind fun v9=>
       some (v9.1,v9.2)
      else
       (ix x1.Args 2).bind fun ex6=>
       (minmax_maker_made n v8.1 ex6).bind fun v10=>
       some (v10.1,v10.2)
     else
      bif x1.Op==8 then
       (ix x1.Args 1).bind fun ex7=>
       (c2q n 1 ex7.N).bind fun v11=>
       (ix x1.Args 0).bind fun ex8=>
       (minmax_maker_made n v1.1 ex8).bind fun v12=>
       (a5m n v12.2 v11.1).bind fun v13=>
       some (v12.1,v13)
      else
       bif x1.Op==7 then
        (ix x1.Args 0).bind fun ex9=>
        (a4a n v1.1 ex9).bind fun v14=>
        bif v14.2==1 then
         (ix x1.Args 1).bind fun ex10=>
         (ix x1.Args 0).bind fun ex11=>
         (minmax_maker_made n v14.1 ex10).bind fun v15=>
         (a2o n v15.1 ex11).bind fun v16=>
         (a3r n v16.1 v15.2 v16.2).bind fun v17=>
         some (v17.1,v17.2)
        else
         (ix x1.Args 0).bind fun ex12=>
         (ix x1.Args 1).bind fun ex13=>
         (minmax_maker_made n v14.1 ex12).bind fun v18=>
         (a2o n v18.1 ex13).bind fun v19=>
         (a3r n v19.1 v18.2 v19.2).bind fun v20=>
         some (v20.1,v20.2)
       else
        (ix x1.Args 0).bind fun ex14=>
        (minmax_maker_made n v1.1 ex14).bind fun v21=>
        (ix x1.Args 1).bind fun ex15=>
        (minmax_maker_made n v21.1 ex15).bind fun v22=>
        (a5w n v22.1 x1.Op v21.2 v22.2).bind fun v23=>
        some (v23.1,v23.2)
theorem minmax_maker_made_s:type_of% @minmax_maker_made.eq_2:= @minmax_maker_made.eq_2
def a6p(n:Nat)(t1:Tariff)(names1:(List Bs))(f1:Facts):Option (Form×Int):=
 (a3v n t1 names1).bind fun v1=>
 bif v1 !=0 then
  some ((⟨[]⟩:Form),v1)
 else
  ((a3q n 0).bind fun v3=>
  (a2z n [v3] (names1.length:Int)).bind fun v4=>
  (a4l n (⟨[97],(⟨0,0,[],[]⟩:Expr),(-1)⟩:Tariff) names1 f1 v4).bind fun v5=>
  some v5.2).bind fun ex1=>
  bif ex1 !=0 then
   some ((⟨[]⟩:Form),ex1)
  else
   (minmax_maker_made n (⟨names1,f1,false⟩:maker) t1.Fee).bind fun v2=>
   bif v2.1.full then
    some ((⟨[]⟩:Form),6)
   else
    some (v2.2,0)
def b5f(n:Nat)(ax1:Affine)(weights1:(List Frac))(kont1:Int->(List Int)->Int->(List Int)->Option Frac):Nat->Int->Int->(List Int)->Int->(List Int)->Option Frac
 |0,_,_,_,_,_=>none
 |mx1+1,i1,f1,f2,f3,f4=>
  bif decide (i1<(ax1.Coefs.length:Int))then
   (ix ax1.Coefs i1).bind fun ex1=>
   ((ix weights1 i1).bind fun ex2=>
   (b3l n ex1 ex2).bind fun v2=>
   some (v2.1.P.Sign,v2.1.P.Digits,v2.1.Q.Sign,v2.1.Q.Digits)).bind fun(f9,f10,f11,f12)=>
   (b2i n (⟨(⟨f1,f2⟩:Big),(⟨f3,f4⟩:Big)⟩:Frac) (⟨(⟨f9,f10⟩:Big),(⟨f11,f12⟩:Big)⟩:Frac)).bind fun v1=>
   b5f n ax1 weights1 kont1 mx1 (iadd .i64 i1 1) v1.1.P.Sign v1.1.P.Digits v1.1.Q.Sign v1.1.Q.Digits
  else
   kont1 f1 f2 f3 f4
def b9g(n:Nat)(ax1:Affine)(weights1:(List Frac)):Option Frac:=
 b5f n ax1 weights1 (fun(f5:Int)(f6:(List Int))(f7:Int)(f8:(List Int))=>
  some (⟨(⟨f5,f6⟩:Big),(⟨f7,f8⟩:Big)⟩:Frac)) n 0 ax1.Const.P.Sign ax1.Const.P.Digits ax1.Const.Q.Sign ax1.Const.Q.Digits
def b4i(n:Nat)(x1:Frac):Option Bool:=
 (a2f n x1).bind fun v1=>
 some (!v1)
def b4s(n:Nat)(weights1:(List Frac))(l1:(List Affine))(kont2:Int->(List Int)->Int->(List Int)->Option (Frac×Bool)):Nat->Int->Int->(List Int)->Int->(List Int)->Option (Frac×Bool)
 |0,_,_,_,_,_=>none
 |mx2+1,i2,f18,f19,f20,f21=>
  bif decide (i2<(l1.length:Int))then
   (ix l1 i2).bind fun ex3=>
   (b9g n ex3 weights1).bind fun v6=>
   (b6n n (⟨(⟨f18,f19⟩:Big),(⟨f20,f21⟩:Big)⟩:Frac) v6).bind fun v7=>
   b4s n weights1 l1 kont2 mx2 (iadd .i64 i2 1) v7.1.P.Sign v7.1.P.Digits v7.1.Q.Sign v7.1.Q.Digits
  else
   kont2 f18 f19 f20 f21
def b2e(n:Nat)(f1:Form)(weights1:(List Frac))(kont1:Int->(List Int)->Int->(List Int)->Int->(List Int)->Int->(List Int)->Option (Frac×Bool)):Nat->Int->Int->(List Int)->Int->(List Int)->Int->(List Int)->Int->(List Int)->Option (Frac×Bool)
 |0,_,_,_,_,_,_,_,_,_=>none
 |mx1+1,i1,f2,f3,f4,f5,f6,f7,f8,f9=>
  bif decide (i1<(f1.Pieces.length:Int))then
   (ix f1.Pieces i1).bind fun ex1=>
   (ix ex1 0).bind fun ex2=>
   (b9g n ex2 weights1).bind fun v3=>
   (lsl ex1 1 ex1.length).bind fun l1=>
   b4s n weights1 l1 (fun(f22:Int)(f23:(List Int))(f24:Int)(f25:(List Int))=>
    (bif i1==0 then
     some true
    else
     (a7h n (⟨(⟨f22,f23⟩:Big),(⟨f24,f25⟩:Big)⟩:Frac) (⟨(⟨f2,f3⟩:Big),(⟨f4,f5⟩:Big)⟩:Frac)).bind fun v5=>
     some (decide (v5<0))).bind fun v4=>
    bif v4 then
     b2e n f1 weights1 kont1 mx1 (iadd .i64 i1 1) f22 f23 f24 f25 f6 f7 f8 f9
    else
     b2e n f1 weights1 kont1 mx1 (iadd .i64 i1 1) f2 f3 f4 f5 f6 f7 f8 f9) n 0 v3.P.Sign v3.P.Digits v3.Q.Sign v3.Q.Digits
  else
   kont1 f2 f3 f4 f5 f6 f7 f8 f9
def b2x(n:Nat)(f1:Form)(weights1:(List Frac)):Option (Frac×Bool):=
 (a0s n weights1 (b4i n)).bind fun v1=>
 (bif v1 then
  some true
 else
  (b5l n f1 (weights1.length:Int)).bind fun v8=>
  some (!v8)).bind fun v2=>
 bif v2 then
  some ((⟨(⟨0,[]⟩:Big),(⟨0,[]⟩:Big)⟩:Frac),false)
 else
  b2e n f1 weights1 (fun(f10:Int)(f11:(List Int))(f12:Int)(f13:(List Int))(_:Int)(_:(List Int))(_:Int)(_:(List Int))=>
   some ((⟨(⟨f10,f11⟩:Big),(⟨f12,f13⟩:Big)⟩:Frac),true)) n 0 0 [] 0 [] 0 [] 0 []
end Go.Proofs.YthaegflpecbfgaaGreatDoor.M
