/- Several texts in one, for FormConvex.card: what the theorem leans on. -/
import Derived.Test.YthaegflpecbfgaaGreatDoorRows
import Derived.Test.YthaegflpecbfgaaGreatDoorPz2
set_option maxHeartbeats 1000000
set_option maxRecDepth 1000000
namespace Go.Proofs.YthaegflpecbfgaaGreatDoor.M
open Go Go.RowKit Rt
set_option linter.unusedVariables false
structure reader where
 l:(List Token)
 at_:Int
 e:Int
 deriving DecidableEq,Inhabited
theorem fa149_2:a8p Tryz.prog 149 2 2:=fun _ _ _=>by kernel_rfl
theorem ag38:a8x Tryz.prog 38 false:=fun _=>by kernel_rfl
theorem fa149_0:a8p Tryz.prog 149 0 0:=fun _ _ _=>by kernel_rfl
theorem ag144:a8x Tryz.prog 144 false:=fun _=>by kernel_rfl
theorem fa149_1:a8p Tryz.prog 149 1 1:=fun _ _ _=>by kernel_rfl
theorem u144:Tryz.prog.underlying 144=some (.slice 152):=by kernel_rfl
def a4g(_n:Nat)(rx1:reader):Option (reader×Token):=
 (bif rx1.e !=0 then
  some true
 else
  some (rx1.at_==(rx1.l.length:Int))).bind fun v1=>
 bif v1 then
  some (rx1,(⟨4,[],0,0⟩:Token))
 else
  (ix rx1.l rx1.at_).bind fun ex1=>
  some (rx1,ex1)
theorem a5c(n:Nat)(rx1:reader)(r:(reader×Token))(hm:a4g n rx1=some r){w:World}{F:Frz}(hs:Sat F w){j:Option Addr}{k:Nat}{g:Nat}{brx1:Nat}(o:SlR rp_Token F j k g rx1.l)(hbrx1:(OE.box brx1 149 [.slice j k g,.int .i64 rx1.at_,.int .i64 rx1.e]).ok w)(hfrx1:F brx1=none):
 Calls Tryz.prog 188 #[.pointer (some ⟨brx1,0,none⟩)] w fun e w'=>∃v F' cs' O',e= .returned v/\HS F w [brx1] F' (.box brx1 149 cs'::O') w'/\(∃(al_0:Option Addr)(nl_0:Nat)(cl_0:Nat),v= .agg #[.int .i64 r.2.Kind,vs r.2.Text,.int .i64 r.2.N,.int .i64 r.2.Pos]/\cs'= [.slice al_0 nl_0 cl_0,.int .i64 r.1.at_,.int .i64 r.1.e]/\O'= []/\SlR rp_Token F' al_0 nl_0 cl_0 r.1.l):=by
 unfold a4g at hm
 have h:=HS.lend hs hbrx1 hfrx1
 refine a1v 31 Tryz.func188 Y Y Y (a0f (a0a (a2y ze152 Y Y Y h ?_)))
 intro b1 Q H
 refine a0e (a0d (a0f (a0f (b5i (by kernel_rfl) (by kernel_rfl) H (a2w Y Y Y Y (fun _ _ _ _=>a0b Y Y Y Yn) (d3o Y Y Y (a2w Y Y Y Y (fun _ _ _ _=>a0h fa149_2 Y Y Y Yn) (a2w Y Y Y Y (fun _ _ _ hq=>a1m ag38 Y Y hq Y (i:=1) Y Y Yn) (a2w Y Y Y Y (fun _ _ _ _=>a0n Y Y Y Y Y Yn) ?_)))))))))
 refine a2w Y Y Y Y (fun _ _ _ _=>a0b Y Y Y Yn) ?_
 obtain⟨v1,m,hm⟩:=Yb hm
 refine e2n 11 (fun a=>Has 31 a [(0,.pointer (some ⟨brx1,0,none⟩)),(2,.pointer (some ⟨b1,0,none⟩)),(19,.bool v1)]) ?_ ?_
 intro a G
 refine c5c G (d7x ?_)
 rintro R ⟨I,p,x⟩
 refine a0d ?_
 rcases a0g hm with⟨q,hm⟩|⟨q,hm⟩
 refine a0v 19 Y q (a1l Y (a0f (a0a (a4d (v:= .agg #[.int .i64 4,vs [],.int .i64 0,.int .i64 0]) Y Y Y (fun _=>by kernel_rfl) (a0o sz152 Y x Y Y Y Y (i:=0) Y Y Y Y ?_)))))
 intro T y
 refine a0e (a0d (a3b (a0l (b0x Y ag152 sz152 Y y Y (i:=0) Y ?_))))
 obtain rfl:=Yo hm
 exact⟨_,_,_,_,Y,y.Yp [1] Y Y,j,k,g,Y,Y,Y,(o.mono p)⟩
 refine a0v 19 Y q (a0q Y (a1y (a0d (a0f (a6u (SH I [.box brx1 149 [.slice j k g,.int .i64 rx1.at_,.int .i64 rx1.e]]) 11 Y (by kernel_rfl) x ?_)))))
 intro U z
 have S0:=z.Ys Yf [1] Y Y
 refine d_tk 0 Y (by kernel_rfl) Y Y Y Y S0 (fun _ _ _ _ _=>a0b Y Y Y Yn) (c7n 1 Y (by kernel_rfl) (by kernel_rfl) (by kernel_rfl) Y Y Y S0 (d_tk 2 Y (by kernel_rfl) Y Y Y Y S0 (fun _ _ _ _ _=>a0h fa149_0 Y Y Y Yn) (d_tk 3 Y (by kernel_rfl) Y Y Y Y S0 (fun _ _ _ _ hq=>a1m ag144 Y Y hq Y (i:=0) Y Y Yn) (d_tk 4 Y (by kernel_rfl) Y Y Y Y S0 (fun _ _ _ _ _=>a0b Y Y Y Yn) (c7n 5 Y (by kernel_rfl) (by kernel_rfl) (by kernel_rfl) Y Y Y S0 (d_tk 6 Y (by kernel_rfl) Y Y Y Y S0 (fun _ _ _ _ _=>a0h fa149_1 Y Y Y Yn) ?_))))))
 refine d_tk 7 Y (by kernel_rfl) Y Y Y Y S0 (fun _ _ _ _ hq=>a1m ag3 Y Y hq Y (i:=0) Y Y Yn) ?_
 obtain⟨ex1,J,hm⟩:=Yb hm
 obtain⟨b2,o1,g,K,L,u⟩:=b1e (P:=Tryz.prog) (r:=rp_Token) u144 sz152 (o.mono p) J
 have M:g= [.int .i64 ex1.Kind,vs ex1.Text,.int .i64 ex1.N,.int .i64 ex1.Pos]:=L
 subst M
 refine c6q 8 Y (by kernel_rfl) (by kernel_rfl) (by kernel_rfl) Y Y Y Y u S0 (d_tk 9 Y (by kernel_rfl) Y Y Y Y S0 (fun _ _ _ hleq hq=>d1u ag152 sz152 Y Y hq (K.mono hleq) Y Y Yn) (a1r 10 Y (by kernel_rfl) (a0o sz152 Y z Y Y Y Y (i:=0) Y Y Y Y ?_)))
 intro V s
 refine a0y (s.Ys Yf [1] Y Y) (a7x (by kernel_rfl) (a0d (a3b (b0x Y ag152 sz152 Y s Y (i:=0) Y ?_))))
 obtain rfl:=Yo hm
 exact⟨_,_,_,_,Y,s.Yp [1] Y Y,j,k,g,Y,Y,Y,(o.mono p)⟩
 clear hm
 rcases a0g m with⟨t,m⟩|⟨t,m⟩
 refine d0e 8 Y t (a4h Y Y Y (a4h Y Y Y (a4h Y Y Y (a4h Y Y Y (a4h Y Y Y (a4h Y Y Y (a4h Y Y Y (a4h Y Y Y (a4h Y Y Y (a4h Y Y Y (a2w Y Y Y Y (fun _ _ _ _=>a0m Y Y Y Y Yn) (c9f (fun a ha=> ?_)))))))))))))
 cases m
 exact ha.cut (l:= [0,2,19]) Y
 refine d0e 8 Y t (a2w Y Y Y Y (fun _ _ _ _=>a0b Y Y Y Yn) (d3o Y Y Y (a2w Y Y Y Y (fun _ _ _ _=>a0h fa149_1 Y Y Y Yn) (a2w Y Y Y Y (fun _ _ _ hq=>a1m ag3 Y Y hq Y (i:=1) Y Y Yn) (a2w Y Y Y Y (fun _ _ _ _=>a0b Y Y Y Yn) (d3o Y Y Y ?_))))))
 refine a2w Y Y Y Y (fun _ _ _ _=>a0h fa149_0 Y Y Y Yn) (a2w Y Y Y Y (fun _ _ _ hq=>a1m ag144 Y Y hq Y (i:=1) Y Y Yn) (a2w Y Y Y Y (fun _ _ _ _=>a6c o.len u144 Y Y Y Yn) (a2w Y Y Y Y (fun _ _ _ _=>a0n Y Y Y Y Y Yn) (a2w Y Y Y Y (fun _ _ _ _=>a0j Y Y Y Y Yn) (c9f (fun a ha=> ?_))))))
 cases m
 exact ha.cut (l:= [0,2,19]) Y
theorem sz38:SizeIs Tryz.prog 38 1:=fun _=>by kernel_rfl
def a3e(_n:Nat)(rx1:reader)(ex1:Int):Option reader:=
 bif rx1.e==0 then
  some (⟨rx1.l,rx1.at_,ex1⟩:reader)
 else
  some rx1
theorem a3i(n:Nat)(rx1:reader)(ex1:Int)(r:reader)(hm:a3e n rx1 ex1=some r){w:World}{F:Frz}(hs:Sat F w){g:Option Addr}{j:Nat}{k:Nat}{brx1:Nat}(o:SlR rp_Token F g j k rx1.l)(hbrx1:(OE.box brx1 149 [.slice g j k,.int .i64 rx1.at_,.int .i64 rx1.e]).ok w)(hfrx1:F brx1=none):
 Calls Tryz.prog 136 #[.pointer (some ⟨brx1,0,none⟩),.int .i64 ex1] w fun e w'=>∃v F' cs' O',e= .returned v/\HS F w [brx1] F' (.box brx1 149 cs'::O') w'/\(∃(al_0:Option Addr)(nl_0:Nat)(cl_0:Nat),v= .tuple #[]/\cs'= [.slice al_0 nl_0 cl_0,.int .i64 r.at_,.int .i64 r.e]/\O'= []/\SlR rp_Token F' al_0 nl_0 cl_0 r.l):=by
 unfold a3e at hm
 have h:=HS.lend hs hbrx1 hfrx1
 refine a1v 13 Tryz.func136 Y Y Y (a0f (a0a (a0b Y Y Y (a9p Y Y Y (a0h fa149_2 Y Y Y (a1m ag38 Y Y h Y (i:=0) Y Y (a0n Y Y Y Y Y (a0e (a0d ?_)))))))))
 rcases a0g hm with⟨m,hm⟩|⟨m,hm⟩
 refine a0v 8 Y m (a1l Y (a0a (a0b Y Y Y (a0b Y Y Y (a9p Y Y Y (a0h fa149_2 Y Y Y (a0o sz38 Y h Y Y Y Y (i:=0) Y Y Y Y ?_)))))))
 intro q p
 refine a0e (d6a Y ?_)
 obtain rfl:=Yo hm
 exact⟨_,_,_,_,Y,p.Yp [0] Y Y,g,j,k,Y,Y,Y,o⟩
 refine a0v 8 Y m (a0q Y (a1y (d6a Y ?_)))
 obtain rfl:=Yo hm
 exact⟨_,_,_,_,Y,h.Yp [0] Y Y,g,j,k,Y,Y,Y,o⟩
theorem ent188:Ent Tryz.prog 188:=fun _ _=>by kernel_rfl
theorem fa152_1:a8p Tryz.prog 152 1 1:=fun _ _ _=>by kernel_rfl
theorem fa152_0:a8p Tryz.prog 152 0 0:=fun _ _ _=>by kernel_rfl
def a8j(n:Nat)(rx1:reader)(s2:Bs):Option (reader×Bool):=
 (a4g n rx1).bind fun v1=>
 (bif v1.2.Text==s2 then
  (bif v1.2.Kind==0 then
   some true
  else
   some (v1.2.Kind==3)).bind fun v3=>
  some v3
 else
  some false).bind fun v2=>
 some (v1.1,v2)
theorem b1l(n:Nat)(rx1:reader)(s2:Bs)(r:(reader×Bool))(hm:a8j n rx1 s2=some r){w:World}{F:Frz}(hs:Sat F w){p:Option Addr}{q:Nat}{s:Nat}{brx1:Nat}(y:SlR rp_Token F p q s rx1.l)(hbrx1:(OE.box brx1 149 [.slice p q s,.int .i64 rx1.at_,.int .i64 rx1.e]).ok w)(hfrx1:F brx1=none):
 Calls Tryz.prog 135 #[.pointer (some ⟨brx1,0,none⟩),vs s2] w fun e w'=>∃v F' cs' O',e= .returned v/\HS F w [brx1] F' (.box brx1 149 cs'::O') w'/\(∃(al_0:Option Addr)(nl_0:Nat)(cl_0:Nat),v= .bool r.2/\cs'= [.slice al_0 nl_0 cl_0,.int .i64 r.1.at_,.int .i64 r.1.e]/\O'= []/\SlR rp_Token F' al_0 nl_0 cl_0 r.1.l):=by
 unfold a8j at hm
 have h:=HS.lend hs hbrx1 hfrx1
 refine a1v 22 Tryz.func135 Y Y Y (a0f (a0a (a0c Y Y Y (a0e (a0d (a0f (a0a (a0b Y Y Y ?_))))))))
 obtain⟨v1,z,hm⟩:=Yb hm
 refine a1q ent188 Y Y Y Y h (i:=0) Y (a5c _ _ _ z h.sat y (h.get (i:=0) Y) (h.lendable (i:=0) Y)) ?_
 rintro _ M _ _ N Q G ⟨H,I,J,rfl,rfl,rfl,K⟩
 refine a2y ze152 Y Y Y G ?_
 intro b1 R L
 refine a0o sz152 Y L Y Y Y Y (i:=0) Y Y Y Y ?_
 intro t k
 refine a0e (a0d (a0f (a0a (a0h fa152_1 Y Y Y (a1m ag9 Y Y k Y (i:=0) Y Y (a0b Y Y Y (b9x Y Y Y Y Y (a0b Y Y Y ?_))))))))
 obtain⟨v2,g,hm⟩:=Yb hm
 refine a6y 9 (fun a w'=>t=w'/\Has 22 a [(21,.bool v2)]) ?_ ?_
 rintro a T ⟨rfl,u⟩
 refine a1u u (a0c Y Y Y (a0e (a0d (a3b (a6z Y Y ?_)))))
 obtain rfl:=Yo hm
 exact⟨_,_,_,_,Y,k.Yp [1] Y Y,H,I,J,Y,Y,Y,K⟩
 clear hm
 rcases a0g g with⟨m,g⟩|⟨m,g⟩
 refine a2q 12 Y m (a0h fa152_0 Y Y Y (a1m ag3 Y Y k Y (i:=0) Y Y (a0n Y Y Y Y Y (a0b Y Y Y ?_))))
 obtain⟨v3,j,g⟩:=Yb g
 refine a6y 4 (fun a w'=>t=w'/\Has 22 a [(12,.bool true),(20,.bool v3)]) ?_ ?_
 rintro a U ⟨rfl,x⟩
 refine a1u x (a0m Y Y Y Y (a0e (a0k (fun a ha=> ?_))))
 cases g
 exact⟨Y,ha.cut (l:= [21]) Y⟩
 clear g
 rcases a0g j with⟨o,j⟩|⟨o,j⟩
 refine a2q 16 Y o (a0x Y (by decide) Y (a0x Y (by decide) Y (a0x Y (by decide) Y (a0m Y Y Y Y (a0e (a0k (fun a ha=> ?_)))))))
 cases j
 exact⟨Y,ha.cut (l:= [12,20]) Y⟩
 refine a2q 16 Y o (a0h fa152_0 Y Y Y (a1m ag3 Y Y k Y (i:=0) Y Y (a0n Y Y Y Y Y (a0j Y Y Y Y (a0e (a0k (fun a ha=> ?_)))))))
 cases j
 exact⟨Y,ha.cut (l:= [12,20]) Y⟩
 refine a2q 12 Y m (a0x Y (by decide) Y (a0x Y (by decide) Y (a0x Y (by decide) Y (a0x Y (by decide) Y (a0x Y (by decide) Y (a0x Y (by decide) Y (a0x Y (by decide) Y (a0x Y (by decide) Y (a0j Y Y Y Y (a0e (a0k (fun a ha=> ?_))))))))))))
 cases g
 exact⟨Y,ha.cut (l:= [21]) Y⟩
theorem ent135:Ent Tryz.prog 135:=fun _ _=>by kernel_rfl
def a3j(n:Nat)(rx1:reader)(s2:Bs):Option (reader×Bool):=
 (a8j n rx1 s2).bind fun v1=>
 (bif v1.2 then
  some (iadd .i64 v1.1.at_ 1)
 else
  some v1.1.at_).bind fun f1=>
 some ((⟨v1.1.l,f1,v1.1.e⟩:reader),v1.2)
theorem a4c(n:Nat)(rx1:reader)(s2:Bs)(r:(reader×Bool))(hm:a3j n rx1 s2=some r){w:World}{F:Frz}(hs:Sat F w){o:Option Addr}{p:Nat}{q:Nat}{brx1:Nat}(y:SlR rp_Token F o p q rx1.l)(hbrx1:(OE.box brx1 149 [.slice o p q,.int .i64 rx1.at_,.int .i64 rx1.e]).ok w)(hfrx1:F brx1=none):
 Calls Tryz.prog 137 #[.pointer (some ⟨brx1,0,none⟩),vs s2] w fun e w'=>∃v F' cs' O',e= .returned v/\HS F w [brx1] F' (.box brx1 149 cs'::O') w'/\(∃(al_0:Option Addr)(nl_0:Nat)(cl_0:Nat),v= .bool r.2/\cs'= [.slice al_0 nl_0 cl_0,.int .i64 r.1.at_,.int .i64 r.1.e]/\O'= []/\SlR rp_Token F' al_0 nl_0 cl_0 r.1.l):=by
 unfold a3j at hm
 have h:=HS.lend hs hbrx1 hfrx1
 refine a1v 18 Tryz.func137 Y Y Y (a0f (a0a (a0c Y Y Y (a0e (a0d (a0f (a0a (a0b Y Y Y (a0b Y Y Y ?_)))))))))
 obtain⟨v1,z,hm⟩:=Yb hm
 refine a1q ent135 Y Y Y Y h (i:=0) Y (b1l _ _ _ _ z h.sat y (h.get (i:=0) Y) (h.lendable (i:=0) Y)) ?_
 rintro _ G _ _ L M j ⟨s,t,u,rfl,rfl,rfl,H⟩
 refine a0c Y Y Y (a0e (a0d (a0f (a0f (a0a (a0b Y Y Y (a0e (a0d ?_))))))))
 obtain⟨f1,g,hm⟩:=Yb hm
 refine b5l (fun a w'=>∃(k:Frz),Frz.le G k/\HS F w [brx1] k [.box brx1 149 [.slice s t u,.int .i64 f1,.int .i64 v1.1.e]] w'/\Has 18 a [(5,.bool v1.2)]) ?_ ?_
 rintro a N ⟨k,I,J,x⟩
 refine a2a x (a0f (a0a (a0b Y Y Y (a0c Y Y Y (a0e (a0d (a3b (a6z Y Y ?_))))))))
 obtain rfl:=Yo hm
 exact⟨_,_,_,_,Y,J.Yp [0] Y Y,s,t,u,Y,Y,Y,(H.mono I)⟩
 clear hm
 rcases a0g g with⟨m,g⟩|⟨m,g⟩
 refine a0v 9 Y m (a1l Y (a0a (a0b Y Y Y (a9p Y Y Y (a0h fa149_1 Y Y Y (a1m ag3 Y Y j Y (i:=0) Y Y (a0n Y Y Y Y Y (a9p Y Y Y ?_))))))))
 refine a0h fa149_1 Y Y Y (a0o sz3 Y j Y Y Y Y (i:=0) Y Y Y Y ?_)
 intro Q K
 refine a0e (a0k (fun a ha=> ?_))
 cases g
 exact⟨_,Yf,K.Yp [0] Y Y,ha.cut (l:= [5]) Y⟩
 refine a0v 9 Y m (a0q Y (a1y (a0k (fun a ha=> ?_))))
 cases g
 exact⟨_,Yf,j.Yp [0] Y Y,ha.cut (l:= [5]) Y⟩
theorem ent137:Ent Tryz.prog 137:=fun _ _=>by kernel_rfl
theorem ent136:Ent Tryz.prog 136:=fun _ _=>by kernel_rfl
def tariff_reader_need_L1(n:Nat)(l1:(List Bs))(kont1:(List Token)->Int->Int->Option reader):Nat->Int->(List Token)->Int->Int->Option reader
 |0,_,_,_,_=>none
 |mx1+1,i1,f1,f2,f3=>
  bif decide (i1<(l1.length:Int))then
   (ix l1 i1).bind fun ex1=>
   (a3j n (⟨f1,f2,f3⟩:reader) ex1).bind fun v1=>
   bif !v1.2 then
    (a3e n v1.1 12).bind fun v2=>
    tariff_reader_need_L1 n l1 kont1 mx1 (iadd .i64 i1 1) v2.l v2.at_ v2.e
   else
    tariff_reader_need_L1 n l1 kont1 mx1 (iadd .i64 i1 1) v1.1.l v1.1.at_ v1.1.e
  else
   kont1 f1 f2 f3
theorem tariff_reader_need_L1_s:type_of% @tariff_reader_need_L1.eq_2:= @tariff_reader_need_L1.eq_2
def a1c(n:Nat)(rx1:reader)(l1:(List Bs)):Option reader:=
 tariff_reader_need_L1 n l1 (fun(f4:(List Token))(f5:Int)(f6:Int)=>
  some (⟨f4,f5,f6⟩:reader)) n 0 rx1.l rx1.at_ rx1.e
theorem a0w(n:Nat)(rx1:reader)(l1:(List Bs))(r:reader)(hm:a1c n rx1 l1=some r){w:World}{F:Frz}(hs:Sat F w){J:Option Addr}{L:Nat}{k:Nat}{brx1:Nat}{M:Option Addr}{N:Nat}{Q:Nat}(g4:SlR rp_Token F J L k rx1.l)(hbrx1:(OE.box brx1 149 [.slice J L k,.int .i64 rx1.at_,.int .i64 rx1.e]).ok w)(hfrx1:F brx1=none)(U:SlR Rp.str F M N Q l1):
 Calls Tryz.prog 132 #[.pointer (some ⟨brx1,0,none⟩),.slice M N Q] w fun e w'=>∃v F' cs' O',e= .returned v/\HS F w [brx1] F' (.box brx1 149 cs'::O') w'/\(∃(al_0:Option Addr)(nl_0:Nat)(cl_0:Nat),v= .tuple #[]/\cs'= [.slice al_0 nl_0 cl_0,.int .i64 r.at_,.int .i64 r.e]/\O'= []/\SlR rp_Token F' al_0 nl_0 cl_0 r.l):=by
 unfold a1c at hm
 have h:=HS.lend hs hbrx1 hfrx1
 refine a1v 19 Tryz.func132 Y Y Y (a0f (a0a (a0b Y Y Y (a6c U.len u27 Y Y Y (a0b Y Y Y (a0e (a0d (a2c ?_))))))))
 intro a g1
 obtain⟨kont1,hkont1⟩:∃kont1:(List Token)->Int->Int->Option reader,kont1=(fun(f4:(List Token))(f5:Int)(f6:Int)=>some (⟨f4,f5,f6⟩:reader)):=⟨_,Y⟩
 replace hm:(fun m(s:Int×(List Token)×Int×Int)=>tariff_reader_need_L1 n l1 kont1 m s.1 s.2.1 s.2.2.1 s.2.2.2) n (0,rx1.l,rx1.at_,rx1.e)=some r:=by rw [hkont1];exact hm
 refine b5h (id:=0) (fun m(s:Int×(List Token)×Int×Int)=>tariff_reader_need_L1 n l1 kont1 m s.1 s.2.1 s.2.2.1 s.2.2.2) (fun(y:(List Token)×Int×Int)=>kont1 y.1 y.2.1 y.2.2) r (fun(s:Int×(List Token)×Int×Int)a w'=>∃(p:Frz)(q:Option Addr)(t:Nat)(u:Nat),Frz.le F p/\HS F w [brx1] p [.box brx1 149 [.slice q t u,.int .i64 s.2.2.1,.int .i64 s.2.2.2]] w'/\(SlR rp_Token p q t u s.2.1)/\Has 19 a [(0,.pointer (some ⟨brx1,0,none⟩)),(6,.slice M N Q),(7,.int .i64 (l1.length:Int)),(8,.int .i64 s.1)]) (fun(y:(List Token)×Int×Int)a w'=>∃(x:Frz)(z:Option Addr)(G:Nat)(H:Nat),Frz.le F x/\HS F w [brx1] x [.box brx1 149 [.slice z G H,.int .i64 y.2.1,.int .i64 y.2.2]] w'/\(SlR rp_Token x z G H y.1)/\Has 19 a []) (fun _=>Y) ?_ ?_ hm ⟨_,J,L,k,Yf,h.Yp [0] Y Y,g4,g1.cut (l:= [0,6,7,8]) Y⟩
 clear hm;rintro⟨f4,f5,f6⟩ a gm hm ⟨x,z,G,H,gn,g5,g6,g2⟩
 rw [hkont1]at hm
 replace hm:=hm
 refine a5a (e:= .exit 0) g2 (a2m (d6a Y ?_))
 obtain rfl:=Yo hm
 exact⟨_,_,_,_,Y,g5.Yp [0] Y Y,z,G,H,Y,Y,Y,g6⟩
 clear hm hkont1;intro hk1 mx1 K ihx1
 rintro⟨i1,f1,f2,f3⟩ a go hm ⟨p,q,t,u,I,g,V,g3⟩
 simp only [tariff_reader_need_L1_s]at hm
 refine a2a g3 (a0f (a0a (a0n Y Y Y Y Y (a0e (a0d (a0f ?_))))))
 rcases a0g hm with⟨R,hm⟩|⟨R,hm⟩
 refine a0v 9 Y R (a1l Y (a1y (a0d (a0f (a2c (a0f (a0a ?_)))))))
 obtain⟨ex1,g7,hm⟩:=Yb hm
 refine a9j (r:=Rp.str) u27 sz9 Y Y Y Y (U.mono I) g7 ?_
 intro b1 o1 k g8 g9
 have ga:k= [vs ex1]:=g9
 subst ga
 refine a6k (j:=0) ag9 Y Y g g8 Y Y (a0c Y Y Y (a0e (a0d (a0f (a0a (a0b Y Y Y (a0b Y Y Y ?_)))))))
 obtain⟨v1,gb,hm⟩:=Yb hm
 refine a1q ent137 Y Y Y Y g (i:=0) Y (a4c _ _ _ _ gb g.sat V (g.get (i:=0) Y) (g.lendable (i:=0) Y)) ?_
 rintro _ gp _ _ gq Z o ⟨gc,gd,ge,rfl,rfl,rfl,g0⟩
 refine c3x Y Y Y (a0e (a0d ?_))
 rcases a0g hm with⟨T,hm⟩|⟨T,hm⟩
 refine a0v 15 Y T (a1l Y (a0a (a0b Y Y Y ?_)))
 obtain⟨v2,gf,hm⟩:=Yb hm
 refine a1q ent136 Y Y Y Y o (i:=0) Y (a3i _ _ _ _ gf o.sat g0 (o.get (i:=0) Y) (o.lendable (i:=0) Y)) ?_
 rintro _ gr _ _ gs gg gh ⟨gi,gj,gk,rfl,rfl,rfl,gl⟩
 refine a0e (a3v (a0d (a0a (a0n Y Y Y Y Y (a0b Y Y Y (a0e (a0k (fun a ha=>ihx1 ((iadd .i64 i1 1),v2.l,v2.at_,v2.e) a _ hm ?_))))))))
 exact⟨_,gi,gj,gk,((I.trans Z).trans gg),gh.Yp [0] Y Y,gl,ha.cut (l:= [0,6,7,8]) Y⟩
 refine a0v 15 Y T (a0q Y (a1y (a3v (a0d (a0a (a0n Y Y Y Y Y (a0b Y Y Y (a0e (a0k (fun a ha=>ihx1 ((iadd .i64 i1 1),v1.1.l,v1.1.at_,v1.1.e) a _ hm ?_))))))))))
 exact⟨_,gc,gd,ge,(I.trans Z),o.Yp [0] Y Y,g0,ha.cut (l:= [0,6,7,8]) Y⟩
 refine a0v 9 Y R (a0q Y (a9q (a0p (a0p (fun a ha=>hk1 (f1,f2,f3) a _ hm ?_)))))
 exact⟨_,q,t,u,I,g.Yp [0] Y Y,V,ha.cut (l:= []) Y⟩
def a5x(n:Nat)(rx1:reader)(kind1:Int):Option (reader×Token):=
 (a4g n rx1).bind fun v1=>
 bif v1.2.Kind !=kind1 then
  (a3e n v1.1 12).bind fun v2=>
  some (v2,(⟨0,[],0,0⟩:Token))
 else
  some ((⟨v1.1.l,iadd .i64 v1.1.at_ 1,v1.1.e⟩:reader),v1.2)
theorem a8a(n:Nat)(rx1:reader)(kind1:Int)(r:(reader×Token))(hm:a5x n rx1 kind1=some r){w:World}{F:Frz}(hs:Sat F w){m:Option Addr}{o:Nat}{p:Nat}{brx1:Nat}(x:SlR rp_Token F m o p rx1.l)(hbrx1:(OE.box brx1 149 [.slice m o p,.int .i64 rx1.at_,.int .i64 rx1.e]).ok w)(hfrx1:F brx1=none):
 Calls Tryz.prog 133 #[.pointer (some ⟨brx1,0,none⟩),.int .i64 kind1] w fun e w'=>∃v F' cs' O',e= .returned v/\HS F w [brx1] F' (.box brx1 149 cs'::O') w'/\(∃(al_0:Option Addr)(nl_0:Nat)(cl_0:Nat),v= .agg #[.int .i64 r.2.Kind,vs r.2.Text,.int .i64 r.2.N,.int .i64 r.2.Pos]/\cs'= [.slice al_0 nl_0 cl_0,.int .i64 r.1.at_,.int .i64 r.1.e]/\O'= []/\SlR rp_Token F' al_0 nl_0 cl_0 r.1.l):=by
 unfold a5x at hm
 have h:=HS.lend hs hbrx1 hfrx1
 refine a1v 23 Tryz.func133 Y Y Y (a0f (a0a (a2y ze152 Y Y Y h ?_)))
 intro b1 U j
 refine a0e (a0d (a0f (a0a (a0b Y Y Y ?_))))
 obtain⟨v1,y,hm⟩:=Yb hm
 refine a1q ent188 Y Y Y Y j (i:=1) Y (a5c _ _ _ y j.sat x (j.get (i:=1) Y) (j.lendable (i:=1) Y)) ?_
 rintro _ V _ _ Z g0 z ⟨G,H,I,rfl,rfl,rfl,q⟩
 refine a2y ze152 Y Y Y z ?_
 intro b2 g1 J
 refine a0o sz152 Y J Y Y Y Y (i:=0) Y Y Y Y ?_
 intro g2 g
 refine a0e (a0d (a0f (a0f (a0a (a0h fa152_0 Y Y Y (a1m ag3 Y Y g Y (i:=0) Y Y (a0b Y Y Y (a0n Y Y Y Y Y (a0e (a0d ?_))))))))))
 rcases a0g hm with⟨k,hm⟩|⟨k,hm⟩
 refine a0v 11 Y k (a1l Y (a0f (a0a (a0b Y Y Y ?_))))
 obtain⟨v2,K,hm⟩:=Yb hm
 refine a1q ent136 Y Y Y Y g (i:=2) Y (a3i _ _ _ _ K g.sat q (g.get (i:=2) Y) (g.lendable (i:=2) Y)) ?_
 rintro _ g3 _ _ g4 g5 L ⟨M,Q,R,rfl,rfl,rfl,T⟩
 refine a0e (a0d (a0f (a0a (a4d (v:= .agg #[.int .i64 0,vs [],.int .i64 0,.int .i64 0]) Y Y Y (fun _=>by kernel_rfl) (a0o sz152 Y L Y Y Y Y (i:=1) Y Y Y Y ?_)))))
 intro g6 s
 refine a0e (a0d (a3b (a0l (b0x Y ag152 sz152 Y s Y (i:=1) Y ?_))))
 obtain rfl:=Yo hm
 exact⟨_,_,_,_,Y,s.Yp [2] Y Y,M,Q,R,Y,Y,Y,T⟩
 refine a0v 11 Y k (a0q Y (a1y (a0d (a0f (a0a (a0b Y Y Y (a9p Y Y Y (a0h fa149_1 Y Y Y (a1m ag3 Y Y g Y (i:=2) Y Y (a0n Y Y Y Y Y (a9p Y Y Y ?_)))))))))))
 refine a0h fa149_1 Y Y Y (a0o sz3 Y g Y Y Y Y (i:=2) Y Y Y Y ?_)
 intro g7 t
 refine a0e (a0d (a0f (a0a (a5b ag152 sz152 Y Y t Y (i:=0) Y Y (a0o sz152 Y t Y Y Y Y (i:=1) Y Y Y Y ?_)))))
 intro g8 u
 refine a0e (a0d (a3b (b0x Y ag152 sz152 Y u Y (i:=1) Y ?_)))
 obtain rfl:=Yo hm
 exact⟨_,_,_,_,Y,u.Yp [2] Y Y,G,H,I,Y,Y,Y,q⟩
theorem key9:KeyIs Tryz.prog 9 (K:=Bs) vs .string:=KeyIs.str (by kernel_rfl)
theorem um193:Tryz.prog.underlying 193=some (.map 9 3):=by kernel_rfl
def b0s(_n:Nat):Option (List (Bs×Int)):=
 some (mput (mput (mput (mput (mput (mput (mput (mput ([]:(List (Bs×Int))) [43] 5) [45] 6) [42] 7) [47] 8) [60] 12) [61] 13) [97,110,100] 15) [111,114] 16)
theorem b6y(n:Nat)(r:(List (Bs×Int)))(hm:b0s n=some r){w:World}{F:Frz}(hs:Sat F w):
 Calls Tryz.prog 190 #[] w fun e w'=>∃v F' O',e= .returned v/\HS F w [] F' O' w'/\(∃(b0_0:Nat)(es0_0:List MapEntry)(cl0_0:Nat),v= .map (some b0_0)/\O'= [.mp b0_0 es0_0 cl0_0]/\MpR vs (Value.int .i64) es0_0 r):=by
 unfold b0s at hm
 have h:=HS.init hs
 refine a1v 3 Tryz.func190 Y Y Y (a0f (a0a (a0c Y Y Y (a0e (a0d (a0f (a0a (d5o Y Y h ?_))))))))
 intro b1 L g
 refine b2m (l:=([]:(List (Bs×Int)))) (k:= [43]) (v:=5) (i:=0) (.inl Y) key9 um193 Y g Y Y Y Y (show MpR vs (Value.int .i64) [] ([]:(List (Bs×Int)))from trivial) ?_
 intro M es1 cl1 j m
 refine b2m (l:=(mput ([]:(List (Bs×Int))) [43] 5)) (k:= [45]) (v:=6) (i:=0) (.inl Y) key9 um193 Y j Y Y Y Y m ?_
 intro N es2 cl2 o p
 refine b2m (l:=(mput (mput ([]:(List (Bs×Int))) [43] 5) [45] 6)) (k:= [42]) (v:=7) (i:=0) (.inl Y) key9 um193 Y o Y Y Y Y p ?_
 intro Q es3 cl3 q s
 refine b2m (l:=(mput (mput (mput ([]:(List (Bs×Int))) [43] 5) [45] 6) [42] 7)) (k:= [47]) (v:=8) (i:=0) (.inl Y) key9 um193 Y q Y Y Y Y s ?_
 intro R es4 cl4 t u
 refine b2m (l:=(mput (mput (mput (mput ([]:(List (Bs×Int))) [43] 5) [45] 6) [42] 7) [47] 8)) (k:= [60]) (v:=12) (i:=0) (.inl Y) key9 um193 Y t Y Y Y Y u ?_
 intro T es5 cl5 x y
 refine b2m (l:=(mput (mput (mput (mput (mput ([]:(List (Bs×Int))) [43] 5) [45] 6) [42] 7) [47] 8) [60] 12)) (k:= [61]) (v:=13) (i:=0) (.inl Y) key9 um193 Y x Y Y Y Y y ?_
 intro U es6 cl6 z G
 refine b2m (l:=(mput (mput (mput (mput (mput (mput ([]:(List (Bs×Int))) [43] 5) [45] 6) [42] 7) [47] 8) [60] 12) [61] 13)) (k:= [97,110,100]) (v:=15) (i:=0) (.inl Y) key9 um193 Y z Y Y Y Y G ?_
 intro V es7 cl7 H I
 refine b2m (l:=(mput (mput (mput (mput (mput (mput (mput ([]:(List (Bs×Int))) [43] 5) [45] 6) [42] 7) [47] 8) [60] 12) [61] 13) [97,110,100] 15)) (k:= [111,114]) (v:=16) (i:=0) (.inl Y) key9 um193 Y H Y Y Y Y I ?_
 intro Z es8 cl8 J K
 refine a0b Y Y Y (a0c Y Y Y (a0e (a0d (a3b (a6z Y Y ?_)))))
 obtain rfl:=Yo hm
 exact⟨_,_,_,Y,J.Yp [0] Y Y,b1,es8,cl8,Y,Y,K⟩
theorem ent189:Ent Tryz.prog 189:=fun _ _=>by kernel_rfl
theorem ent132:Ent Tryz.prog 132:=fun _ _=>by kernel_rfl
theorem ent190:Ent Tryz.prog 190:=fun _ _=>by kernel_rfl
theorem zv3:∀w,(zeroValue 3).run Tryz.prog w= .ok ((Value.int .i64) 0) w:=fun _=>by kernel_rfl
theorem fa152_2:a8p Tryz.prog 152 2 2:=fun _ _ _=>by kernel_rfl
theorem ent134:Ent Tryz.prog 134:=fun _ _=>by kernel_rfl
theorem ent133:Ent Tryz.prog 133:=fun _ _=>by kernel_rfl
theorem ap22:AppIs Tryz.prog 22 24 4 56:=AppIs.of (z:= .agg #[.int .i64 0,.int .i64 0,vs [],.slice none 0 0]) (by kernel_rfl) (by kernel_rfl) rfl (by decide) (by decide)
theorem sz22:SizeIs Tryz.prog 22 1:=fun _=>by kernel_rfl
mutual
def tariff_reader_expr:Nat->reader->Option (reader×Expr)
 |0,_=>none
 |n+1,rx1=>
  (a3j n rx1 [110,111,116]).bind fun v1=>
  bif v1.2 then
   (tariff_reader_atom n v1.1).bind fun v2=>
   some (v2.1,(⟨14,0,[],[v2.2]⟩:Expr))
  else
   (a3j n v1.1 [105,102]).bind fun v3=>
   bif v3.2 then
    (tariff_reader_atom n v3.1).bind fun v4=>
    (a1c n v4.1 [[116,104,101,110]]).bind fun v5=>
    (tariff_reader_atom n v5).bind fun v6=>
    (a1c n v6.1 [[101,108,115,101]]).bind fun v7=>
    (tariff_reader_atom n v7).bind fun v8=>
    some (v8.1,(⟨11,0,[],[v4.2,v6.2,v8.2]⟩:Expr))
   else
    (tariff_reader_atom n v3.1).bind fun v9=>
    (a4g n v9.1).bind fun v10=>
    (b0s n).bind fun v11=>
    (bif !((mget v11 v10.2.Text).isSome)then
     some (true,v10.1.l,v10.1.at_,v10.1.e)
    else
     (a3j n v10.1 v10.2.Text).bind fun v14=>
     some (!v14.2,v14.1.l,v14.1.at_,v14.1.e)).bind fun(v12,f1,f2,f3)=>
    bif v12 then
     some ((⟨f1,f2,f3⟩:reader),v9.2)
    else
     (tariff_reader_atom n (⟨f1,f2,f3⟩:reader)).bind fun v13=>
     some (v13.1,(⟨(mget v11 v10.2.Text).getD 0,0,[],[v9.2,v13.2]⟩:Expr))
def tariff_reader_atom:Nat->reader->Option (reader×Expr)
 |0,_=>none
 |n+1,rx1=>
  (a4g n rx1).bind fun v1=>
  bif v1.2.Kind==1 then
   some ((⟨v1.1.l,iadd .i64 v1.1.at_ 1,v1.1.e⟩:reader),(⟨0,v1.2.N,[],[]⟩:Expr))
  else
   (bif v1.2.Kind !=0 then
    some (v1.2.Kind !=3)
   else
    some false).bind fun v2=>
   bif v2 then
    (a3e n v1.1 12).bind fun v3=>
    some (v3,(⟨0,0,[],[]⟩:Expr))
   else
    bif v1.2.Text== [40]then
     (tariff_reader_expr n (⟨v1.1.l,iadd .i64 v1.1.at_ 1,v1.1.e⟩:reader)).bind fun v4=>
     (a1c n v4.1 [[41]]).bind fun v5=>
     some (v5,v4.2)
    else
     bif v1.2.Text== [112,101,114,115,111,110,115]then
      some ((⟨v1.1.l,iadd .i64 v1.1.at_ 1,v1.1.e⟩:reader),(⟨2,0,[],[]⟩:Expr))
     else
      bif v1.2.Text== [102,108,97,116,115]then
       some ((⟨v1.1.l,iadd .i64 v1.1.at_ 1,v1.1.e⟩:reader),(⟨3,0,[],[]⟩:Expr))
      else
       (bif v1.2.Text== [108,105,102,116,115]then
        some true
       else
        some (v1.2.Text== [119,101,105,103,104,116])).bind fun v6=>
       bif v6 then
        (bif v1.2.Text== [119,101,105,103,104,116]then
         some 4
        else
         some 1).bind fun f1=>
        (a1c n (⟨v1.1.l,iadd .i64 v1.1.at_ 1,v1.1.e⟩:reader) [[40]]).bind fun v7=>
        (a5x n v7 0).bind fun v8=>
        (a1c n v8.1 [[41]]).bind fun v9=>
        some (v9,(⟨f1,0,v8.2.Text,[]⟩:Expr))
       else
        (bif v1.2.Text== [109,105,110]then
         some true
        else
         some (v1.2.Text== [109,97,120])).bind fun v10=>
        bif v10 then
         (bif v1.2.Text== [109,97,120]then
          some 10
         else
          some 9).bind fun f2=>
         (a1c n (⟨v1.1.l,iadd .i64 v1.1.at_ 1,v1.1.e⟩:reader) [[40]]).bind fun v11=>
         ((tariff_reader_expr n v11).bind fun v15=>
         (app 56 ([]:List Expr) [v15.2]).bind fun l4=>
         some (l4,v15.1.l,v15.1.at_,v15.1.e)).bind fun(l1,f3,f4,f5)=>
         (a1c n (⟨f3,f4,f5⟩:reader) [[44]]).bind fun v12=>
         ((tariff_reader_expr n v12).bind fun v14=>
         (app 56 l1 [v14.2]).bind fun l3=>
         some (l3,v14.1.l,v14.1.at_,v14.1.e)).bind fun(l2,f6,f7,f8)=>
         (a1c n (⟨f6,f7,f8⟩:reader) [[41]]).bind fun v13=>
         some (v13,(⟨f2,0,[],l2⟩:Expr))
        else
         (a3e n (⟨v1.1.l,isub .i64 (iadd .i64 v1.1.at_ 1) 1,v1.1.e⟩:reader) 12).bind fun v16=>
         some (v16,(⟨0,0,[],[]⟩:Expr))
 end
theorem tariff_reader_expr_s:type_of% @tariff_reader_expr.eq_2:= @tariff_reader_expr.eq_2
theorem tariff_reader_atom_s:type_of% @tariff_reader_atom.eq_2:= @tariff_reader_atom.eq_2
theorem b4o(n:Nat):(∀(rx1:reader)(r:(reader×Expr))(_:tariff_reader_expr n rx1=some r){w:World}{F:Frz}(_:Sat F w){h7:Option Addr}{h8:Nat}{h9:Nat}{brx1:Nat}(_:SlR rp_Token F h7 h8 h9 rx1.l)(_:(OE.box brx1 149 [.slice h7 h8 h9,.int .i64 rx1.at_,.int .i64 rx1.e]).ok w)(_:F brx1=none),Calls Tryz.prog 134 #[.pointer (some ⟨brx1,0,none⟩)] w fun e w'=>∃v F' cs' O',e= .returned v/\HS F w [brx1] F' (.box brx1 149 cs'::O') w'/\(∃(al_0:Option Addr)(nl_0:Nat)(cl_0:Nat)(a0_3:Option Addr)(n0_3:Nat)(c0_3:Nat),v= .agg #[.int .i64 r.2.Op,.int .i64 r.2.N,vs r.2.Name,.slice a0_3 n0_3 c0_3]/\cs'= [.slice al_0 nl_0 cl_0,.int .i64 r.1.at_,.int .i64 r.1.e]/\O'= []/\SlR rp_Token F' al_0 nl_0 cl_0 r.1.l/\SlR rp_Expr F' a0_3 n0_3 c0_3 r.2.Args))/\
 (∀(rx1:reader)(r:(reader×Expr))(_:tariff_reader_atom n rx1=some r){w:World}{F:Frz}(_:Sat F w){h7:Option Addr}{h8:Nat}{h9:Nat}{brx1:Nat}(_:SlR rp_Token F h7 h8 h9 rx1.l)(_:(OE.box brx1 149 [.slice h7 h8 h9,.int .i64 rx1.at_,.int .i64 rx1.e]).ok w)(_:F brx1=none),Calls Tryz.prog 189 #[.pointer (some ⟨brx1,0,none⟩)] w fun e w'=>∃v F' cs' O',e= .returned v/\HS F w [brx1] F' (.box brx1 149 cs'::O') w'/\(∃(al_0:Option Addr)(nl_0:Nat)(cl_0:Nat)(a0_3:Option Addr)(n0_3:Nat)(c0_3:Nat),v= .agg #[.int .i64 r.2.Op,.int .i64 r.2.N,vs r.2.Name,.slice a0_3 n0_3 c0_3]/\cs'= [.slice al_0 nl_0 cl_0,.int .i64 r.1.at_,.int .i64 r.1.e]/\O'= []/\SlR rp_Token F' al_0 nl_0 cl_0 r.1.l/\SlR rp_Expr F' a0_3 n0_3 c0_3 r.2.Args)):=by
 induction n with
 |zero=>
  refine⟨?_,?_⟩
  intro rx1 r hm
  exact absurd (show(none:Option (reader×Expr))=some r from hm) (by simp)
  intro rx1 r hm
  exact absurd (show(none:Option (reader×Expr))=some r from hm) (by simp)
 |succ n ih=>
  refine⟨?_,?_⟩
  intro rx1 r hm w F hs h7 h8 h9 brx1 k6 hbrx1 hfrx1
  rw [tariff_reader_expr_s]at hm
  have h:=HS.lend hs hbrx1 hfrx1
  refine a1v 62 Tryz.func134 Y Y Y (a0f (a0a (a2y ze24 Y Y Y h ?_)))
  intro b1 o7 gt
  refine a0e (a0d (a0f (a2c (a0f (a0a (a0b Y Y Y ?_))))))
  obtain⟨v1,k7,hm⟩:=Yb hm
  refine a1q ent137 Y Y Y Y gt (i:=1) Y (a4c _ _ _ _ k7 gt.sat k6 (gt.get (i:=1) Y) (gt.lendable (i:=1) Y)) ?_
  rintro _ k8 _ _ o8 o9 gf ⟨i0,i1,i2,rfl,rfl,rfl,g3⟩
  refine a0c Y Y Y (a0e (a0d ?_))
  rcases a0g hm with⟨hb,hm⟩|⟨hb,hm⟩
  refine a0v 9 Y hb (a1l Y (a0f (a0a (a0b Y Y Y ?_))))
  obtain⟨v2,k9,hm⟩:=Yb hm
  refine a1q ent189 Y Y Y Y gf (i:=1) Y (ih.2 _ _ k9 gf.sat g3 (gf.get (i:=1) Y) (gf.lendable (i:=1) Y)) ?_
  rintro _ lb _ _ oa ob ka ⟨kb,kc,kd,jy,jz,k0,rfl,rfl,rfl,ke,kf⟩
  refine a0i (e:=24) (cs:= [.int .i64 v2.2.Op,.int .i64 v2.2.N,vs v2.2.Name,.slice jy jz k0]) (q:=4) Y Y ka Y (fun _=>by kernel_rfl) Y Y ?_
  intro b2 lc Z
  obtain⟨ld,lf,k1,hsx1⟩:=a4y Z (k:=2) rfl (i:=0) Y (by decide) ((show RowN rp_Expr lb 1 [.int .i64 v2.2.Op,.int .i64 v2.2.N,vs v2.2.Name,.slice jy jz k0] [v2.2]from⟨Y,⟨_,_,Y,(a6j.2 ⟨jy,jz,k0,Y,kf⟩),(Y:RowR rp_Expr _ [] [])⟩⟩))
  refine a4d (v:= .agg #[.int .i64 14,.int .i64 0,vs [],.slice (some ⟨b2,0,none⟩) 1 1]) Y Y Y (fun _=>by kernel_rfl) (a0o sz24 Y k1 Y Y Y Y (i:=0) Y Y Y Y ?_)
  intro oc j6
  refine a0e (a0d (a3b (a1e (a0l (b0x Y ag24 sz24 Y j6 Y (i:=0) Y ?_)))))
  obtain rfl:=Yo hm
  exact⟨_,_,_,_,Y,j6.Yp [1] Y Y,kb,kc,kd,(some ⟨b2,0,none⟩),1,1,Y,Y,Y,(ke.mono lf),hsx1⟩
  refine a0v 9 Y hb (a0q Y (a0f (a0a (a0b Y Y Y ?_))))
  obtain⟨v3,kg,hm⟩:=Yb hm
  refine a1q ent137 Y Y Y Y gf (i:=1) Y (a4c _ _ _ _ kg gf.sat g3 (gf.get (i:=1) Y) (gf.lendable (i:=1) Y)) ?_
  rintro _ od _ _ oe kh gg ⟨lg,lh,li,rfl,rfl,rfl,k2⟩
  refine a0c Y Y Y (a0e (a0d ?_))
  rcases a0g hm with⟨gu,hm⟩|⟨gu,hm⟩
  refine a0v 16 Y gu (a1l Y (a0f (a0a (a0b Y Y Y ?_))))
  obtain⟨v4,ki,hm⟩:=Yb hm
  refine a1q ent189 Y Y Y Y gg (i:=1) Y (ih.2 _ _ ki gg.sat k2 (gg.get (i:=1) Y) (gg.lendable (i:=1) Y)) ?_
  rintro _ lj _ _ of lk k3 ⟨ll,lm,ln,j7,j8,j9,rfl,rfl,rfl,kj,kk⟩
  refine a2y ze24 Y Y Y k3 ?_
  intro b3 og g0
  refine a0o sz24 Y g0 Y Y Y Y (i:=0) Y Y Y Y ?_
  intro oh jf
  refine a0e (a0d (a0f (a0a (a0b Y Y Y (a0i (e:=9) (cs:= [vs [116,104,101,110]]) (q:=1) Y Y jf Y (fun _=>by kernel_rfl) Y Y ?_)))))
  intro b4 jg jh
  obtain⟨ja,k4,gv,hsx2⟩:=a4y jh (k:=3) rfl (i:=0) Y (by decide) ((show RowN Rp.str lj 1 [vs [116,104,101,110]] [[116,104,101,110]]from⟨Y,⟨_,_,Y,Y,(Y:RowR Rp.str _ [] [])⟩⟩))
  obtain⟨v5,kl,hm⟩:=Yb hm
  refine a1q ent132 Y Y Y Y gv (i:=2) Y (a0w _ _ _ _ kl gv.sat (kj.mono k4) (gv.get (i:=2) Y) (gv.lendable (i:=2) Y) hsx2) ?_
  rintro _ oi _ _ lu km gw ⟨oj,ol,om,rfl,rfl,rfl,kn⟩
  refine a0e (a0d (a0f (a0a (a0b Y Y Y ?_))))
  obtain⟨v6,ko,hm⟩:=Yb hm
  refine a1q ent189 Y Y Y Y gw (i:=2) Y (ih.2 _ _ ko gw.sat kn (gw.get (i:=2) Y) (gw.lendable (i:=2) Y)) ?_
  rintro _ lo _ _ lv lp gx ⟨lq,lr,ls,hc,hd,he,rfl,rfl,rfl,kp,i3⟩
  refine a2y ze24 Y Y Y gx ?_
  intro b5 lw i4
  refine a0o sz24 Y i4 Y Y Y Y (i:=0) Y Y Y Y ?_
  intro lx i5
  refine a0e (a0d (a0f (a0a (a0b Y Y Y (a0i (e:=9) (cs:= [vs [101,108,115,101]]) (q:=1) Y Y i5 Y (fun _=>by kernel_rfl) Y Y ?_)))))
  intro b6 ly i6
  obtain⟨lt,k5,gh,hsx3⟩:=a4y i6 (k:=4) rfl (i:=0) Y (by decide) ((show RowN Rp.str lo 1 [vs [101,108,115,101]] [[101,108,115,101]]from⟨Y,⟨_,_,Y,Y,(Y:RowR Rp.str _ [] [])⟩⟩))
  obtain⟨v7,kq,hm⟩:=Yb hm
  refine a1q ent132 Y Y Y Y gh (i:=3) Y (a0w _ _ _ _ kq gh.sat (kp.mono k5) (gh.get (i:=3) Y) (gh.lendable (i:=3) Y) hsx3) ?_
  rintro _ kr _ _ lz i7 ji ⟨i8,g4,i9,rfl,rfl,rfl,hf⟩
  refine a0e (a0d (a0f (a6u (SH kr [.box b5 24 [.int .i64 v6.2.Op,.int .i64 v6.2.N,vs v6.2.Name,.slice hc hd he],.box b3 24 [.int .i64 v4.2.Op,.int .i64 v4.2.N,vs v4.2.Name,.slice j7 j8 j9]]) 7 Y (by kernel_rfl) ji ?_)))
  intro m0 g1
  have S0:=g1.Ys Yf [0,1] Y Y
  refine d_tk 0 Y (by kernel_rfl) Y Y Y Y S0 (fun _ _ _ _ hq=>a5b ag24 sz24 Y Y hq Y (i:=1) Y Y Yn) (d_tk 1 Y (by kernel_rfl) Y Y Y Y S0 (fun _ _ _ _ hq=>a5b ag24 sz24 Y Y hq Y (i:=0) Y Y Yn) (d_tk 2 Y (by kernel_rfl) Y Y Y Y S0 (fun _ _ _ _ _=>a0b Y Y Y Yn) (a1r 3 Y (by kernel_rfl) ?_)))
  obtain⟨v8,ks,hm⟩:=Yb hm
  refine a1q ent189 Y Y Y Y g1 (i:=3) Y (ih.2 _ _ ks g1.sat hf (g1.get (i:=3) Y) (g1.lendable (i:=3) Y)) ?_
  rintro _ kt _ _ m1 gi ia ⟨hg,hh,hi,ib,ic,id,rfl,rfl,rfl,jj,ie⟩
  refine a0y (ia.Ys gi [0,1] Y Y) (a1r 4 Y (by kernel_rfl) (a0i (e:=24) (cs:= [.int .i64 v4.2.Op,.int .i64 v4.2.N,vs v4.2.Name,.slice j7 j8 j9,.int .i64 v6.2.Op,.int .i64 v6.2.N,vs v6.2.Name,.slice hc hd he,.int .i64 v8.2.Op,.int .i64 v8.2.N,vs v8.2.Name,.slice ib ic id]) (q:=4) Y Y ia Y (fun _=>by kernel_rfl) Y Y ?_))
  intro b7 m2 ig
  refine a0y (ig.Ys gi [1,2] Y Y) ?_
  obtain⟨hj,hk,gj,hsx4⟩:=a4y ig (k:=4) rfl (i:=0) Y (by decide) ((show RowN rp_Expr kt 3 [.int .i64 v4.2.Op,.int .i64 v4.2.N,vs v4.2.Name,.slice j7 j8 j9,.int .i64 v6.2.Op,.int .i64 v6.2.N,vs v6.2.Name,.slice hc hd he,.int .i64 v8.2.Op,.int .i64 v8.2.N,vs v8.2.Name,.slice ib ic id] [v4.2,v6.2,v8.2]from⟨Y,⟨_,_,Y,(a6j.2 ⟨j7,j8,j9,Y,((((((kk.mono k4).mono km).mono lp).mono k5).mono i7).mono gi)⟩),⟨_,_,Y,(a6j.2 ⟨hc,hd,he,Y,(((i3.mono k5).mono i7).mono gi)⟩),⟨_,_,Y,(a6j.2 ⟨ib,ic,id,Y,ie⟩),(Y:RowR rp_Expr _ [] [])⟩⟩⟩⟩))
  refine d_tk 5 Y (by kernel_rfl) Y Y Y Y (gj.Ys (gi.trans hk) [0,1] Y Y) (fun _ _ _ _ _=>a4d (v:= .agg #[.int .i64 11,.int .i64 0,vs [],.slice (some ⟨b7,0,none⟩) 3 3]) Y Y Y (fun _=>by kernel_rfl) Yn) (a1r 6 Y (by kernel_rfl) (a0o sz24 Y gj Y Y Y Y (i:=2) Y Y Y Y ?_))
  intro m3 g5
  refine a0y (g5.Ys (gi.trans hk) [0,1] Y Y) (a7x (by kernel_rfl) (a0d (a3b (a1e (a0l (b0x Y ag24 sz24 Y g5 Y (i:=2) Y ?_))))))
  obtain rfl:=Yo hm
  exact⟨_,_,_,_,Y,g5.Yp [3] Y Y,hg,hh,hi,(some ⟨b7,0,none⟩),3,3,Y,Y,Y,(jj.mono hk),hsx4⟩
  refine a0v 16 Y gu (a0q Y (a1y (a3v (a0d (a0f (a0a (a0b Y Y Y ?_)))))))
  obtain⟨v9,ku,hm⟩:=Yb hm
  refine a1q ent189 Y Y Y Y gg (i:=1) Y (ih.2 _ _ ku gg.sat k2 (gg.get (i:=1) Y) (gg.lendable (i:=1) Y)) ?_
  rintro _ m4 _ _ m5 kv jk ⟨hl,gy,hn,I,J,K,rfl,rfl,rfl,jl,ii⟩
  refine a2y ze24 Y Y Y jk ?_
  intro b8 m6 jm
  refine a0o sz24 Y jm Y Y Y Y (i:=0) Y Y Y Y ?_
  intro m7 gz
  refine a0e (a0d (a0f (a0a (a0b Y Y Y ?_))))
  obtain⟨v10,jn,hm⟩:=Yb hm
  refine a1q ent188 Y Y Y Y gz (i:=2) Y (a5c _ _ _ jn gz.sat jl (gz.get (i:=2) Y) (gz.lendable (i:=2) Y)) ?_
  rintro _ ij _ _ m8 jo h0 ⟨ik,il,im,rfl,rfl,rfl,io⟩
  refine a2y ze152 Y Y Y h0 ?_
  intro b9 m9 ip
  refine a0o sz152 Y ip Y Y Y Y (i:=0) Y Y Y Y ?_
  intro ma iq
  refine a0e (a0d (a0f (a6u (SH ij [.box b9 152 [.int .i64 v10.2.Kind,vs v10.2.Text,.int .i64 v10.2.N,.int .i64 v10.2.Pos],.box b8 24 [.int .i64 v9.2.Op,.int .i64 v9.2.N,vs v9.2.Name,.slice I J K],.box b1 24 [.int .i64 0,.int .i64 0,vs [],.slice none 0 0],.box brx1 149 [.slice ik il im,.int .i64 v10.1.at_,.int .i64 v10.1.e]]) 9 Y (by kernel_rfl) iq ?_)))
  intro mb h1
  refine d_tk 1 Y (by kernel_rfl) Y Y Y Y (h1.Ys Yf [0,1,2,3] Y Y) (fun _ _ _ _ _=>a0h fa152_1 Y Y Y Yn) (d_tk 2 Y (by kernel_rfl) Y Y Y Y (h1.Ys Yf [0,1,2,3] Y Y) (fun _ _ _ _ hq=>a1m ag9 Y Y hq Y (i:=0) Y Y Yn) (a1r 0 Y (by kernel_rfl) ?_))
  obtain⟨v11,ho,hm⟩:=Yb hm
  refine a1s ent190 Y Y Y Y h1 (b6y _ _ ho h1.sat) ?_
  rintro _ g6 _ mc h2 Q ⟨bs17,ess17,cls17,rfl,rfl,h3⟩
  have S1:=Q.Ys h2 [1,2,3,4] Y Y
  refine a0y S1 (a1r 3 Y (by kernel_rfl) (d8z (k:=v10.2.Text) (z:=0) (i:=0) key9 um193 zv3 Y Y Q Y Y Y h3 (a0y S1 (d_tk 4 Y (by kernel_rfl) Y Y Y Y S1 (fun _ _ _ _ _=>a0b Y Y Y Yn) (d_tk 5 Y (by kernel_rfl) Y Y Y Y S1 (fun _ _ _ _ _=>a1a Y Y Y Y Yn) (d_tk 6 Y (by kernel_rfl) Y Y Y Y S1 (fun _ _ _ _ _=>a1a Y Y Y Y Yn) ?_))))))
  refine d_tk 7 Y (by kernel_rfl) Y Y Y Y S1 (fun _ _ _ _ _=>a0c Y Y Y Yn) (d_tk 8 Y (by kernel_rfl) Y Y Y Y S1 (fun _ _ _ _ _=>a0c Y Y Y Yn) (a7x (by kernel_rfl) (a0d (a0f (a0f (a0a (a0b Y Y Y (c3x Y Y Y (a0b Y Y Y ?_)))))))))
  obtain⟨⟨v12,f1,f2,f3⟩,g7,hm⟩:=Yb hm
  refine a6y 6 (fun a w'=>∃(h4:Frz)(o:Option Addr)(p:Nat)(s:Nat),Frz.le g6 h4/\HS F w [brx1] h4 [.mp bs17 ess17 cls17,.box b9 152 [.int .i64 v10.2.Kind,vs v10.2.Text,.int .i64 v10.2.N,.int .i64 v10.2.Pos],.box b8 24 [.int .i64 v9.2.Op,.int .i64 v9.2.N,vs v9.2.Name,.slice I J K],.box b1 24 [.int .i64 0,.int .i64 0,vs [],.slice none 0 0],.box brx1 149 [.slice o p s,.int .i64 f2,.int .i64 f3]] w'/\(SlR rp_Token h4 o p s f1)/\Has 62 a [(0,.pointer (some ⟨brx1,0,none⟩)),(2,.pointer (some ⟨b1,0,none⟩)),(5,.pointer (some ⟨b8,0,none⟩)),(7,.int .i64 ((mget v11 v10.2.Text).getD 0)),(54,.bool v12)]) ?_ ?_
  rintro a md ⟨h4,o,p,s,gk,gl,gm,jp⟩
  refine a1u jp (a0e (a0d ?_))
  rcases a0g hm with⟨hp,hm⟩|⟨hp,hm⟩
  refine a0v 54 Y hp (a1l Y (a0f (a0a (a5b ag24 sz24 Y Y gl Y (i:=2) Y Y (a0o sz24 Y gl Y Y Y Y (i:=3) Y Y Y Y ?_)))))
  intro me ir
  refine a0e (a0d (a3b (a0l (b0x Y ag24 sz24 Y ir Y (i:=3) Y ?_))))
  obtain rfl:=Yo hm
  exact⟨_,_,_,_,Y,ir.Yp [4] Y Y,o,p,s,I,J,K,Y,Y,Y,gm,(((ii.mono jo).mono h2).mono gk)⟩
  refine a0v 54 Y hp (a0q Y (a1y (a0d (a0f (a6u (SH h4 [.mp bs17 ess17 cls17,.box b9 152 [.int .i64 v10.2.Kind,vs v10.2.Text,.int .i64 v10.2.N,.int .i64 v10.2.Pos],.box b8 24 [.int .i64 v9.2.Op,.int .i64 v9.2.N,vs v9.2.Name,.slice I J K]]) 7 Y (by kernel_rfl) gl ?_)))))
  intro mf gn
  have S2:=gn.Ys Yf [0,1,2] Y Y
  refine d_tk 0 Y (by kernel_rfl) Y Y Y Y S2 (fun _ _ _ _ _=>a0b Y Y Y Yn) (d_tk 1 Y (by kernel_rfl) Y Y Y Y S2 (fun _ _ _ _ hq=>a5b ag24 sz24 Y Y hq Y (i:=2) Y Y Yn) (d_tk 2 Y (by kernel_rfl) Y Y Y Y S2 (fun _ _ _ _ _=>a0b Y Y Y Yn) (a1r 3 Y (by kernel_rfl) ?_)))
  obtain⟨v13,hr,hm⟩:=Yb hm
  refine a1q ent189 Y Y Y Y gn (i:=4) Y (ih.2 _ _ hr gn.sat gm (gn.get (i:=4) Y) (gn.lendable (i:=4) Y)) ?_
  rintro _ it _ _ mg g2 go ⟨gp,mh,gq,g8,g9,ga,rfl,rfl,rfl,gr,h5⟩
  refine a0y (go.Ys g2 [0,1,2] Y Y) (a1r 4 Y (by kernel_rfl) (a0i (e:=24) (cs:= [.int .i64 v9.2.Op,.int .i64 v9.2.N,vs v9.2.Name,.slice I J K,.int .i64 v13.2.Op,.int .i64 v13.2.N,vs v13.2.Name,.slice g8 g9 ga]) (q:=4) Y Y go Y (fun _=>by kernel_rfl) Y Y ?_))
  intro b10 mi iu
  refine a0y (iu.Ys g2 [1,2,3] Y Y) ?_
  obtain⟨gs,iv,iw,hsx5⟩:=a4y iu (k:=5) rfl (i:=0) Y (by decide) ((show RowN rp_Expr it 2 [.int .i64 v9.2.Op,.int .i64 v9.2.N,vs v9.2.Name,.slice I J K,.int .i64 v13.2.Op,.int .i64 v13.2.N,vs v13.2.Name,.slice g8 g9 ga] [v9.2,v13.2]from⟨Y,⟨_,_,Y,(a6j.2 ⟨I,J,K,Y,((((ii.mono jo).mono h2).mono gk).mono g2)⟩),⟨_,_,Y,(a6j.2 ⟨g8,g9,ga,Y,h5⟩),(Y:RowR rp_Expr _ [] [])⟩⟩⟩))
  refine d_tk 5 Y (by kernel_rfl) Y Y Y Y (iw.Ys (g2.trans iv) [0,1,2] Y Y) (fun _ _ _ _ _=>a4d (v:= .agg #[.int .i64 ((mget v11 v10.2.Text).getD 0),.int .i64 0,vs [],.slice (some ⟨b10,0,none⟩) 2 2]) Y Y Y (fun _=>by kernel_rfl) Yn) (a1r 6 Y (by kernel_rfl) (a0o sz24 Y iw Y Y Y Y (i:=3) Y Y Y Y ?_))
  intro mj ht
  refine a0y (ht.Ys (g2.trans iv) [0,1,2] Y Y) (a7x (by kernel_rfl) (a0d (a3b (b0x Y ag24 sz24 Y ht Y (i:=3) Y ?_))))
  obtain rfl:=Yo hm
  exact⟨_,_,_,_,Y,ht.Yp [4] Y Y,gp,mh,gq,(some ⟨b10,0,none⟩),2,2,Y,Y,Y,(gr.mono iv),hsx5⟩
  clear hm
  rcases a0g g7 with⟨hu,g7⟩|⟨hu,g7⟩
  refine a2q 48 Y hu (a0x Y (by decide) Y (a0x Y (by decide) Y (a0x Y (by decide) Y (a0x Y (by decide) Y (a0x Y (by decide) Y (a0m Y Y Y Y (a0e (a0k (fun a ha=> ?_)))))))))
  cases g7
  exact⟨_,ik,il,im,Yf,Q.Yp [0,1,2,3,4] Y Y,(io.mono h2),ha.cut (l:= [0,2,5,7,54]) Y⟩
  refine a2q 48 Y hu (a0b Y Y Y (a0h fa152_1 Y Y Y (a1m ag9 Y Y Q Y (i:=1) Y Y ?_)))
  obtain⟨v14,jq,g7⟩:=Yb g7
  refine a1q ent137 Y Y Y Y Q (i:=4) Y (a4c _ _ _ _ jq Q.sat (io.mono h2) (Q.get (i:=4) Y) (Q.lendable (i:=4) Y)) ?_
  rintro _ mk _ _ ml ix jr ⟨t,x,y,rfl,rfl,rfl,h6⟩
  refine c3x Y Y Y (a0j Y Y Y Y (a0e (a0k (fun a ha=> ?_))))
  cases g7
  exact⟨_,t,x,y,ix,jr.Yp [0,1,2,3,4] Y Y,h6,ha.cut (l:= [0,2,5,7,54]) Y⟩
  intro rx1 r hm w F hs h7 h8 h9 brx1 k6 hbrx1 hfrx1
  rw [tariff_reader_atom_s]at hm
  have h:=HS.lend hs hbrx1 hfrx1
  refine a1v 117 Tryz.func189 Y Y Y (a0f (a0a (a2y ze24 Y Y Y h ?_)))
  intro b1 o7 gt
  refine a0e (a0d (a0f (a0a (a0b Y Y Y ?_))))
  obtain⟨v1,k7,hm⟩:=Yb hm
  refine a1q ent188 Y Y Y Y gt (i:=1) Y (a5c _ _ _ k7 gt.sat k6 (gt.get (i:=1) Y) (gt.lendable (i:=1) Y)) ?_
  rintro _ k8 _ _ o8 o9 gf ⟨i0,i1,i2,rfl,rfl,rfl,g3⟩
  refine a2y ze152 Y Y Y gf ?_
  intro b2 oa ka
  refine a0o sz152 Y ka Y Y Y Y (i:=0) Y Y Y Y ?_
  intro lc Z
  refine a0e (a0d (a0f (a0f (a0a (a0h fa152_0 Y Y Y (a1m ag3 Y Y Z Y (i:=0) Y Y (a0n Y Y Y Y Y (a0e (a0d ?_)))))))))
  rcases a0g hm with⟨hb,hm⟩|⟨hb,hm⟩
  refine a0v 11 Y hb (a1l Y (a0f (a0a (a0b Y Y Y (a9p Y Y Y (a0h fa149_1 Y Y Y (a1m ag3 Y Y Z Y (i:=2) Y Y (a0n Y Y Y Y Y (a9p Y Y Y ?_)))))))))
  refine a0h fa149_1 Y Y Y (a0o sz3 Y Z Y Y Y Y (i:=2) Y Y Y Y ?_)
  intro oc k1
  refine a0e (a0d (a0f (a0a (a0h fa152_2 Y Y Y (a1m ag3 Y Y k1 Y (i:=0) Y Y (a4d (v:= .agg #[.int .i64 0,.int .i64 v1.2.N,vs [],.slice none 0 0]) Y Y Y (fun _=>by kernel_rfl) (a0o sz24 Y k1 Y Y Y Y (i:=1) Y Y Y Y ?_)))))))
  intro oe j6
  refine a0e (a0d (a3b (a0l (b0x Y ag24 sz24 Y j6 Y (i:=1) Y ?_))))
  obtain rfl:=Yo hm
  exact⟨_,_,_,_,Y,j6.Yp [2] Y Y,i0,i1,i2,none,0,0,Y,Y,Y,g3,SlR.nil _ _⟩
  refine a0v 11 Y hb (a0q Y (a1y (a0d (a0f (a0f (a0a (a0h fa152_0 Y Y Y (a1m ag3 Y Y Z Y (i:=0) Y Y (a0n Y Y Y Y Y (a0b Y Y Y ?_))))))))))
  obtain⟨v2,gu,hm⟩:=Yb hm
  refine a6y 4 (fun a w'=>lc=w'/\Has 117 a [(0,.pointer (some ⟨brx1,0,none⟩)),(2,.pointer (some ⟨b1,0,none⟩)),(3,.pointer (some ⟨b2,0,none⟩)),(29,.bool v2)]) ?_ ?_
  rintro a of ⟨rfl,jp⟩
  refine a1u jp (a0e (a0d ?_))
  rcases a0g hm with⟨g7,hm⟩|⟨g7,hm⟩
  refine a0v 29 Y g7 (a1l Y (a0f (a0a (a0b Y Y Y ?_))))
  obtain⟨v3,k9,hm⟩:=Yb hm
  refine a1q ent136 Y Y Y Y Z (i:=2) Y (a3i _ _ _ _ k9 Z.sat g3 (Z.get (i:=2) Y) (Z.lendable (i:=2) Y)) ?_
  rintro _ lb _ _ og ob gg ⟨kb,kc,kd,rfl,rfl,rfl,ke⟩
  refine a0e (a0d (a0f (a0a (a4d (v:= .agg #[.int .i64 0,.int .i64 0,vs [],.slice none 0 0]) Y Y Y (fun _=>by kernel_rfl) (a0o sz24 Y gg Y Y Y Y (i:=1) Y Y Y Y ?_)))))
  intro oh k3
  refine a0e (a0d (a3b (a0l (b0x Y ag24 sz24 Y k3 Y (i:=1) Y ?_))))
  obtain rfl:=Yo hm
  exact⟨_,_,_,_,Y,k3.Yp [2] Y Y,kb,kc,kd,none,0,0,Y,Y,Y,ke,SlR.nil _ _⟩
  refine a0v 29 Y g7 (a0q Y (a1y (a0d (a0f (a0a (a0b Y Y Y (a9p Y Y Y (a0h fa149_1 Y Y Y (a1m ag3 Y Y Z Y (i:=2) Y Y (a0n Y Y Y Y Y (a9p Y Y Y ?_)))))))))))
  refine a0h fa149_1 Y Y Y (a0o sz3 Y Z Y Y Y Y (i:=2) Y Y Y Y ?_)
  intro jg g0
  refine a0e (a0d (a0f (a0f (a0a (a0h fa152_1 Y Y Y (a1m ag9 Y Y g0 Y (i:=0) Y Y (a0e (a0d (a2c (a0f (a0a (b9x Y Y Y Y Y (a0c Y Y Y (a0e (a0d ?_)))))))))))))))
  rcases a0g hm with⟨hp,hm⟩|⟨hp,hm⟩
  refine a0v 42 Y hp (a1l Y (a0f (a0a (a0b Y Y Y ?_))))
  obtain⟨v4,kg,hm⟩:=Yb hm
  refine a1q ent134 Y Y Y Y g0 (i:=2) Y (ih.1 _ _ kg g0.sat g3 (g0.get (i:=2) Y) (g0.lendable (i:=2) Y)) ?_
  rintro _ ld _ _ lu lf jf ⟨jy,jz,k0,lg,lh,li,rfl,rfl,rfl,kf,k2⟩
  refine a2y ze24 Y Y Y jf ?_
  intro b3 lv jh
  refine a0o sz24 Y jh Y Y Y Y (i:=0) Y Y Y Y ?_
  intro lw gv
  refine a0e (a0d (a0f (a0a (a0b Y Y Y (a0i (e:=9) (cs:= [vs [41]]) (q:=1) Y Y gv Y (fun _=>by kernel_rfl) Y Y ?_)))))
  intro b4 lx gw
  obtain⟨od,kh,gx,hsx1⟩:=a4y gw (k:=4) rfl (i:=0) Y (by decide) ((show RowN Rp.str ld 1 [vs [41]] [[41]]from⟨Y,⟨_,_,Y,Y,(Y:RowR Rp.str _ [] [])⟩⟩))
  obtain⟨v5,ki,hm⟩:=Yb hm
  refine a1q ent132 Y Y Y Y gx (i:=3) Y (a0w _ _ _ _ ki gx.sat (kf.mono kh) (gx.get (i:=3) Y) (gx.lendable (i:=3) Y) hsx1) ?_
  rintro _ lj _ _ ly lk i4 ⟨ll,lm,ln,rfl,rfl,rfl,kj⟩
  refine a0e (a0d (a0f (a0a (a5b ag24 sz24 Y Y i4 Y (i:=0) Y Y (a0o sz24 Y i4 Y Y Y Y (i:=2) Y Y Y Y ?_)))))
  intro lz i5
  refine a0e (a0d (a3b (a1e (a0l (b0x Y ag24 sz24 Y i5 Y (i:=2) Y ?_)))))
  obtain rfl:=Yo hm
  exact⟨_,_,_,_,Y,i5.Yp [3] Y Y,ll,lm,ln,lg,lh,li,Y,Y,Y,kj,((k2.mono kh).mono lk)⟩
  refine a0v 42 Y hp (a0q Y (a0f (a0a (b9x Y Y Y Y Y (a0c Y Y Y (a0e (a0d ?_)))))))
  rcases a0g hm with⟨hu,hm⟩|⟨hu,hm⟩
  refine a0v 50 Y hu (a1l Y (a0f (a0a (a4d (v:= .agg #[.int .i64 2,.int .i64 0,vs [],.slice none 0 0]) Y Y Y (fun _=>by kernel_rfl) (a0o sz24 Y g0 Y Y Y Y (i:=1) Y Y Y Y ?_)))))
  intro m0 i6
  refine a0e (a0d (a3b (a1e (a0l (b0x Y ag24 sz24 Y i6 Y (i:=1) Y ?_)))))
  obtain rfl:=Yo hm
  exact⟨_,_,_,_,Y,i6.Yp [2] Y Y,i0,i1,i2,none,0,0,Y,Y,Y,g3,SlR.nil _ _⟩
  refine a0v 50 Y hu (a0q Y (a0f (a0a (b9x Y Y Y Y Y (a0c Y Y Y (a0e (a0d ?_)))))))
  rcases a0g hm with⟨kw,hm⟩|⟨kw,hm⟩
  refine a0v 53 Y kw (a1l Y (a0f (a0a (a4d (v:= .agg #[.int .i64 3,.int .i64 0,vs [],.slice none 0 0]) Y Y Y (fun _=>by kernel_rfl) (a0o sz24 Y g0 Y Y Y Y (i:=1) Y Y Y Y ?_)))))
  intro m1 gh
  refine a0e (a0d (a3b (a1e (a0l (b0x Y ag24 sz24 Y gh Y (i:=1) Y ?_)))))
  obtain rfl:=Yo hm
  exact⟨_,_,_,_,Y,gh.Yp [2] Y Y,i0,i1,i2,none,0,0,Y,Y,Y,g3,SlR.nil _ _⟩
  refine a0v 53 Y kw (a0q Y (a0f (a0f (a0a (b9x Y Y Y Y Y (a0c Y Y Y (a0e (a0d ?_))))))))
  obtain⟨v6,jb,hm⟩:=Yb hm
  refine b5l (fun a w'=>jg=w'/\Has 117 a [(0,.pointer (some ⟨brx1,0,none⟩)),(2,.pointer (some ⟨b1,0,none⟩)),(3,.pointer (some ⟨b2,0,none⟩)),(41,vs v1.2.Text),(56,.bool v6)]) ?_ ?_
  rintro a m2 ⟨rfl,mm⟩
  refine a2a mm ?_
  rcases a0g hm with⟨kx,hm⟩|⟨kx,hm⟩
  refine a0v 56 Y kx (a1l Y (a0f (a0a (a4d (v:= .agg #[.int .i64 1,.int .i64 0,vs [],.slice none 0 0]) Y Y Y (fun _=>by kernel_rfl) (a2y ze24 Y Y Y g0 ?_)))))
  intro b5 m3 ji
  refine a0o sz24 Y ji Y Y Y Y (i:=0) Y Y Y Y ?_
  intro m5 g1
  refine a0e (a0d (a0f (a0f (a0a (a0h fa152_1 Y Y Y (a1m ag9 Y Y g1 Y (i:=1) Y Y (b9x Y Y Y Y Y (a0e (a0d ?_)))))))))
  obtain⟨f1,jc,hm⟩:=Yb hm
  refine b5l (fun a w'=>∃(ja:Frz),Frz.le k8 ja/\HS F w [brx1] ja [.box b5 24 [.int .i64 f1,.int .i64 0,vs [],.slice none 0 0],.box b2 152 [.int .i64 v1.2.Kind,vs v1.2.Text,.int .i64 v1.2.N,.int .i64 v1.2.Pos],.box b1 24 [.int .i64 0,.int .i64 0,vs [],.slice none 0 0],.box brx1 149 [.slice i0 i1 i2,.int .i64 (iadd .i64 v1.1.at_ 1),.int .i64 v1.1.e]] w'/\Has 117 a [(0,.pointer (some ⟨brx1,0,none⟩)),(2,.pointer (some ⟨b1,0,none⟩)),(5,.pointer (some ⟨b5,0,none⟩))]) ?_ ?_
  rintro a m6 ⟨ja,k4,ia,mn⟩
  refine a2a mn (a0f (a0a (a0b Y Y Y (a0i (e:=9) (cs:= [vs [40]]) (q:=1) Y Y ia Y (fun _=>by kernel_rfl) Y Y ?_))))
  intro b6 m7 ig
  obtain⟨oi,km,gj,hsx2⟩:=a4y ig (k:=4) rfl (i:=0) Y (by decide) ((show RowN Rp.str ja 1 [vs [40]] [[40]]from⟨Y,⟨_,_,Y,Y,(Y:RowR Rp.str _ [] [])⟩⟩))
  obtain⟨v7,kl,hm⟩:=Yb hm
  refine a1q ent132 Y Y Y Y gj (i:=3) Y (a0w _ _ _ _ kl gj.sat ((g3.mono k4).mono km) (gj.get (i:=3) Y) (gj.lendable (i:=3) Y) hsx2) ?_
  rintro _ lo _ _ m8 lp g5 ⟨j7,j8,j9,rfl,rfl,rfl,kk⟩
  refine a0e (a0d (a0f (a0a (a0b Y Y Y ?_))))
  obtain⟨v8,ko,hm⟩:=Yb hm
  refine a1q ent133 Y Y Y Y g5 (i:=3) Y (a8a _ _ _ _ ko g5.sat kk (g5.get (i:=3) Y) (g5.lendable (i:=3) Y)) ?_
  rintro _ lt _ _ m9 k5 jk ⟨oj,ol,om,rfl,rfl,rfl,kn⟩
  refine c9j (v:= .agg #[.int .i64 v8.2.Kind,vs v8.2.Text,.int .i64 v8.2.N,.int .i64 v8.2.Pos]) (u:=vs v8.2.Text) (fun _=>by kernel_rfl) Y Y Y (a0h fa24_2 Y Y Y (a0o sz9 Y jk Y Y Y Y (i:=0) Y Y Y Y ?_))
  intro ma jm
  refine a0e (a0d (a0f (a0a (a0b Y Y Y (a0i (e:=9) (cs:= [vs [41]]) (q:=1) Y Y jm Y (fun _=>by kernel_rfl) Y Y ?_)))))
  intro b7 mb gz
  obtain⟨kr,i7,h0,hsx3⟩:=a4y gz (k:=4) rfl (i:=0) Y (by decide) ((show RowN Rp.str lt 1 [vs [41]] [[41]]from⟨Y,⟨_,_,Y,Y,(Y:RowR Rp.str _ [] [])⟩⟩))
  obtain⟨v9,kq,hm⟩:=Yb hm
  refine a1q ent132 Y Y Y Y h0 (i:=3) Y (a0w _ _ _ _ kq h0.sat (kn.mono i7) (h0.get (i:=3) Y) (h0.lendable (i:=3) Y) hsx3) ?_
  rintro _ kt _ _ mc gi ip ⟨lq,lr,ls,rfl,rfl,rfl,kp⟩
  refine a0e (a0d (a0f (a0a (a5b ag24 sz24 Y Y ip Y (i:=0) Y Y (a0o sz24 Y ip Y Y Y Y (i:=2) Y Y Y Y ?_)))))
  intro md iq
  refine a0e (a0d (a3b (a1e (a0l (b0x Y ag24 sz24 Y iq Y (i:=2) Y ?_)))))
  obtain rfl:=Yo hm
  exact⟨_,_,_,_,Y,iq.Yp [3] Y Y,lq,lr,ls,none,0,0,Y,Y,Y,kp,SlR.nil _ _⟩
  clear hm
  rcases a0g jc with⟨js,jc⟩|⟨js,jc⟩
  refine a0v 62 Y js (a1l Y (a0a (a0h fa24_0 Y Y Y (a0o sz3 Y g1 Y Y Y Y (i:=0) Y Y Y Y ?_))))
  intro me h1
  refine a0e (a0k (fun a ha=> ?_))
  cases jc
  exact⟨_,Yf,h1.Yp [0,1,2,3] Y Y,ha.cut (l:= [0,2,5]) Y⟩
  refine a0v 62 Y js (a0q Y (a1y (a0k (fun a ha=> ?_))))
  cases jc
  exact⟨_,Yf,g1.Yp [0,1,2,3] Y Y,ha.cut (l:= [0,2,5]) Y⟩
  refine a0v 56 Y kx (a0q Y (a0f (a0f (a0a (b9x Y Y Y Y Y (a0c Y Y Y (a0e (a0d ?_))))))))
  obtain⟨v10,hv,hm⟩:=Yb hm
  refine b5l (fun a w'=>jg=w'/\Has 117 a [(0,.pointer (some ⟨brx1,0,none⟩)),(2,.pointer (some ⟨b1,0,none⟩)),(3,.pointer (some ⟨b2,0,none⟩)),(75,.bool v10)]) ?_ ?_
  rintro a mf ⟨rfl,mo⟩
  refine a2a mo ?_
  rcases a0g hm with⟨jt,hm⟩|⟨jt,hm⟩
  refine a0v 75 Y jt (a1l Y (a0f (a0a (a4d (v:= .agg #[.int .i64 9,.int .i64 0,vs [],.slice none 0 0]) Y Y Y (fun _=>by kernel_rfl) (a2y ze24 Y Y Y g0 ?_)))))
  intro b8 mg Q
  refine a0o sz24 Y Q Y Y Y Y (i:=0) Y Y Y Y ?_
  intro mi gl
  refine a0e (a0d (a0f (a0f (a0a (a0h fa152_1 Y Y Y (a1m ag9 Y Y gl Y (i:=1) Y Y (b9x Y Y Y Y Y (a0e (a0d ?_)))))))))
  obtain⟨f2,hw,hm⟩:=Yb hm
  refine b5l (fun a w'=>∃(hj:Frz),Frz.le k8 hj/\HS F w [brx1] hj [.box b8 24 [.int .i64 f2,.int .i64 0,vs [],.slice none 0 0],.box b2 152 [.int .i64 v1.2.Kind,vs v1.2.Text,.int .i64 v1.2.N,.int .i64 v1.2.Pos],.box b1 24 [.int .i64 0,.int .i64 0,vs [],.slice none 0 0],.box brx1 149 [.slice i0 i1 i2,.int .i64 (iadd .i64 v1.1.at_ 1),.int .i64 v1.1.e]] w'/\Has 117 a [(0,.pointer (some ⟨brx1,0,none⟩)),(2,.pointer (some ⟨b1,0,none⟩)),(6,.pointer (some ⟨b8,0,none⟩))]) ?_ ?_
  rintro a mj ⟨hj,hk,ir,mq⟩
  refine a2a mq (a0f (a0a (a0b Y Y Y (a0i (e:=9) (cs:= [vs [40]]) (q:=1) Y Y ir Y (fun _=>by kernel_rfl) Y Y ?_))))
  intro b9 ml gn
  obtain⟨m4,kv,go,hsx4⟩:=a4y gn (k:=4) rfl (i:=0) Y (by decide) ((show RowN Rp.str hj 1 [vs [40]] [[40]]from⟨Y,⟨_,_,Y,Y,(Y:RowR Rp.str _ [] [])⟩⟩))
  obtain⟨v11,ks,hm⟩:=Yb hm
  refine a1q ent132 Y Y Y Y go (i:=3) Y (a0w _ _ _ _ ks go.sat ((g3.mono hk).mono kv) (go.get (i:=3) Y) (go.lendable (i:=3) Y) hsx4) ?_
  rintro _ ij _ _ on jo iu ⟨hc,hd,he,rfl,rfl,rfl,i3⟩
  refine a0e (a0d ?_)
  have iw:=iu.nilRow 24 4
  obtain⟨⟨l1,f3,f4,f5⟩,G,hm⟩:=Yb hm
  refine d7l (fun a w'=>∃(g6:Frz)(i8:Option Addr)(g4:Nat)(i9:Nat)(xss11:List Value)(hg:Option Addr)(hh:Nat)(hi:Nat),Frz.le ij g6/\HS F w [brx1] g6 [.row 24 4 i8 g4 i9 xss11,.box b8 24 [.int .i64 f2,.int .i64 0,vs [],.slice i8 g4 i9],.box b2 152 [.int .i64 v1.2.Kind,vs v1.2.Text,.int .i64 v1.2.N,.int .i64 v1.2.Pos],.box b1 24 [.int .i64 0,.int .i64 0,vs [],.slice none 0 0],.box brx1 149 [.slice hg hh hi,.int .i64 f4,.int .i64 f5]] w'/\(RowN rp_Expr g6 g4 xss11 l1)/\(SlR rp_Token g6 hg hh hi f3)/\Has 117 a [(0,.pointer (some ⟨brx1,0,none⟩)),(2,.pointer (some ⟨b1,0,none⟩)),(6,.pointer (some ⟨b8,0,none⟩))]) ?_ ?_
  rintro a oo ⟨g6,i8,g4,i9,xss11,hg,hh,hi,h2,ht,hf,jj,mr⟩
  refine a2a mr (a0f (a0a (a0b Y Y Y (a0i (e:=9) (cs:= [vs [44]]) (q:=1) Y Y ht Y (fun _=>by kernel_rfl) Y Y ?_))))
  intro b10 op jr
  obtain⟨h4,gk,iy,hsx5⟩:=a4y jr (k:=5) rfl (i:=0) Y (by decide) ((show RowN Rp.str g6 1 [vs [44]] [[44]]from⟨Y,⟨_,_,Y,Y,(Y:RowR Rp.str _ [] [])⟩⟩))
  obtain⟨v12,ku,hm⟩:=Yb hm
  refine a1q ent132 Y Y Y Y iy (i:=4) Y (a0w _ _ _ _ ku iy.sat (jj.mono gk) (iy.get (i:=4) Y) (iy.lendable (i:=4) Y) hsx5) ?_
  rintro _ it _ _ oq g2 ms ⟨ib,ic,id,rfl,rfl,rfl,ie⟩
  refine a0e (a0d ?_)
  obtain⟨⟨l2,f6,f7,f8⟩,H,hm⟩:=Yb hm
  refine d7l (fun a w'=>∃(gs:Frz)(hl:Option Addr)(gy:Nat)(hn:Nat)(xss14:List Value)(I:Option Addr)(J:Nat)(K:Nat),Frz.le it gs/\HS F w [brx1] gs [.row 24 4 hl gy hn xss14,.box b8 24 [.int .i64 f2,.int .i64 0,vs [],.slice hl gy hn],.box b2 152 [.int .i64 v1.2.Kind,vs v1.2.Text,.int .i64 v1.2.N,.int .i64 v1.2.Pos],.box b1 24 [.int .i64 0,.int .i64 0,vs [],.slice none 0 0],.box brx1 149 [.slice I J K,.int .i64 f7,.int .i64 f8]] w'/\(RowN rp_Expr gs gy xss14 l2)/\(SlR rp_Token gs I J K f6)/\Has 117 a [(0,.pointer (some ⟨brx1,0,none⟩)),(2,.pointer (some ⟨b1,0,none⟩)),(6,.pointer (some ⟨b8,0,none⟩))]) ?_ ?_
  rintro a os ⟨gs,hl,gy,hn,xss14,I,J,K,iv,mt,jl,ii,mu⟩
  refine a2a mu (a0f (a0a (a0b Y Y Y (a0i (e:=9) (cs:= [vs [41]]) (q:=1) Y Y mt Y (fun _=>by kernel_rfl) Y Y ?_))))
  intro b11 ot mv
  obtain⟨mk,ix,iz,hsx6⟩:=a4y mv (k:=5) rfl (i:=0) Y (by decide) ((show RowN Rp.str gs 1 [vs [41]] [[41]]from⟨Y,⟨_,_,Y,Y,(Y:RowR Rp.str _ [] [])⟩⟩))
  obtain⟨v13,jn,hm⟩:=Yb hm
  refine a1q ent132 Y Y Y Y iz (i:=4) Y (a0w _ _ _ _ jn iz.sat (ii.mono ix) (iz.get (i:=4) Y) (iz.lendable (i:=4) Y) hsx6) ?_
  rintro _ ou _ _ ov mw ky ⟨ik,il,im,rfl,rfl,rfl,io⟩
  refine a0e (a0d (a0f (a0a (a5b ag24 sz24 Y Y ky Y (i:=1) Y Y (a0o sz24 Y ky Y Y Y Y (i:=3) Y Y Y Y ?_)))))
  intro ow mx
  refine a0e (a0d (a3b (a1e (a0l ?_))))
  obtain⟨ox,my,kz,hsx7⟩:=a4y mx (k:=4) rfl (i:=0) Y (by decide) ((jl.mono ix).mono mw)
  refine b0x Y ag24 sz24 Y kz Y (i:=2) Y ?_
  obtain rfl:=Yo hm
  exact⟨_,_,_,_,Y,kz.Yp [3] Y Y,ik,il,im,hl,gy,hn,Y,Y,Y,(io.mono my),hsx7⟩
  clear hm
  refine a6u (SH it [.box b2 152 [.int .i64 v1.2.Kind,vs v1.2.Text,.int .i64 v1.2.N,.int .i64 v1.2.Pos],.box b1 24 [.int .i64 0,.int .i64 0,vs [],.slice none 0 0]]) 8 Y (by kernel_rfl) ms ?_
  intro oy R
  have S3:=R.Ys Yf [2,3] Y Y
  refine d_tk 0 Y (by kernel_rfl) Y Y Y Y S3 (fun _ _ _ _ _=>a0h fa24_3 Y Y Y Yn) (d_tk 2 Y (by kernel_rfl) Y Y Y Y S3 (fun _ _ _ _ _=>a0b Y Y Y Yn) (b6i 1 3 Y Y (by kernel_rfl) ?_ ?_))
  refine a1m ag22 Y Y R Y (i:=1) Y Y (a0y S3 (a1r 3 Y (by kernel_rfl) ?_))
  obtain⟨v14,ho,H⟩:=Yb H
  refine a1q ent134 Y Y Y Y R (i:=4) Y (ih.1 _ _ ho R.sat ie (R.get (i:=4) Y) (R.lendable (i:=4) Y)) ?_
  rintro _ j0 _ _ mz g gb ⟨j1,j2,j3,o,p,s,rfl,rfl,rfl,h3,gm⟩
  refine a0y (gb.Ys g [2,3] Y Y) (a1r 4 Y (by kernel_rfl) (a0i (e:=24) (cs:= [.int .i64 v14.2.Op,.int .i64 v14.2.N,vs v14.2.Name,.slice o p s]) (q:=4) Y Y gb Y (fun _=>by kernel_rfl) Y Y ?_))
  intro b12 l0 T
  refine a0y (T.Ys g [3,4] Y Y) (a1r 5 Y (by kernel_rfl) ?_)
  obtain⟨l3,jd,H⟩:=Yb H
  refine a6q (r:=rp_Expr) ap22 Y Y T Y Y (i:=1) (j:=0) Y Y (((hf.mono gk).mono g2).mono g) ((show RowN rp_Expr j0 1 [.int .i64 v14.2.Op,.int .i64 v14.2.N,vs v14.2.Name,.slice o p s] [v14.2]from⟨Y,⟨_,_,Y,(a6j.2 ⟨o,p,s,Y,gm⟩),(Y:RowR rp_Expr _ [] [])⟩⟩)) jd ?_
  intro gp gq l5 L gr
  refine a0y (L.Ys g [3,4] Y Y) (d_tk 6 Y (by kernel_rfl) Y Y Y Y (L.Ys g [3,4] Y Y) (fun _ _ _ _ _=>a0h fa24_3 Y Y Y Yn) (a1r 7 Y (by kernel_rfl) (a0o sz22 Y L Y Y Y Y (i:=2) Y Y Y Y ?_)))
  intro l6 gc
  refine a0y (gc.Ys g [3,4] Y Y) (a7x (by kernel_rfl) (a0k (fun a ha=> ?_)))
  cases H
  exact⟨_,gp,(g4+1),gq,(xss11++ [.int .i64 v14.2.Op,.int .i64 v14.2.N,vs v14.2.Name,.slice o p s]),j1,j2,j3,g,gc.Yp [1,2,3,4,5] Y Y,gr,h3,ha.cut (l:= [0,2,6]) Y⟩
  obtain⟨v14,ho,H⟩:=Yb H
  refine a1q ent134 Y Y Y Y R (i:=4) Y (ih.1 _ _ ho R.sat ie (R.get (i:=4) Y) (R.lendable (i:=4) Y)) ?_
  rintro _ j0 _ _ mz g gb ⟨j1,j2,j3,o,p,s,rfl,rfl,rfl,h3,gm⟩
  refine a0y (gb.Ys g [2,3] Y Y) (b6i 1 4 Y Y (by kernel_rfl) ?_ ?_)
  refine a1m ag22 Y Y gb Y (i:=1) Y Y (a0y (gb.Ys g [2,3] Y Y) (a1r 4 Y (by kernel_rfl) (a0i (e:=24) (cs:= [.int .i64 v14.2.Op,.int .i64 v14.2.N,vs v14.2.Name,.slice o p s]) (q:=4) Y Y gb Y (fun _=>by kernel_rfl) Y Y ?_)))
  intro b12 l0 T
  refine a0y (T.Ys g [3,4] Y Y) (a1r 5 Y (by kernel_rfl) ?_)
  obtain⟨l3,jd,H⟩:=Yb H
  refine a6q (r:=rp_Expr) ap22 Y Y T Y Y (i:=1) (j:=0) Y Y (((hf.mono gk).mono g2).mono g) ((show RowN rp_Expr j0 1 [.int .i64 v14.2.Op,.int .i64 v14.2.N,vs v14.2.Name,.slice o p s] [v14.2]from⟨Y,⟨_,_,Y,(a6j.2 ⟨o,p,s,Y,gm⟩),(Y:RowR rp_Expr _ [] [])⟩⟩)) jd ?_
  intro gp gq l5 L gr
  refine a0y (L.Ys g [3,4] Y Y) (d_tk 6 Y (by kernel_rfl) Y Y Y Y (L.Ys g [3,4] Y Y) (fun _ _ _ _ _=>a0h fa24_3 Y Y Y Yn) (a1r 7 Y (by kernel_rfl) (a0o sz22 Y L Y Y Y Y (i:=2) Y Y Y Y ?_)))
  intro l6 gc
  refine a0y (gc.Ys g [3,4] Y Y) (a7x (by kernel_rfl) (a0k (fun a ha=> ?_)))
  cases H
  exact⟨_,gp,(g4+1),gq,(xss11++ [.int .i64 v14.2.Op,.int .i64 v14.2.N,vs v14.2.Name,.slice o p s]),j1,j2,j3,g,gc.Yp [1,2,3,4,5] Y Y,gr,h3,ha.cut (l:= [0,2,6]) Y⟩
  refine a0i (e:=24) (cs:= [.int .i64 v14.2.Op,.int .i64 v14.2.N,vs v14.2.Name,.slice o p s]) (q:=4) Y Y gb Y (fun _=>by kernel_rfl) Y Y ?_
  intro b12 l0 T
  refine a0y (T.Ys g [3,4] Y Y) (a1r 1 Y (by kernel_rfl) (a1m ag22 Y Y T Y (i:=2) Y Y (a0y (T.Ys g [3,4] Y Y) (a1r 5 Y (by kernel_rfl) ?_))))
  obtain⟨l3,jd,H⟩:=Yb H
  refine a6q (r:=rp_Expr) ap22 Y Y T Y Y (i:=1) (j:=0) Y Y (((hf.mono gk).mono g2).mono g) ((show RowN rp_Expr j0 1 [.int .i64 v14.2.Op,.int .i64 v14.2.N,vs v14.2.Name,.slice o p s] [v14.2]from⟨Y,⟨_,_,Y,(a6j.2 ⟨o,p,s,Y,gm⟩),(Y:RowR rp_Expr _ [] [])⟩⟩)) jd ?_
  intro gp gq l5 L gr
  refine a0y (L.Ys g [3,4] Y Y) (d_tk 6 Y (by kernel_rfl) Y Y Y Y (L.Ys g [3,4] Y Y) (fun _ _ _ _ _=>a0h fa24_3 Y Y Y Yn) (a1r 7 Y (by kernel_rfl) (a0o sz22 Y L Y Y Y Y (i:=2) Y Y Y Y ?_)))
  intro l6 gc
  refine a0y (gc.Ys g [3,4] Y Y) (a7x (by kernel_rfl) (a0k (fun a ha=> ?_)))
  cases H
  exact⟨_,gp,(g4+1),gq,(xss11++ [.int .i64 v14.2.Op,.int .i64 v14.2.N,vs v14.2.Name,.slice o p s]),j1,j2,j3,g,gc.Yp [1,2,3,4,5] Y Y,gr,h3,ha.cut (l:= [0,2,6]) Y⟩
  clear hm
  refine a6u (SH ij [.box b2 152 [.int .i64 v1.2.Kind,vs v1.2.Text,.int .i64 v1.2.N,.int .i64 v1.2.Pos],.box b1 24 [.int .i64 0,.int .i64 0,vs [],.slice none 0 0]]) 8 Y (by kernel_rfl) iw ?_
  intro oz U
  have S4:=U.Ys Yf [2,3] Y Y
  refine d_tk 0 Y (by kernel_rfl) Y Y Y Y S4 (fun _ _ _ _ _=>a0h fa24_3 Y Y Y Yn) (d_tk 2 Y (by kernel_rfl) Y Y Y Y S4 (fun _ _ _ _ _=>a0b Y Y Y Yn) (b6i 1 3 Y Y (by kernel_rfl) ?_ ?_))
  refine a1m ag22 Y Y U Y (i:=1) Y Y (a0y S4 (a1r 3 Y (by kernel_rfl) ?_))
  obtain⟨v15,hr,G⟩:=Yb G
  refine a1q ent134 Y Y Y Y U (i:=4) Y (ih.1 _ _ hr U.sat i3 (U.get (i:=4) Y) (U.lendable (i:=4) Y)) ?_
  rintro _ j4 _ _ o0 m gd ⟨g8,g9,ga,t,x,y,rfl,rfl,rfl,h5,h6⟩
  refine a0y (gd.Ys m [2,3] Y Y) (a1r 4 Y (by kernel_rfl) (a0i (e:=24) (cs:= [.int .i64 v15.2.Op,.int .i64 v15.2.N,vs v15.2.Name,.slice t x y]) (q:=4) Y Y gd Y (fun _=>by kernel_rfl) Y Y ?_))
  intro b13 l7 V
  refine a0y (V.Ys m [3,4] Y Y) (a1r 5 Y (by kernel_rfl) ?_)
  obtain⟨l4,je,G⟩:=Yb G
  refine a6q (r:=rp_Expr) ap22 Y Y V Y Y (i:=1) (j:=0) Y Y ((show RowN rp_Expr _ 0 [] []from⟨Y,Y⟩).mono m) ((show RowN rp_Expr j4 1 [.int .i64 v15.2.Op,.int .i64 v15.2.N,vs v15.2.Name,.slice t x y] [v15.2]from⟨Y,⟨_,_,Y,(a6j.2 ⟨t,x,y,Y,h6⟩),(Y:RowR rp_Expr _ [] [])⟩⟩)) je ?_
  intro hx hy l8 M hz
  refine a0y (M.Ys m [3,4] Y Y) (d_tk 6 Y (by kernel_rfl) Y Y Y Y (M.Ys m [3,4] Y Y) (fun _ _ _ _ _=>a0h fa24_3 Y Y Y Yn) (a1r 7 Y (by kernel_rfl) (a0o sz22 Y M Y Y Y Y (i:=2) Y Y Y Y ?_)))
  intro l9 ge
  refine a0y (ge.Ys m [3,4] Y Y) (a7x (by kernel_rfl) (a0k (fun a ha=> ?_)))
  cases G
  exact⟨_,hx,(0+1),hy,([]++ [.int .i64 v15.2.Op,.int .i64 v15.2.N,vs v15.2.Name,.slice t x y]),g8,g9,ga,m,ge.Yp [1,2,3,4,5] Y Y,hz,h5,ha.cut (l:= [0,2,6]) Y⟩
  obtain⟨v15,hr,G⟩:=Yb G
  refine a1q ent134 Y Y Y Y U (i:=4) Y (ih.1 _ _ hr U.sat i3 (U.get (i:=4) Y) (U.lendable (i:=4) Y)) ?_
  rintro _ j4 _ _ o0 m gd ⟨g8,g9,ga,t,x,y,rfl,rfl,rfl,h5,h6⟩
  refine a0y (gd.Ys m [2,3] Y Y) (b6i 1 4 Y Y (by kernel_rfl) ?_ ?_)
  refine a1m ag22 Y Y gd Y (i:=1) Y Y (a0y (gd.Ys m [2,3] Y Y) (a1r 4 Y (by kernel_rfl) (a0i (e:=24) (cs:= [.int .i64 v15.2.Op,.int .i64 v15.2.N,vs v15.2.Name,.slice t x y]) (q:=4) Y Y gd Y (fun _=>by kernel_rfl) Y Y ?_)))
  intro b13 l7 V
  refine a0y (V.Ys m [3,4] Y Y) (a1r 5 Y (by kernel_rfl) ?_)
  obtain⟨l4,je,G⟩:=Yb G
  refine a6q (r:=rp_Expr) ap22 Y Y V Y Y (i:=1) (j:=0) Y Y ((show RowN rp_Expr _ 0 [] []from⟨Y,Y⟩).mono m) ((show RowN rp_Expr j4 1 [.int .i64 v15.2.Op,.int .i64 v15.2.N,vs v15.2.Name,.slice t x y] [v15.2]from⟨Y,⟨_,_,Y,(a6j.2 ⟨t,x,y,Y,h6⟩),(Y:RowR rp_Expr _ [] [])⟩⟩)) je ?_
  intro hx hy l8 M hz
  refine a0y (M.Ys m [3,4] Y Y) (d_tk 6 Y (by kernel_rfl) Y Y Y Y (M.Ys m [3,4] Y Y) (fun _ _ _ _ _=>a0h fa24_3 Y Y Y Yn) (a1r 7 Y (by kernel_rfl) (a0o sz22 Y M Y Y Y Y (i:=2) Y Y Y Y ?_)))
  intro l9 ge
  refine a0y (ge.Ys m [3,4] Y Y) (a7x (by kernel_rfl) (a0k (fun a ha=> ?_)))
  cases G
  exact⟨_,hx,(0+1),hy,([]++ [.int .i64 v15.2.Op,.int .i64 v15.2.N,vs v15.2.Name,.slice t x y]),g8,g9,ga,m,ge.Yp [1,2,3,4,5] Y Y,hz,h5,ha.cut (l:= [0,2,6]) Y⟩
  refine a0i (e:=24) (cs:= [.int .i64 v15.2.Op,.int .i64 v15.2.N,vs v15.2.Name,.slice t x y]) (q:=4) Y Y gd Y (fun _=>by kernel_rfl) Y Y ?_
  intro b13 l7 V
  refine a0y (V.Ys m [3,4] Y Y) (a1r 1 Y (by kernel_rfl) (a1m ag22 Y Y V Y (i:=2) Y Y (a0y (V.Ys m [3,4] Y Y) (a1r 5 Y (by kernel_rfl) ?_))))
  obtain⟨l4,je,G⟩:=Yb G
  refine a6q (r:=rp_Expr) ap22 Y Y V Y Y (i:=1) (j:=0) Y Y ((show RowN rp_Expr _ 0 [] []from⟨Y,Y⟩).mono m) ((show RowN rp_Expr j4 1 [.int .i64 v15.2.Op,.int .i64 v15.2.N,vs v15.2.Name,.slice t x y] [v15.2]from⟨Y,⟨_,_,Y,(a6j.2 ⟨t,x,y,Y,h6⟩),(Y:RowR rp_Expr _ [] [])⟩⟩)) je ?_
  intro hx hy l8 M hz
  refine a0y (M.Ys m [3,4] Y Y) (d_tk 6 Y (by kernel_rfl) Y Y Y Y (M.Ys m [3,4] Y Y) (fun _ _ _ _ _=>a0h fa24_3 Y Y Y Yn) (a1r 7 Y (by kernel_rfl) (a0o sz22 Y M Y Y Y Y (i:=2) Y Y Y Y ?_)))
  intro l9 ge
  refine a0y (ge.Ys m [3,4] Y Y) (a7x (by kernel_rfl) (a0k (fun a ha=> ?_)))
  cases G
  exact⟨_,hx,(0+1),hy,([]++ [.int .i64 v15.2.Op,.int .i64 v15.2.N,vs v15.2.Name,.slice t x y]),g8,g9,ga,m,ge.Yp [1,2,3,4,5] Y Y,hz,h5,ha.cut (l:= [0,2,6]) Y⟩
  clear hm
  rcases a0g hw with⟨ju,hw⟩|⟨ju,hw⟩
  refine a0v 81 Y ju (a1l Y (a0a (a0h fa24_0 Y Y Y (a0o sz3 Y gl Y Y Y Y (i:=0) Y Y Y Y ?_))))
  intro p0 o1
  refine a0e (a0k (fun a ha=> ?_))
  cases hw
  exact⟨_,Yf,o1.Yp [0,1,2,3] Y Y,ha.cut (l:= [0,2,6]) Y⟩
  refine a0v 81 Y ju (a0q Y (a1y (a0k (fun a ha=> ?_))))
  cases hw
  exact⟨_,Yf,gl.Yp [0,1,2,3] Y Y,ha.cut (l:= [0,2,6]) Y⟩
  refine a0v 75 Y jt (a0q Y (a1y (a3v (a0d (a0f (a0a (a0b Y Y Y (a9p Y Y Y (a0h fa149_1 Y Y Y (a1m ag3 Y Y g0 Y (i:=2) Y Y (a0n Y Y Y Y Y (a9p Y Y Y ?_))))))))))))
  refine a0h fa149_1 Y Y Y (a0o sz3 Y g0 Y Y Y Y (i:=2) Y Y Y Y ?_)
  intro p1 j5
  refine a0e (a0d (a0f (a0a (a0b Y Y Y ?_))))
  obtain⟨v16,jq,hm⟩:=Yb hm
  refine a1q ent136 Y Y Y Y j5 (i:=2) Y (a3i _ _ _ _ jq j5.sat g3 (j5.get (i:=2) Y) (j5.lendable (i:=2) Y)) ?_
  rintro _ p2 _ _ p3 p4 o2 ⟨o3,o4,o5,rfl,rfl,rfl,o6⟩
  refine a0e (a0d (a0f (a0a (a4d (v:= .agg #[.int .i64 0,.int .i64 0,vs [],.slice none 0 0]) Y Y Y (fun _=>by kernel_rfl) (a0o sz24 Y o2 Y Y Y Y (i:=1) Y Y Y Y ?_)))))
  intro p5 la
  refine a0e (a0d (a3b (b0x Y ag24 sz24 Y la Y (i:=1) Y ?_)))
  obtain rfl:=Yo hm
  exact⟨_,_,_,_,Y,la.Yp [2] Y Y,o3,o4,o5,none,0,0,Y,Y,Y,o6,SlR.nil _ _⟩
  clear hm
  rcases a0g hv with⟨jv,hv⟩|⟨jv,hv⟩
  refine a0v 75 Y jv (a1l Y (a1y (a0k (fun a ha=> ?_))))
  cases hv
  exact⟨Y,ha.cut (l:= [0,2,3,75]) Y⟩
  refine a0v 75 Y jv (a0q Y (a0a (b9x Y Y Y Y Y (a0c Y Y Y (a0e (a0k (fun a ha=> ?_)))))))
  cases hv
  exact⟨Y,ha.cut (l:= [0,2,3,75]) Y⟩
  clear hm
  rcases a0g jb with⟨jw,jb⟩|⟨jw,jb⟩
  refine a0v 56 Y jw (a1l Y (a1y (a0k (fun a ha=> ?_))))
  cases jb
  exact⟨Y,ha.cut (l:= [0,2,3,41,56]) Y⟩
  refine a0v 56 Y jw (a0q Y (a0a (b9x Y Y Y Y Y (a0c Y Y Y (a0e (a0k (fun a ha=> ?_)))))))
  cases jb
  exact⟨Y,ha.cut (l:= [0,2,3,41,56]) Y⟩
  clear hm
  rcases a0g gu with⟨jx,gu⟩|⟨jx,gu⟩
  refine a2q 25 Y jx (a0h fa152_0 Y Y Y (a1m ag3 Y Y Z Y (i:=0) Y Y (a0n Y Y Y Y Y (a0m Y Y Y Y (a0e (a0k (fun a ha=> ?_)))))))
  cases gu
  exact⟨Y,ha.cut (l:= [0,2,3,29]) Y⟩
  refine a2q 25 Y jx (a0x Y (by decide) Y (a0x Y (by decide) Y (a0x Y (by decide) Y (a0j Y Y Y Y (a0e (a0k (fun a ha=> ?_)))))))
  cases gu
  exact⟨Y,ha.cut (l:= [0,2,3,29]) Y⟩
theorem b4z(n:Nat)(rx1:reader)(r:(reader×Expr))(hm:tariff_reader_expr n rx1=some r){w:World}{F:Frz}(hs:Sat F w){g:Option Addr}{h:Nat}{i:Nat}{brx1:Nat}(j:SlR rp_Token F g h i rx1.l)(hbrx1:(OE.box brx1 149 [.slice g h i,.int .i64 rx1.at_,.int .i64 rx1.e]).ok w)(hfrx1:F brx1=none):
 Calls Tryz.prog 134 #[.pointer (some ⟨brx1,0,none⟩)] w fun e w'=>∃v F' cs' O',e= .returned v/\HS F w [brx1] F' (.box brx1 149 cs'::O') w'/\(∃(al_0:Option Addr)(nl_0:Nat)(cl_0:Nat)(a0_3:Option Addr)(n0_3:Nat)(c0_3:Nat),v= .agg #[.int .i64 r.2.Op,.int .i64 r.2.N,vs r.2.Name,.slice a0_3 n0_3 c0_3]/\cs'= [.slice al_0 nl_0 cl_0,.int .i64 r.1.at_,.int .i64 r.1.e]/\O'= []/\SlR rp_Token F' al_0 nl_0 cl_0 r.1.l/\SlR rp_Expr F' a0_3 n0_3 c0_3 r.2.Args):=
 (b4o n).1 rx1 r hm hs j hbrx1 hfrx1
theorem ze26:b6q Tryz.prog 26 (.agg #[vs [],.int .i64 0,.int .i64 0,vs [],.slice none 0 0,.int .i64 0]):=fun _=>by kernel_rfl
theorem ent131:Ent Tryz.prog 131:=fun _ _=>by kernel_rfl
def b2b(n:Nat)(s1:Bs):Option (Tariff×Int×Int):=
 (b9e n s1).bind fun v1=>
 bif v1.2.2 !=0 then
  some ((⟨[],(⟨0,0,[],[]⟩:Expr),0⟩:Tariff),v1.2.1,v1.2.2)
 else
  (a1c n (⟨v1.1,0,0⟩:reader) [[116,97,114,105,102,102]]).bind fun v2=>
  (a5x n v2 0).bind fun v3=>
  (a1c n v3.1 [[123],[102,101,101],[61]]).bind fun v4=>
  (tariff_reader_expr n v4).bind fun v5=>
  (a8j n v5.1 [59]).bind fun v6=>
  (bif v6.2 then
   (tariff_sized n v5.2 10 100).bind fun v16=>
   some (!v16.2,v16.1)
  else
   some (false,100)).bind fun(v7,_)=>
  (bif v7 then
   (a3e n v6.1 6).bind fun v15=>
   some (v15.l,v15.at_,v15.e)
  else
   some (v6.1.l,v6.1.at_,v6.1.e)).bind fun(f2,f3,f4)=>
  (a1c n (⟨f2,f3,f4⟩:reader) [[59]]).bind fun v8=>
  (a3j n v8 [99,97,112]).bind fun v9=>
  (bif v9.2 then
   (a1c n v9.1 [[61]]).bind fun v12=>
   (a5x n v12 1).bind fun v13=>
   (a1c n v13.1 [[59]]).bind fun v14=>
   some (v13.2.N,v14.l,v14.at_,v14.e)
  else
   some ((-1),v9.1.l,v9.1.at_,v9.1.e)).bind fun(f5,f6,f7,f8)=>
  (a1c n (⟨f6,f7,f8⟩:reader) [[125]]).bind fun v10=>
  (bif decide (v10.at_<(v1.1.length:Int))then
   (a3e n v10 12).bind fun v11=>
   some (v11.l,v11.at_,v11.e)
  else
   some (v10.l,v10.at_,v10.e)).bind fun(_,f10,f11)=>
  bif f11==0 then
   some ((⟨v3.2.Text,v5.2,f5⟩:Tariff),0,0)
  else
   bif decide (f10<(v1.1.length:Int))then
    (ix v1.1 f10).bind fun ex1=>
    some ((⟨[],(⟨0,0,[],[]⟩:Expr),0⟩:Tariff),ex1.Pos,f11)
   else
    some ((⟨[],(⟨0,0,[],[]⟩:Expr),0⟩:Tariff),(s1.length:Int),f11)
theorem c3d(n:Nat)(s1:Bs)(r:(Tariff×Int×Int))(hm:b2b n s1=some r){w:World}{F:Frz}(hs:Sat F w)(hg0:FX F 0 [.int .u8 40,.int .u8 41,.int .u8 44,.int .u8 59,.int .u8 58,.int .u8 61,.int .u8 60,.int .u8 43,.int .u8 45,.int .u8 42,.int .u8 47,.int .u8 123,.int .u8 125]):
 Calls Tryz.prog 70 #[vs s1] w fun e w'=>∃v F' O',e= .returned v/\HS F w [] F' O' w'/\(∃(a0_4:Option Addr)(n0_4:Nat)(c0_4:Nat),v= .tuple #[.agg #[vs r.1.Name,.int .i64 r.1.Fee.Op,.int .i64 r.1.Fee.N,vs r.1.Fee.Name,.slice a0_4 n0_4 c0_4,.int .i64 r.1.Cap],.int .i64 r.2.1,.int .i64 r.2.2]/\O'= []/\SlR rp_Expr F' a0_4 n0_4 c0_4 r.1.Fee.Args):=by
 unfold b2b at hm
 have h:=HS.init hs
 refine a1v 110 Tryz.func70 Y Y Y (a0f (a0a (a2y ze26 Y Y Y h ?_)))
 intro b1 lk h9
 refine a0c Y Y Y (a0c Y Y Y (a0e (a0d (a0f (a0a (a0b Y Y Y ?_))))))
 obtain⟨v1,jb,hm⟩:=Yb hm
 refine a1s ent131 Y Y Y Y h9 (c5p _ _ _ jb h9.sat hg0) ?_
 rintro _ jc _ ll lm hb ⟨g3,g4,g5,rfl,rfl,gf⟩
 refine a0b Y Y Y (a1a Y Y Y Y (a1a Y Y Y Y (a1a Y Y Y Y (a0c Y Y Y (a0c Y Y Y (a0c Y Y Y (a0e (a0d (a0f (a0f (a0a (a0b Y Y Y (a0n Y Y Y Y Y (a0e (a0d ?_)))))))))))))))
 rcases a0g hm with⟨gk,hm⟩|⟨gk,hm⟩
 refine a0v 18 Y gk (a1l Y (a0f (a0a (a4d (v:= .agg #[vs [],.int .i64 0,.int .i64 0,vs [],.slice none 0 0,.int .i64 0]) Y Y Y (fun _=>by kernel_rfl) (a0b Y Y Y (a0b Y Y Y (a0o sz26 Y hb Y Y Y Y (i:=0) Y Y Y Y ?_)))))))
 intro ln hc
 refine a0c Y Y Y (a0c Y Y Y (a0e (a0d (a3b (a0l (a6h (vl:= [.agg #[vs [],.int .i64 0,.int .i64 0,vs [],.slice none 0 0,.int .i64 0],.int .i64 v1.2.1,.int .i64 v1.2.2]) Y ⟨b4k ag26 sz26 Y hc Y (i:=0) Y,a3u Y,a3u Y,trivial⟩ (by simp) ?_))))))
 obtain rfl:=Yo hm
 exact⟨_,_,_,Y,hc.Yp [] Y Y,none,0,0,Y,Y,SlR.nil _ _⟩
 refine a0v 18 Y gk (a0q Y (a1y (a0d (a0f (a0a (a0b Y Y Y (a4d (v:= .agg #[.slice g3 g4 g5,.int .i64 0,.int .i64 0]) Y Y Y (fun _=>by kernel_rfl) (e4y Y Y Y Y hb ?_))))))))
 intro b2 lo jd
 refine a0c Y Y Y (a0e (a0d (a0f (a0a (a0b Y Y Y (a0i (e:=9) (cs:= [vs [116,97,114,105,102,102]]) (q:=1) Y Y jd Y (fun _=>by kernel_rfl) Y Y ?_))))))
 intro b3 lp je
 obtain⟨lq,hd,gg,hsx1⟩:=a1n je (i:=0) Y ((show RowN Rp.str jc 1 [vs [116,97,114,105,102,102]] [[116,97,114,105,102,102]]from⟨Y,⟨_,_,Y,Y,(Y:RowR Rp.str _ [] [])⟩⟩))
 obtain⟨v2,jf,hm⟩:=Yb hm
 refine a1q ent132 Y Y Y Y gg (i:=0) Y (a0w _ _ _ _ jf gg.sat (gf.mono hd) (gg.get (i:=0) Y) (gg.lendable (i:=0) Y) hsx1) ?_
 rintro _ lr _ _ ls jg gh ⟨lt,lu,lv,rfl,rfl,rfl,jh⟩
 refine a0e (a0d (a0f (a0a (a0b Y Y Y ?_))))
 obtain⟨v3,ji,hm⟩:=Yb hm
 refine a1q ent133 Y Y Y Y gh (i:=0) Y (a8a _ _ _ _ ji gh.sat jh (gh.get (i:=0) Y) (gh.lendable (i:=0) Y)) ?_
 rintro _ jj _ _ lw jk jl ⟨lx,ly,lz,rfl,rfl,rfl,jm⟩
 refine c9j (v:= .agg #[.int .i64 v3.2.Kind,vs v3.2.Text,.int .i64 v3.2.N,.int .i64 v3.2.Pos]) (u:=vs v3.2.Text) (fun _=>by kernel_rfl) Y Y Y (a4d (v:= .agg #[vs v3.2.Text,.int .i64 0,.int .i64 0,vs [],.slice none 0 0,.int .i64 (-1)]) Y Y Y (fun _=>by kernel_rfl) (a2y ze26 Y Y Y jl ?_))
 intro b4 m0 jn
 refine a0o sz26 Y jn Y Y Y Y (i:=0) Y Y Y Y ?_
 intro m1 hk
 refine a0e (a0d (a0f (a0a (a0b Y Y Y (a0i (e:=9) (cs:= [vs [123],vs [102,101,101],vs [61]]) (q:=1) Y Y hk Y (fun _=>by kernel_rfl) Y Y ?_)))))
 intro b5 k5 hl
 obtain⟨m2,he,Q,hsx2⟩:=a1n hl (i:=0) Y ((show RowN Rp.str jj 3 [vs [123],vs [102,101,101],vs [61]] [[123],[102,101,101],[61]]from⟨Y,⟨_,_,Y,Y,⟨_,_,Y,Y,⟨_,_,Y,Y,(Y:RowR Rp.str _ [] [])⟩⟩⟩⟩))
 obtain⟨v4,jo,hm⟩:=Yb hm
 refine a1q ent132 Y Y Y Y Q (i:=1) Y (a0w _ _ _ _ jo Q.sat (jm.mono he) (Q.get (i:=1) Y) (Q.lendable (i:=1) Y) hsx2) ?_
 rintro _ m3 _ _ k6 jp R ⟨m4,m5,m6,rfl,rfl,rfl,jq⟩
 refine a0e (a0d (a0f (a0a (a0b Y Y Y ?_))))
 obtain⟨v5,jr,hm⟩:=Yb hm
 refine a1q ent134 Y Y Y Y R (i:=1) Y (b4z _ _ _ jr R.sat jq (R.get (i:=1) Y) (R.lendable (i:=1) Y)) ?_
 rintro _ m7 _ _ k7 js hn ⟨m8,m9,ma,k,m,o,rfl,rfl,rfl,jt,hf⟩
 refine a0h fa26_1 Y Y Y (a0o sz24 Y hn Y Y Y Y (i:=0) Y Y Y Y ?_)
 intro k8 ho
 refine a0e (a0d (a0f (a0f (a0a (a2y ze3 Y Y Y ho ?_)))))
 intro b6 k9 hp
 refine a0o sz3 Y hp Y Y Y Y (i:=0) Y Y Y Y ?_
 intro ka T
 refine a0e (a0d (a0f (a0a (a0b Y Y Y ?_))))
 obtain⟨v6,ju,hm⟩:=Yb hm
 refine a1q ent135 Y Y Y Y T (i:=2) Y (b1l _ _ _ _ ju T.sat jt (T.get (i:=2) Y) (T.lendable (i:=2) Y)) ?_
 rintro _ jv _ _ kb gl p ⟨hg,hh,hi,rfl,rfl,rfl,hj⟩
 refine a0b Y Y Y ?_
 obtain⟨⟨v7,f1⟩,y,hm⟩:=Yb hm
 refine a6y 5 (fun a w'=>∃(gi:Frz),Frz.le jv gi/\HS F w [] gi [.box b6 3 [.int .i64 f1],.box b4 26 [vs v3.2.Text,.int .i64 v5.2.Op,.int .i64 v5.2.N,vs v5.2.Name,.slice k m o,.int .i64 (-1)],.box b2 149 [.slice hg hh hi,.int .i64 v6.1.at_,.int .i64 v6.1.e],.box b1 26 [vs [],.int .i64 0,.int .i64 0,vs [],.slice none 0 0,.int .i64 0]] w'/\Has 110 a [(0,vs s1),(2,.pointer (some ⟨b1,0,none⟩)),(5,.slice g3 g4 g5),(8,.pointer (some ⟨b2,0,none⟩)),(9,.pointer (some ⟨b4,0,none⟩)),(45,.bool v7)]) ?_ ?_
 rintro a kc ⟨gi,gj,z,hr⟩
 refine a1u hr (a0e (a0d ?_))
 obtain⟨⟨f2,f3,f4⟩,G,hm⟩:=Yb hm
 refine b5l (fun a w'=>∃(H:Frz)(gm:Option Addr)(gn:Nat)(go:Nat),Frz.le gi H/\HS F w [] H [.box b6 3 [.int .i64 f1],.box b4 26 [vs v3.2.Text,.int .i64 v5.2.Op,.int .i64 v5.2.N,vs v5.2.Name,.slice k m o,.int .i64 (-1)],.box b2 149 [.slice gm gn go,.int .i64 f3,.int .i64 f4],.box b1 26 [vs [],.int .i64 0,.int .i64 0,vs [],.slice none 0 0,.int .i64 0]] w'/\(SlR rp_Token H gm gn go f2)/\Has 110 a [(0,vs s1),(2,.pointer (some ⟨b1,0,none⟩)),(5,.slice g3 g4 g5),(8,.pointer (some ⟨b2,0,none⟩)),(9,.pointer (some ⟨b4,0,none⟩))]) ?_ ?_
 rintro a kd ⟨H,gm,gn,go,gp,ht,jw,hu⟩
 refine a2a hu (a0f (a0a (a0b Y Y Y (a0i (e:=9) (cs:= [vs [59]]) (q:=1) Y Y ht Y (fun _=>by kernel_rfl) Y Y ?_))))
 intro b7 ke hv
 obtain⟨kf,g6,U,hsx3⟩:=a1n hv (i:=0) Y ((show RowN Rp.str H 1 [vs [59]] [[59]]from⟨Y,⟨_,_,Y,Y,(Y:RowR Rp.str _ [] [])⟩⟩))
 obtain⟨v8,jx,hm⟩:=Yb hm
 refine a1q ent132 Y Y Y Y U (i:=2) Y (a0w _ _ _ _ jx U.sat (jw.mono g6) (U.get (i:=2) Y) (U.lendable (i:=2) Y) hsx3) ?_
 rintro _ kg _ _ kh gq V ⟨ki,kj,kk,rfl,rfl,rfl,hw⟩
 refine a0e (a0d (a0f (a0f (a0a (a0b Y Y Y ?_)))))
 obtain⟨v9,jy,hm⟩:=Yb hm
 refine a1q ent137 Y Y Y Y V (i:=2) Y (a4c _ _ _ _ jy V.sat hw (V.get (i:=2) Y) (V.lendable (i:=2) Y)) ?_
 rintro _ gr _ _ kl gs gt ⟨hx,hy,hz,rfl,rfl,rfl,gu⟩
 refine a0e (a0d ?_)
 obtain⟨⟨f5,f6,f7,f8⟩,g,hm⟩:=Yb hm
 refine b5l (fun a w'=>∃(I:Frz)(g7:Option Addr)(g8:Nat)(g9:Nat),Frz.le gr I/\HS F w [] I [.box b6 3 [.int .i64 f1],.box b4 26 [vs v3.2.Text,.int .i64 v5.2.Op,.int .i64 v5.2.N,vs v5.2.Name,.slice k m o,.int .i64 f5],.box b2 149 [.slice g7 g8 g9,.int .i64 f7,.int .i64 f8],.box b1 26 [vs [],.int .i64 0,.int .i64 0,vs [],.slice none 0 0,.int .i64 0]] w'/\(SlR rp_Token I g7 g8 g9 f6)/\Has 110 a [(0,vs s1),(2,.pointer (some ⟨b1,0,none⟩)),(5,.slice g3 g4 g5),(8,.pointer (some ⟨b2,0,none⟩)),(9,.pointer (some ⟨b4,0,none⟩))]) ?_ ?_
 rintro a km ⟨I,g7,g8,g9,gv,i0,i1,i2⟩
 refine a2a i2 (a0f (a0a (a0b Y Y Y (a0i (e:=9) (cs:= [vs [125]]) (q:=1) Y Y i0 Y (fun _=>by kernel_rfl) Y Y ?_))))
 intro b8 kn i3
 obtain⟨ko,ga,Z,hsx4⟩:=a1n i3 (i:=0) Y ((show RowN Rp.str I 1 [vs [125]] [[125]]from⟨Y,⟨_,_,Y,Y,(Y:RowR Rp.str _ [] [])⟩⟩))
 obtain⟨v10,jz,hm⟩:=Yb hm
 refine a1q ent132 Y Y Y Y Z (i:=2) Y (a0w _ _ _ _ jz Z.sat (i1.mono ga) (Z.get (i:=2) Y) (Z.lendable (i:=2) Y) hsx4) ?_
 rintro _ i4 _ _ kp gw s ⟨i5,i6,i7,rfl,rfl,rfl,gx⟩
 refine a0e (a0d (a0f (a0f (a0a (a0b Y Y Y (a9p Y Y Y (a0h fa149_1 Y Y Y (a1m ag3 Y Y s Y (i:=2) Y Y (a0b Y Y Y (a6c gf.len u144 Y Y Y (a0n Y Y Y Y Y ?_)))))))))))
 refine a0e (a0d ?_)
 obtain⟨⟨f9,f10,f11⟩,J,hm⟩:=Yb hm
 refine b5l (fun a w'=>∃(t:Frz)(K:Option Addr)(L:Nat)(M:Nat),Frz.le i4 t/\HS F w [] t [.box b6 3 [.int .i64 f1],.box b4 26 [vs v3.2.Text,.int .i64 v5.2.Op,.int .i64 v5.2.N,vs v5.2.Name,.slice k m o,.int .i64 f5],.box b2 149 [.slice K L M,.int .i64 f10,.int .i64 f11],.box b1 26 [vs [],.int .i64 0,.int .i64 0,vs [],.slice none 0 0,.int .i64 0]] w'/\(SlR rp_Token t K L M f9)/\Has 110 a [(0,vs s1),(2,.pointer (some ⟨b1,0,none⟩)),(5,.slice g3 g4 g5),(8,.pointer (some ⟨b2,0,none⟩)),(9,.pointer (some ⟨b4,0,none⟩))]) ?_ ?_
 rintro a kq ⟨t,K,L,M,gy,x,kr,i8⟩
 refine a2a i8 (a0f (a2c (a0f (a0a (a0b Y Y Y (a9p Y Y Y (a0h fa149_2 Y Y Y (a1m ag38 Y Y x Y (i:=2) Y Y (a0n Y Y Y Y Y (a0c Y Y Y (a0e (a0d ?_))))))))))))
 rcases a0g hm with⟨gz,hm⟩|⟨gz,hm⟩
 refine a0v 75 Y gz (a1l Y (a0f (a0a (a5b ag26 sz26 Y Y x Y (i:=1) Y Y (a0o sz26 Y x Y Y Y Y (i:=3) Y Y Y Y ?_)))))
 intro ks h0
 refine a0c Y Y Y (a0c Y Y Y (a0e (a0d (a3b (a1e (a0l (a6h (vl:= [.agg #[vs v3.2.Text,.int .i64 v5.2.Op,.int .i64 v5.2.N,vs v5.2.Name,.slice k m o,.int .i64 f5],.int .i64 0,.int .i64 0]) Y ⟨b4k ag26 sz26 Y h0 Y (i:=3) Y,a3u Y,a3u Y,trivial⟩ (by simp) ?_)))))))
 obtain rfl:=Yo hm
 exact⟨_,_,_,Y,h0.Yp [] Y Y,k,m,o,Y,Y,((((((((((hf.mono gl).mono gj).mono gp).mono g6).mono gq).mono gs).mono gv).mono ga).mono gw).mono gy)⟩
 refine a0v 75 Y gz (a0q Y (a0f (a0a (a0b Y Y Y (a9p Y Y Y (a0h fa149_1 Y Y Y (a1m ag3 Y Y x Y (i:=2) Y Y (a0b Y Y Y (a6c gf.len u144 Y Y Y ?_)))))))))
 refine a0n Y Y Y Y Y (a0c Y Y Y (a0e (a0d ?_)))
 rcases a0g hm with⟨h1,hm⟩|⟨h1,hm⟩
 refine a0v 82 Y h1 (a1l Y (a0f (a6u (SH t [.box b6 3 [.int .i64 f1],.box b4 26 [vs v3.2.Text,.int .i64 v5.2.Op,.int .i64 v5.2.N,vs v5.2.Name,.slice k m o,.int .i64 f5],.box b2 149 [.slice K L M,.int .i64 f10,.int .i64 f11],.box b1 26 [vs [],.int .i64 0,.int .i64 0,vs [],.slice none 0 0,.int .i64 0]]) 16 Y (by kernel_rfl) x ?_)))
 intro kt h2
 have S0:=h2.Ys Yf [0,1,2,3] Y Y
 refine d_tk 0 Y (by kernel_rfl) Y Y Y Y S0 (fun _ _ _ _ _=>a4d (v:= .agg #[vs [],.int .i64 0,.int .i64 0,vs [],.slice none 0 0,.int .i64 0]) Y Y Y (fun _=>by kernel_rfl) Yn) (d_tk 1 Y (by kernel_rfl) Y Y Y Y S0 (fun _ _ _ _ _=>a0b Y Y Y Yn) (d_tk 2 Y (by kernel_rfl) Y Y Y Y S0 (fun _ _ _ _ _=>a0b Y Y Y Yn) (c7n 3 Y (by kernel_rfl) (by kernel_rfl) (by kernel_rfl) Y Y Y S0 (d_tk 4 Y (by kernel_rfl) Y Y Y Y S0 (fun _ _ _ _ _=>a0h fa149_1 Y Y Y Yn) (d_tk 5 Y (by kernel_rfl) Y Y Y Y S0 (fun _ _ _ _ hq=>a1m ag3 Y Y hq Y (i:=2) Y Y Yn) ?_)))))
 obtain⟨ex1,k0,hm⟩:=Yb hm
 obtain⟨b9,o1,k1,k2,k3,h8⟩:=b1e (P:=Tryz.prog) (r:=rp_Token) u144 sz152 ((((((((((((((((gf.mono hd).mono jg).mono jk).mono he).mono jp).mono js).mono gl).mono gj).mono gp).mono g6).mono gq).mono gs).mono gv).mono ga).mono gw).mono gy) k0
 have k4:k1= [.int .i64 ex1.Kind,vs ex1.Text,.int .i64 ex1.N,.int .i64 ex1.Pos]:=k3
 subst k4
 refine c6q 6 Y (by kernel_rfl) (by kernel_rfl) (by kernel_rfl) Y Y Y Y h8 S0 (d_tk 7 Y (by kernel_rfl) Y Y Y Y S0 (fun _ _ _ _ _=>a0h fa152_3 Y Y Y Yn) (d_tk 8 Y (by kernel_rfl) Y Y Y Y S0 (fun _ _ _ hleq hq=>a6k (j:=3) ag3 Y Y hq (k2.mono hleq) Y Y Yn) (d_tk 9 Y (by kernel_rfl) Y Y Y Y S0 (fun _ _ _ _ _=>a0b Y Y Y Yn) (c7n 10 Y (by kernel_rfl) (by kernel_rfl) (by kernel_rfl) Y Y Y S0 (d_tk 11 Y (by kernel_rfl) Y Y Y Y S0 (fun _ _ _ _ _=>a0h fa149_2 Y Y Y Yn) (d_tk 12 Y (by kernel_rfl) Y Y Y Y S0 (fun _ _ _ _ hq=>a1m ag38 Y Y hq Y (i:=2) Y Y Yn) ?_))))))
 refine a1r 13 Y (by kernel_rfl) (a0o sz26 Y h2 Y Y Y Y (i:=3) Y Y Y Y ?_)
 intro ku gb
 have S1:=gb.Ys Yf [0,1,2,3] Y Y
 refine a0y S1 (d_tk 14 Y (by kernel_rfl) Y Y Y Y S1 (fun _ _ _ _ _=>a0c Y Y Y Yn) (d_tk 15 Y (by kernel_rfl) Y Y Y Y S1 (fun _ _ _ _ _=>a0c Y Y Y Yn) (a7x (by kernel_rfl) (a0d (a3b (a1e (a0l (a6h (vl:= [.agg #[vs [],.int .i64 0,.int .i64 0,vs [],.slice none 0 0,.int .i64 0],.int .i64 ex1.Pos,.int .i64 f11]) Y ⟨b4k ag26 sz26 Y gb Y (i:=3) Y,a3u Y,a3u Y,trivial⟩ (by simp) ?_))))))))
 obtain rfl:=Yo hm
 exact⟨_,_,_,Y,gb.Yp [] Y Y,none,0,0,Y,Y,SlR.nil _ _⟩
 refine a0v 82 Y h1 (a0q Y (a1y (a3v (a0d (a0f (a6u (SH t [.box b6 3 [.int .i64 f1],.box b4 26 [vs v3.2.Text,.int .i64 v5.2.Op,.int .i64 v5.2.N,vs v5.2.Name,.slice k m o,.int .i64 f5],.box b2 149 [.slice K L M,.int .i64 f10,.int .i64 f11],.box b1 26 [vs [],.int .i64 0,.int .i64 0,vs [],.slice none 0 0,.int .i64 0]]) 10 Y (by kernel_rfl) x ?_))))))
 intro kv h3
 have S2:=h3.Ys Yf [0,1,2,3] Y Y
 refine d_tk 0 Y (by kernel_rfl) Y Y Y Y S2 (fun _ _ _ _ _=>a4d (v:= .agg #[vs [],.int .i64 0,.int .i64 0,vs [],.slice none 0 0,.int .i64 0]) Y Y Y (fun _=>by kernel_rfl) Yn) (d_tk 1 Y (by kernel_rfl) Y Y Y Y S2 (fun _ _ _ _ _=>a0b Y Y Y Yn) (d_tk 2 Y (by kernel_rfl) Y Y Y Y S2 (fun _ _ _ _ _=>b1i u9 Y Y Y Yn) (d_tk 3 Y (by kernel_rfl) Y Y Y Y S2 (fun _ _ _ _ _=>a0b Y Y Y Yn) (c7n 4 Y (by kernel_rfl) (by kernel_rfl) (by kernel_rfl) Y Y Y S2 (d_tk 5 Y (by kernel_rfl) Y Y Y Y S2 (fun _ _ _ _ _=>a0h fa149_2 Y Y Y Yn) (d_tk 6 Y (by kernel_rfl) Y Y Y Y S2 (fun _ _ _ _ hq=>a1m ag38 Y Y hq Y (i:=2) Y Y Yn) ?_))))))
 refine a1r 7 Y (by kernel_rfl) (a0o sz26 Y h3 Y Y Y Y (i:=3) Y Y Y Y ?_)
 intro kw gc
 have S3:=gc.Ys Yf [0,1,2,3] Y Y
 refine a0y S3 (d_tk 8 Y (by kernel_rfl) Y Y Y Y S3 (fun _ _ _ _ _=>a0c Y Y Y Yn) (d_tk 9 Y (by kernel_rfl) Y Y Y Y S3 (fun _ _ _ _ _=>a0c Y Y Y Yn) (a7x (by kernel_rfl) (a0d (a3b (a6h (vl:= [.agg #[vs [],.int .i64 0,.int .i64 0,vs [],.slice none 0 0,.int .i64 0],.int .i64 (s1.length:Int),.int .i64 f11]) Y ⟨b4k ag26 sz26 Y gc Y (i:=3) Y,a3u Y,a3u Y,trivial⟩ (by simp) ?_))))))
 obtain rfl:=Yo hm
 exact⟨_,_,_,Y,gc.Yp [] Y Y,none,0,0,Y,Y,SlR.nil _ _⟩
 clear hm
 rcases a0g J with⟨h4,J⟩|⟨h4,J⟩
 refine a0v 72 Y h4 (a1l Y (a0a (a0b Y Y Y ?_)))
 obtain⟨v11,i9,J⟩:=Yb J
 refine a1q ent136 Y Y Y Y s (i:=2) Y (a3i _ _ _ _ i9 s.sat gx (s.get (i:=2) Y) (s.lendable (i:=2) Y)) ?_
 rintro _ kx _ _ ky ia ib ⟨ic,id,ie,rfl,rfl,rfl,ig⟩
 refine a0e (a0k (fun a ha=> ?_))
 cases J
 exact⟨_,ic,id,ie,ia,ib.Yp [0,1,2,3] Y Y,ig,ha.cut (l:= [0,2,5,8,9]) Y⟩
 refine a0v 72 Y h4 (a0q Y (a1y (a0k (fun a ha=> ?_))))
 cases J
 exact⟨_,i5,i6,i7,Yf,s.Yp [0,1,2,3] Y Y,gx,ha.cut (l:= [0,2,5,8,9]) Y⟩
 clear hm
 rcases a0g g with⟨h5,g⟩|⟨h5,g⟩
 refine a0v 52 Y h5 (a1l Y (a0f (a0a (a0b Y Y Y (a0i (e:=9) (cs:= [vs [61]]) (q:=1) Y Y gt Y (fun _=>by kernel_rfl) Y Y ?_)))))
 intro b10 kz ih
 obtain⟨l0,h6,g0,hsx5⟩:=a1n ih (i:=0) Y ((show RowN Rp.str gr 1 [vs [61]] [[61]]from⟨Y,⟨_,_,Y,Y,(Y:RowR Rp.str _ [] [])⟩⟩))
 obtain⟨v12,ii,g⟩:=Yb g
 refine a1q ent132 Y Y Y Y g0 (i:=2) Y (a0w _ _ _ _ ii g0.sat (gu.mono h6) (g0.get (i:=2) Y) (g0.lendable (i:=2) Y) hsx5) ?_
 rintro _ l1 _ _ l2 ij g1 ⟨l3,l4,l5,rfl,rfl,rfl,ik⟩
 refine a0e (a0d (a0f (a0a (a0b Y Y Y ?_))))
 obtain⟨v13,il,g⟩:=Yb g
 refine a1q ent133 Y Y Y Y g1 (i:=2) Y (a8a _ _ _ _ il g1.sat ik (g1.get (i:=2) Y) (g1.lendable (i:=2) Y)) ?_
 rintro _ im _ _ l6 io ip ⟨l7,l8,l9,rfl,rfl,rfl,iq⟩
 refine c9j (v:= .agg #[.int .i64 v13.2.Kind,vs v13.2.Text,.int .i64 v13.2.N,.int .i64 v13.2.Pos]) (u:= .int .i64 v13.2.N) (fun _=>by kernel_rfl) Y Y Y (a0h fa26_2 Y Y Y (a0o sz3 Y ip Y Y Y Y (i:=1) Y Y Y Y ?_))
 intro la ir
 refine a0e (a0d (a0a (a0b Y Y Y (a0i (e:=9) (cs:= [vs [59]]) (q:=1) Y Y ir Y (fun _=>by kernel_rfl) Y Y ?_))))
 intro b11 lb it
 obtain⟨lc,h7,g2,hsx6⟩:=a1n it (i:=0) Y ((show RowN Rp.str im 1 [vs [59]] [[59]]from⟨Y,⟨_,_,Y,Y,(Y:RowR Rp.str _ [] [])⟩⟩))
 obtain⟨v14,iu,g⟩:=Yb g
 refine a1q ent132 Y Y Y Y g2 (i:=2) Y (a0w _ _ _ _ iu g2.sat (iq.mono h7) (g2.get (i:=2) Y) (g2.lendable (i:=2) Y) hsx6) ?_
 rintro _ ld _ _ lf iv iw ⟨ix,iy,iz,rfl,rfl,rfl,j0⟩
 refine a0e (a0k (fun a ha=> ?_))
 cases g
 exact⟨_,ix,iy,iz,((((h6.trans ij).trans io).trans h7).trans iv),iw.Yp [0,1,2,3] Y Y,j0,ha.cut (l:= [0,2,5,8,9]) Y⟩
 refine a0v 52 Y h5 (a0q Y (a1y (a0k (fun a ha=> ?_))))
 cases g
 exact⟨_,hx,hy,hz,Yf,gt.Yp [0,1,2,3] Y Y,gu,ha.cut (l:= [0,2,5,8,9]) Y⟩
 clear hm
 rcases a0g G with⟨gd,G⟩|⟨gd,G⟩
 refine a0v 45 Y gd (a1l Y (a0a (a0b Y Y Y ?_)))
 obtain⟨v15,j1,G⟩:=Yb G
 refine a1q ent136 Y Y Y Y z (i:=2) Y (a3i _ _ _ _ j1 z.sat (hj.mono gj) (z.get (i:=2) Y) (z.lendable (i:=2) Y)) ?_
 rintro _ lg _ _ lh j2 j3 ⟨j4,j5,j6,rfl,rfl,rfl,j7⟩
 refine a0e (a0k (fun a ha=> ?_))
 cases G
 exact⟨_,j4,j5,j6,j2,j3.Yp [0,1,2,3] Y Y,j7,ha.cut (l:= [0,2,5,8,9]) Y⟩
 refine a0v 45 Y gd (a0q Y (a1y (a0k (fun a ha=> ?_))))
 cases G
 exact⟨_,hg,hh,hi,Yf,z.Yp [0,1,2,3] Y Y,(hj.mono gj),ha.cut (l:= [0,2,5,8,9]) Y⟩
 clear hm
 rcases a0g y with⟨ge,y⟩|⟨ge,y⟩
 refine a2q 40 Y ge (a0h fa26_1 Y Y Y (d1m (cs':= [.int .i64 v5.2.Op,.int .i64 v5.2.N,vs v5.2.Name,.slice k m o]) ag24 sz24 Y Y p Y (i:=1) Y Y Y ?_))
 obtain⟨v16,j8,y⟩:=Yb y
 refine a1q ent129 Y Y Y Y p (i:=0) Y (c1o _ _ _ _ _ j8 p.sat (hf.mono gl) (p.get (i:=0) Y) (p.lendable (i:=0) Y)) ?_
 rintro _ li _ _ lj j9 ja ⟨rfl,rfl,rfl⟩
 refine c3x Y Y Y (a0m Y Y Y Y (a0e (a0k (fun a ha=> ?_))))
 cases y
 exact⟨_,j9,ja.Yp [0,1,2,3] Y Y,ha.cut (l:= [0,2,5,8,9,45]) Y⟩
 refine a2q 40 Y ge (a0x Y (by decide) Y (a0x Y (by decide) Y (a0x Y (by decide) Y (a0x Y (by decide) Y (a0j Y Y Y Y (a0e (a0k (fun a ha=> ?_))))))))
 cases y
 exact⟨_,Yf,p.Yp [0,1,2,3] Y Y,ha.cut (l:= [0,2,5,8,9,45]) Y⟩
end Go.Proofs.YthaegflpecbfgaaGreatDoor.M
namespace Go.Proofs.YthaegflpecbfgaaGreatDoor.M
open Go Go.RowKit Rt
set_option linter.unusedVariables false
structure maker where
 names:(List Bs)
 facts:Facts
 full:Bool
 deriving DecidableEq,Inhabited
structure Affine where
 Const:Frac
 Coefs:(List Frac)
 deriving DecidableEq,Inhabited
def rp_Affine:Rp Affine where
 k:=5
 R:=fun F cs x=>∃(a1:Option Addr)(n1:Nat)(c1:Nat)(a3:Option Addr)(n3:Nat)(c3:Nat)(a4:Option Addr)(n4:Nat)(c4:Nat),cs= [.int .i64 x.Const.P.Sign,.slice a1 n1 c1,.int .i64 x.Const.Q.Sign,.slice a3 n3 c3,.slice a4 n4 c4]/\SlR (Rp.int .i64) F a1 n1 c1 x.Const.P.Digits/\SlR (Rp.int .i64) F a3 n3 c3 x.Const.Q.Digits/\SlR rp_Frac F a4 n4 c4 x.Coefs
 len:=by rintro F cs x ⟨a1,n1,c1,a3,n3,c3,a4,n4,c4,h,_⟩;simp [h]
 mono:=by rintro F F' cs x hF ⟨a1,n1,c1,a3,n3,c3,a4,n4,c4,h,h0,h1,h2⟩;exact⟨a1,n1,c1,a3,n3,c3,a4,n4,c4,h,h0.mono hF,h1.mono hF,h2.mono hF⟩
 one:=by rintro F cs x ⟨a1,n1,c1,a3,n3,c3,a4,n4,c4,h,_⟩ u hu;subst h;simp at hu;rcases hu with rfl|rfl|rfl|rfl|rfl<;>rfl
structure Form where
 Pieces:(List (List Affine))
 deriving DecidableEq,Inhabited
def rp_Form:Rp Form where
 k:=1
 R:=fun F cs x=>∃(a0:Option Addr)(n0:Nat)(c0:Nat),cs= [.slice a0 n0 c0]/\SlR (Rp.sl rp_Affine) F a0 n0 c0 x.Pieces
 len:=by rintro F cs x ⟨a0,n0,c0,h,_⟩;simp [h]
 mono:=by rintro F F' cs x hF ⟨a0,n0,c0,h,h0⟩;exact⟨a0,n0,c0,h,h0.mono hF⟩
 one:=by rintro F cs x ⟨a0,n0,c0,h,_⟩ u hu;subst h;simp at hu;rcases hu with rfl<;>rfl
theorem ze34:b6q Tryz.prog 34 (.agg #[.slice none 0 0]):=fun _=>by kernel_rfl
theorem sz34:SizeIs Tryz.prog 34 1:=fun _=>by kernel_rfl
theorem ag34:a8x Tryz.prog 34 true:=fun _=>by kernel_rfl
def a2g(n:Nat)(mx1:maker)(c1:Frac):Option (maker×Form):=
 (a5s n 0).bind fun v1=>
 (a3n n [v1] (mx1.names.length:Int)).bind fun v2=>
 some (mx1,(⟨[[(⟨c1,v2⟩:Affine)]]⟩:Form))
def a4f(n:Nat)(mx1:maker)(x1:Expr):Option (maker×Frac):=
 (a5s n 0).bind fun v1=>
 (a3n n [v1] (mx1.names.length:Int)).bind fun v2=>
 ((b8h n (⟨[97],x1,(-1)⟩:Tariff) mx1.names mx1.facts v2).bind fun v3=>
 some (v3.1.P.Sign,v3.1.P.Digits,v3.1.Q.Sign,v3.1.Q.Digits)).bind fun(f1,f2,f3,f4)=>
 some (mx1,(⟨(⟨f1,f2⟩:Big),(⟨f3,f4⟩:Big)⟩:Frac))
def a9i(n:Nat)(mx1:maker)(x1:Expr):Option (maker×Bool):=
 (a4f n mx1 (⟨11,0,[],[x1,(⟨0,1,[],[]⟩:Expr),(⟨0,0,[],[]⟩:Expr)]⟩:Expr)).bind fun v1=>
 (b4t n v1.2).bind fun v2=>
 some (v1.1,decide (0<v2))
def a7t(n:Nat)(mx1:maker)(x1:Expr):Option (maker×Int):=
 (b7l n x1 mx1.names).bind fun v1=>
 some (mx1,v1.1)
def minmax_affine_L1(n:Nat)(ax1:Affine)(f1:(Int->Frac->Option Frac))(kont1:(List Frac)->Option Affine):Nat->Int->(List Frac)->Option Affine
 |0,_,_=>none
 |mx1+1,i1,l1=>
  bif decide (i1<(ax1.Coefs.length:Int))then
   (ix ax1.Coefs i1).bind fun ex1=>
   (f1 i1 ex1).bind fun v2=>
   (app 64 l1 [v2]).bind fun l3=>
   minmax_affine_L1 n ax1 f1 kont1 mx1 (iadd .i64 i1 1) l3
  else
   kont1 l1
theorem minmax_affine_L1_s:type_of% @minmax_affine_L1.eq_2:= @minmax_affine_L1.eq_2
def a7i(n:Nat)(ax1:Affine)(f1:(Int->Frac->Option Frac)):Option Affine:=
 (f1 (-1) ax1.Const).bind fun v1=>
 minmax_affine_L1 n ax1 f1 (fun(l2:List Frac)=>
  some (⟨v1,l2⟩:Affine)) n 0 ([]:List Frac)
def a5l(n:Nat)(p1:Int)(x1:Frac)(cap1:Frac):Option Frac:=
 (b2i n x1 cap1).bind fun v1=>
 some v1.1
def a8r(n:Nat)(ax1:Affine)(byx1:Frac):Option Affine:=
 (a7i n ax1 (fun(q0:Int)(q1:Frac)=>a5l n q0 q1 byx1)).bind fun v1=>
 some v1
def b2g(n:Nat)(i1:Int)(x1:Frac)(cap1:Affine):Option Frac:=
 (bif decide (0<=i1)then
  (ix cap1.Coefs i1).bind fun ex1=>
  some (ex1.P.Sign,ex1.P.Digits,ex1.Q.Sign,ex1.Q.Digits)
 else
  some (cap1.Const.P.Sign,cap1.Const.P.Digits,cap1.Const.Q.Sign,cap1.Const.Q.Digits)).bind fun(f1,f2,f3,f4)=>
 (b0h n x1 (⟨(⟨f1,f2⟩:Big),(⟨f3,f4⟩:Big)⟩:Frac)).bind fun v1=>
 some v1.1
def b9k(n:Nat)(ax1:Affine)(b1:Affine):Option Affine:=
 (a7i n ax1 (fun(q0:Int)(q1:Frac)=>b2g n q0 q1 b1)).bind fun v1=>
 some v1
theorem fa34_0:a8p Tryz.prog 34 0 0:=fun _ _ _=>by kernel_rfl
theorem ag32:a8x Tryz.prog 32 false:=fun _=>by kernel_rfl
theorem u32:Tryz.prog.underlying 32=some (.slice 57):=by kernel_rfl
theorem sz57:SizeIs Tryz.prog 57 1:=fun _=>by kernel_rfl
theorem ag57:a8x Tryz.prog 57 false:=fun _=>by kernel_rfl
theorem u57:Tryz.prog.underlying 57=some (.slice 62):=by kernel_rfl
def b2p(n:Nat)(f1:Form)(kont1:Int->Option Int):Nat->Int->Int->Option Int
 |0,_,_=>none
 |mx1+1,nx1,i1=>
  bif decide (i1<(f1.Pieces.length:Int))then
   (ix f1.Pieces i1).bind fun ex1=>
   b2p n f1 kont1 mx1 (iadd .i64 nx1 (ex1.length:Int)) (iadd .i64 i1 1)
  else
   kont1 nx1
def a7e(n:Nat)(f1:Form):Option Int:=
 b2p n f1 (fun(nx2:Int)=>
  some nx2) n 0 0
def a4p(_n:Nat)(mx1:maker)(nx1:Int):Option (maker×Bool):=
 (bif mx1.full then
  some true
 else
  some (decide (200<nx1))).bind fun v1=>
 some ((⟨mx1.names,mx1.facts,v1⟩:maker), !v1)
theorem ap57:AppIs Tryz.prog 57 62 5 88:=AppIs.of (z:= .agg #[.int .i64 0,.slice none 0 0,.int .i64 0,.slice none 0 0,.slice none 0 0]) (by kernel_rfl) (by kernel_rfl) rfl (by decide) (by decide)
def b0w(n:Nat)(f3:Int)(f4:(List Int))(f5:Int)(f6:(List Int))(ex1:(List Affine))(kont2:(List Affine)->Option Form):Nat->Int->(List Affine)->Option Form
 |0,_,_=>none
 |mx2+1,i2,l3=>
  bif decide (i2<(ex1.length:Int))then
   (ix ex1 i2).bind fun ex2=>
   (a8r n ex2 (⟨(⟨f3,f4⟩:Big),(⟨f5,f6⟩:Big)⟩:Frac)).bind fun v1=>
   (app 88 l3 [v1]).bind fun l6=>
   b0w n f3 f4 f5 f6 ex1 kont2 mx2 (iadd .i64 i2 1) l6
  else
   kont2 l3
def b0u(n:Nat)(f1:Form)(kont1:(List (List Affine))->(List (List Affine))->Option Form):Nat->Int->(List (List Affine))->(List (List Affine))->Int->(List Int)->Int->(List Int)->Option Form
 |0,_,_,_,_,_,_,_=>none
 |mx1+1,i1,l1,f2,f3,f4,f5,f6=>
  bif decide (i1<(f1.Pieces.length:Int))then
   (ix f1.Pieces i1).bind fun ex1=>
   b0w n f3 f4 f5 f6 ex1 (fun(l4:List Affine)=>
    (app 24 l1 [l4]).bind fun l5=>
    b0u n f1 kont1 mx1 (iadd .i64 i1 1) l5 f2 f3 f4 f5 f6) n 0 ([]:List Affine)
  else
   kont1 l1 f2
def a9k(n:Nat)(f1:Form)(byx1:Frac):Option Form:=
 b0u n f1 (fun(l2:List (List Affine))(f7:(List (List Affine)))=>
  some (⟨l2⟩:Form)) n 0 ([]:List (List Affine)) [] byx1.P.Sign byx1.P.Digits byx1.Q.Sign byx1.Q.Digits
def a2k(_n:Nat)(s1:(List Affine)):Option (List Affine):=app 88 [] s1
theorem a7z(n:Nat)(s1:(List Affine))(r:(List Affine))(hm:a2k n s1=some r){w:World}{F:Frz}(hs:Sat F w){g:Option Addr}{j:Nat}{k:Nat}(l:SlR rp_Affine F g j k s1):
 Calls Tryz.prog 196 #[.slice g j k] w fun e w'=>∃v F' O',e= .returned v/\HS F w [] F' O' w'/\(∃(a0_0:Option Addr)(n0_0:Nat)(c0_0:Nat)(xs0_0:List Value),v= .slice a0_0 n0_0 c0_0/\O'= [.row 62 5 a0_0 n0_0 c0_0 xs0_0]/\RowN rp_Affine F' n0_0 xs0_0 r):=by
 unfold a2k at hm
 have h:=HS.init hs
 refine a1v (args:= [.slice g j k]) 8 Tryz.func196 Y Y Y (a0f (a0a (a0c Y Y Y (a0e (a0d (a0f (a0f (a0a (a0b Y Y Y (e0d u57 Y Y Y (a0e (a0d ?_))))))))))))
 cases g with
 |none=>
  have h0:s1= []:=by
   rcases l.2.2.2 with h0|⟨_,_,_,h0,_⟩
   ·exact h0
   ·cases h0
  subst h0
  simp only [app,List.length_nil,Nat.add_zero,Nat.zero_mul,Nat.zero_le,if_true,List.append_nil,Option.some.injEq]at hm
  subst hm
  refine a1l Y (a0f (a0a (a0c Y Y Y (a0e (a0d (a3b (a0l (a6z Y Y ?_))))))))
  exact⟨_,_,_,Y,h.nilRow 62 5,none,0,0,[],Y,Y,Y,Y⟩
 |some ad=>
  refine a0q Y (a1y (a0d (a0f (a0a (a0i (e:=62) (cs:= []) (q:=5) Y Y h Y (fun _=>by kernel_rfl) Y Y ?_)))))
  intro b1 w1 h1
  refine a0b Y Y Y (b8g (r:=rp_Affine) ap57 Y Y Y h1 Y Y (i:=0) Y (show RowN rp_Affine _ 0 [] []from⟨Y,Y⟩) l hm ?_)
  intro a2 c2 w2 xs2 h2 m
  refine a0c Y Y Y (a0e (a0d (a3b (a6z Y Y ?_))))
  exact⟨_,_,_,Y,h2,a2,_,c2,xs2,Y,Y,m⟩
def a5v(n:Nat)(ex1:(List Affine))(ex2:(List Affine))(kont3:(List (List Affine))->Option (maker×Form)):Nat->Int->(List (List Affine))->Option (maker×Form)
 |0,_,_=>none
 |mx4+1,i3,l3=>
  bif decide (i3<(ex1.length:Int))then
   (ix ex1 i3).bind fun ex3=>
   (a2k n ex2).bind fun v2=>
   (a5s n (-1)).bind fun v3=>
   (a8r n ex3 v3).bind fun v4=>
   (app 88 v2 [v4]).bind fun l5=>
   (app 24 l3 [l5]).bind fun l6=>
   a5v n ex1 ex2 kont3 mx4 (iadd .i64 i3 1) l6
  else
   kont3 l3
def a6b(n:Nat)(choices1:(List (List Affine)))(ex1:(List Affine))(kont2:(List (List Affine))->(List (List Affine))->(List (List Affine))->(List Bs)->(List Int)->Int->Int->Bool->Option (maker×Form)):Nat->Int->(List (List Affine))->(List (List Affine))->(List (List Affine))->(List Bs)->(List Int)->Int->Int->Bool->Option (maker×Form)
 |0,_,_,_,_,_,_,_,_,_=>none
 |mx3+1,i2,l1,f15,f16,f17,f18,f19,f20,f21=>
  bif decide (i2<(choices1.length:Int))then
   (ix choices1 i2).bind fun ex2=>
   a5v n ex1 ex2 (fun(l4:List (List Affine))=>
    a6b n choices1 ex1 kont2 mx3 (iadd .i64 i2 1) l4 f15 f16 f17 f18 f19 f20 f21) n 0 l1
  else
   kont2 l1 f15 f16 f17 f18 f19 f20 f21
def a5w(n:Nat)(f1:Form)(kont1:(List (List Affine))->(List (List Affine))->(List Bs)->(List Int)->Int->Int->Bool->Option (maker×Form)):Nat->(List (List Affine))->Int->(List (List Affine))->(List (List Affine))->(List Bs)->(List Int)->Int->Int->Bool->Option (maker×Form)
 |0,_,_,_,_,_,_,_,_,_=>none
 |mx2+1,choices1,i1,f2,f3,f4,f5,f6,f7,f8=>
  bif decide (i1<(f1.Pieces.length:Int))then
   (ix f1.Pieces i1).bind fun ex1=>
   (a4p n (⟨f4,(⟨f5,f6,f7⟩:Facts),f8⟩:maker) (imul .i64 (imul .i64 (choices1.length:Int) (ex1.length:Int)) (f3.length:Int))).bind fun v1=>
   bif !v1.2 then
    some (v1.1,(⟨[]⟩:Form))
   else
    a6b n choices1 ex1 (fun(l2:List (List Affine))(f22:(List (List Affine)))(f23:(List (List Affine)))(f24:(List Bs))(f25:(List Int))(f26:Int)(f27:Int)(f28:Bool)=>
     a5w n f1 kont1 mx2 l2 (iadd .i64 i1 1) f22 f23 f24 f25 f26 f27 f28) n 0 ([]:List (List Affine)) f2 f3 v1.1.names v1.1.facts.Lifts v1.1.facts.Persons v1.1.facts.Flats v1.1.full
  else
   kont1 choices1 f2 f4 f5 f6 f7 f8
def a4z(n:Nat)(mx1:maker)(f1:Form):Option (maker×Form):=
 a5w n f1 (fun(choices2:(List (List Affine)))(f9:(List (List Affine)))(f10:(List Bs))(f11:(List Int))(f12:Int)(f13:Int)(f14:Bool)=>
  some ((⟨f10,(⟨f11,f12,f13⟩:Facts),f14⟩:maker),(⟨choices2⟩:Form))) n [[]] 0 [] f1.Pieces mx1.names mx1.facts.Lifts mx1.facts.Persons mx1.facts.Flats mx1.full
def minmax_join_L2(n:Nat)(piece1:((List Affine)->(List Affine)->Option (List Affine)))(f2:(List (List Affine)))(ex1:(List Affine))(kont2:(List (List Affine))->Option Form):Nat->Int->(List (List Affine))->Option Form
 |0,_,_=>none
 |mx2+1,i2,l3=>
  bif decide (i2<(f2.length:Int))then
   (ix f2 i2).bind fun ex2=>
   (piece1 ex1 ex2).bind fun v1=>
   (app 24 l3 [v1]).bind fun l5=>
   minmax_join_L2 n piece1 f2 ex1 kont2 mx2 (iadd .i64 i2 1) l5
  else
   kont2 l3
theorem minmax_join_L2_s:type_of% @minmax_join_L2.eq_2:= @minmax_join_L2.eq_2
def minmax_join_L1(n:Nat)(ax1:Form)(piece1:((List Affine)->(List Affine)->Option (List Affine)))(kont1:(List (List Affine))->(List (List Affine))->Option Form):Nat->Int->(List (List Affine))->(List (List Affine))->(List (List Affine))->Option Form
 |0,_,_,_,_=>none
 |mx1+1,i1,l1,f1,f2=>
  bif decide (i1<(ax1.Pieces.length:Int))then
   (ix ax1.Pieces i1).bind fun ex1=>
   minmax_join_L2 n piece1 f2 ex1 (fun(l4:List (List Affine))=>
    minmax_join_L1 n ax1 piece1 kont1 mx1 (iadd .i64 i1 1) l4 f1 f2) n 0 l1
  else
   kont1 l1 f1
theorem minmax_join_L1_s:type_of% @minmax_join_L1.eq_2:= @minmax_join_L1.eq_2
def a5p(n:Nat)(ax1:Form)(b1:Form)(piece1:((List Affine)->(List Affine)->Option (List Affine))):Option Form:=
 minmax_join_L1 n ax1 piece1 (fun(l2:List (List Affine))(f3:(List (List Affine)))=>
  some (⟨l2⟩:Form)) n 0 ([]:List (List Affine)) [] b1.Pieces
def b2s(n:Nat)(y1:(List Affine))(ex1:Affine)(kont2:(List Affine)->Option (List Affine)):Nat->Int->(List Affine)->Option (List Affine)
 |0,_,_=>none
 |mx2+1,i2,l3=>
  bif decide (i2<(y1.length:Int))then
   (ix y1 i2).bind fun ex2=>
   (b9k n ex1 ex2).bind fun v1=>
   (app 88 l3 [v1]).bind fun l5=>
   b2s n y1 ex1 kont2 mx2 (iadd .i64 i2 1) l5
  else
   kont2 l3
def b2v(n:Nat)(x1:(List Affine))(y1:(List Affine))(kont1:(List Affine)->Option (List Affine)):Nat->Int->(List Affine)->Option (List Affine)
 |0,_,_=>none
 |mx1+1,i1,l1=>
  bif decide (i1<(x1.length:Int))then
   (ix x1 i1).bind fun ex1=>
   b2s n y1 ex1 (fun(l4:List Affine)=>
    b2v n x1 y1 kont1 mx1 (iadd .i64 i1 1) l4) n 0 l1
  else
   kont1 l1
def a7g(n:Nat)(x1:(List Affine))(y1:(List Affine)):Option (List Affine):=
 b2v n x1 y1 (fun(l2:List Affine)=>
  some l2) n 0 ([]:List Affine)
def a2v(n:Nat)(slices1:(List (List Affine)))(kont1:(List Affine)->Option (List Affine)):Nat->Int->(List Affine)->Option (List Affine)
 |0,_,_=>none
 |mx1+1,i2,l1=>
  bif decide (i2<(slices1.length:Int))then
   (ix slices1 i2).bind fun ex1=>
   (app 88 l1 ex1).bind fun l3=>
   a2v n slices1 kont1 mx1 (iadd .i64 i2 1) l3
  else
   kont1 l1
def a2u(n:Nat)(slices1:(List (List Affine)))(kont2:Int->Option (List Affine)):Nat->Int->Int->Option (List Affine)
 |0,_,_=>none
 |mx2+1,size1,i1=>
  bif decide (i1<(slices1.length:Int))then
   (ix slices1 i1).bind fun ex2=>
   bif decide ((iadd .i64 size1 (ex2.length:Int))<0)then
    none
   else
    a2u n slices1 kont2 mx2 (iadd .i64 size1 (ex2.length:Int)) (iadd .i64 i1 1)
  else
   kont2 size1
def a3h(n:Nat)(slices1:(List (List Affine))):Option (List Affine):=
 a2u n slices1 (fun(size2:Int)=>
  (b8k n [] size2).bind fun v1=>
  a2v n slices1 (fun(l2:List Affine)=>
   some l2) n 0 v1) n 0 0
def a7b(n:Nat)(x1:(List Affine))(y1:(List Affine)):Option (List Affine):=
 (a3h n [x1,y1]).bind fun v1=>
 some v1
def a2o(n:Nat)(slices1:(List (List (List Affine))))(kont1:(List (List Affine))->Option (List (List Affine))):Nat->Int->(List (List Affine))->Option (List (List Affine))
 |0,_,_=>none
 |mx1+1,i2,l1=>
  bif decide (i2<(slices1.length:Int))then
   (ix slices1 i2).bind fun ex1=>
   (app 24 l1 ex1).bind fun l3=>
   a2o n slices1 kont1 mx1 (iadd .i64 i2 1) l3
  else
   kont1 l1
def a2p(n:Nat)(slices1:(List (List (List Affine))))(kont2:Int->Option (List (List Affine))):Nat->Int->Int->Option (List (List Affine))
 |0,_,_=>none
 |mx2+1,size1,i1=>
  bif decide (i1<(slices1.length:Int))then
   (ix slices1 i1).bind fun ex2=>
   bif decide ((iadd .i64 size1 (ex2.length:Int))<0)then
    none
   else
    a2p n slices1 kont2 mx2 (iadd .i64 size1 (ex2.length:Int)) (iadd .i64 i1 1)
  else
   kont2 size1
def a1o(n:Nat)(slices1:(List (List (List Affine)))):Option (List (List Affine)):=
 a2p n slices1 (fun(size2:Int)=>
  (b7w n [] size2).bind fun v1=>
  a2o n slices1 (fun(l2:List (List Affine))=>
   some l2) n 0 v1) n 0 0
def slices_IndexFunc_api_Affine_api_Affine_L1(n:Nat)(s1:(List Affine))(f1:(Affine->Option Bool))(kont1:Option Int):Nat->Int->Option Int
 |0,_=>none
 |mx1+1,i1=>
  bif decide (i1<(s1.length:Int))then
   (ix s1 i1).bind fun ex1=>
   (f1 ex1).bind fun v1=>
   bif v1 then
    some i1
   else
    slices_IndexFunc_api_Affine_api_Affine_L1 n s1 f1 kont1 mx1 (iadd .i64 i1 1)
  else
   kont1
theorem slices_IndexFunc_api_Affine_api_Affine_L1_s:type_of% @slices_IndexFunc_api_Affine_api_Affine_L1.eq_2:= @slices_IndexFunc_api_Affine_api_Affine_L1.eq_2
def a2b(n:Nat)(s1:(List Affine))(f1:(Affine->Option Bool)):Option Int:=
 slices_IndexFunc_api_Affine_api_Affine_L1 n s1 f1 (
  some (-1)) n 0
def a1h(n:Nat)(s1:(List Affine))(f1:(Affine->Option Bool)):Option Bool:=
 (a2b n s1 f1).bind fun v1=>
 some (decide (0<=v1))
def slices_IndexFunc_LLapi_Affine_api_Affine_L1(n:Nat)(s1:(List (List Affine)))(f1:((List Affine)->Option Bool))(kont1:Option Int):Nat->Int->Option Int
 |0,_=>none
 |mx1+1,i1=>
  bif decide (i1<(s1.length:Int))then
   (ix s1 i1).bind fun ex1=>
   (f1 ex1).bind fun v1=>
   bif v1 then
    some i1
   else
    slices_IndexFunc_LLapi_Affine_api_Affine_L1 n s1 f1 kont1 mx1 (iadd .i64 i1 1)
  else
   kont1
theorem slices_IndexFunc_LLapi_Affine_api_Affine_L1_s:type_of% @slices_IndexFunc_LLapi_Affine_api_Affine_L1.eq_2:= @slices_IndexFunc_LLapi_Affine_api_Affine_L1.eq_2
def a1w(n:Nat)(s1:(List (List Affine)))(f1:((List Affine)->Option Bool)):Option Int:=
 slices_IndexFunc_LLapi_Affine_api_Affine_L1 n s1 f1 (
  some (-1)) n 0
def a0r(n:Nat)(s1:(List (List Affine)))(f1:((List Affine)->Option Bool)):Option Bool:=
 (a1w n s1 f1).bind fun v1=>
 some (decide (0<=v1))
end Go.Proofs.YthaegflpecbfgaaGreatDoor.M
namespace Go.Proofs.YthaegflpecbfgaaGreatDoor.M
open Go Go.RowKit Rt
def setw(p:List (List Affine))(k:Int)(v:Frac):Option (List (List Affine)):=match p with
 | [[x]]=>(lset x.Coefs k v).bind fun c=>some [[⟨x.Const,c⟩]]
 |_=>none
def a4n(n:Nat)(x:Frac):Option Bool:=(a2h n x).bind fun v1=>some (!v1)
def a5q(n:Nat)(a:Affine)(k:Int):Option Bool:=
 (a4n n a.Const).bind fun v1=>
 (bif v1 then some true else some ((a.Coefs.length:Int) !=k)).bind fun v2=>
 (bif v2 then some true else(a0t n a.Coefs (a4n n)).bind fun v4=>some v4).bind fun v3=>
 some v3
def a5n(n:Nat)(l:List Affine)(k:Int):Option Bool:=
 (bif(l.length:Int)==0 then some true else(a1h n l (fun a=>a5q n a k)).bind fun v2=>some v2).bind fun v1=>
 some v1
def b0p(n:Nat)(f:Form)(k:Int):Option Bool:=
 (bif decide (0<(f.Pieces.length:Int))then(a0r n f.Pieces (fun l=>a5n n l k)).bind fun v2=>some (!v2)else some false).bind fun v1=>
 some v1
end Go.Proofs.YthaegflpecbfgaaGreatDoor.M
namespace Go.Proofs.YthaegflpecbfgaaGreatDoor.M
open Go Go.RowKit Rt
set_option linter.unusedVariables false
def a5t(n:Nat)(mx1:maker)(f1:Form)(byx1:Frac):Option (maker×Form):=
 (b4t n byx1).bind fun v1=>
 bif v1==0 then
  (a2g n mx1 byx1).bind fun v2=>
  some (v2.1,v2.2)
 else
  bif v1==1 then
   (a9k n f1 byx1).bind fun v3=>
   some (mx1,v3)
  else
   (a4z n mx1 f1).bind fun v4=>
   (c5m n byx1).bind fun v5=>
   (a9k n v4.2 v5).bind fun v6=>
   some (v4.1,v6)
def a9s(n:Nat)(mx1:maker)(op1:Int)(ax1:Form)(b1:Form):Option (maker×Form):=
 (bif op1==6 then
  (a4z n mx1 b1).bind fun v19=>
  some (v19.2.Pieces,v19.1.names,v19.1.facts.Lifts,v19.1.facts.Persons,v19.1.facts.Flats,v19.1.full)
 else
  some (b1.Pieces,mx1.names,mx1.facts.Lifts,mx1.facts.Persons,mx1.facts.Flats,mx1.full)).bind fun(f1,f2,f3,f4,f5,f6)=>
 (a7e n ax1).bind fun v1=>
 (a7e n (⟨f1⟩:Form)).bind fun v2=>
 bif op1==9 then
  (a7e n ax1).bind fun v3=>
  (a7e n (⟨f1⟩:Form)).bind fun v4=>
  (a4p n (⟨f2,(⟨f3,f4,f5⟩:Facts),f6⟩:maker) (iadd .i64 v3 v4)).bind fun v5=>
  bif !v5.2 then
   some (v5.1,(⟨[]⟩:Form))
  else
   bif op1==9 then
    (a1o n [ax1.Pieces,f1]).bind fun v6=>
    some (v5.1,(⟨v6⟩:Form))
   else
    bif op1==10 then
     (a5p n ax1 (⟨f1⟩:Form) (a7b n)).bind fun v7=>
     some (v5.1,v7)
    else
     (a5p n ax1 (⟨f1⟩:Form) (a7g n)).bind fun v8=>
     some (v5.1,v8)
 else
  bif op1==10 then
   (a7e n ax1).bind fun v9=>
   (a7e n (⟨f1⟩:Form)).bind fun v10=>
   (a4p n (⟨f2,(⟨f3,f4,f5⟩:Facts),f6⟩:maker) (iadd .i64 (imul .i64 v9 (f1.length:Int)) (imul .i64 v10 (ax1.Pieces.length:Int)))).bind fun v11=>
   bif !v11.2 then
    some (v11.1,(⟨[]⟩:Form))
   else
    bif op1==9 then
     (a1o n [ax1.Pieces,f1]).bind fun v12=>
     some (v11.1,(⟨v12⟩:Form))
    else
     bif op1==10 then
      (a5p n ax1 (⟨f1⟩:Form) (a7b n)).bind fun v13=>
      some (v11.1,v13)
     else
      (a5p n ax1 (⟨f1⟩:Form) (a7g n)).bind fun v14=>
      some (v11.1,v14)
  else
   (a4p n (⟨f2,(⟨f3,f4,f5⟩:Facts),f6⟩:maker) (imul .i64 v1 v2)).bind fun v15=>
   bif !v15.2 then
    some (v15.1,(⟨[]⟩:Form))
   else
    bif op1==9 then
     (a1o n [ax1.Pieces,f1]).bind fun v16=>
     some (v15.1,(⟨v16⟩:Form))
    else
     bif op1==10 then
      (a5p n ax1 (⟨f1⟩:Form) (a7b n)).bind fun v17=>
      some (v15.1,v17)
     else
      (a5p n ax1 (⟨f1⟩:Form) (a7g n)).bind fun v18=>
      some (v15.1,v18)
def minmax_maker_made:Nat->maker->Expr->Option (maker×Form)
 |0,_,_=>none
 |n+1,mx1,x1=>
  bif mx1.full then
   some (mx1,(⟨[]⟩:Form))
  else
   (a7t n mx1 x1).bind fun v1=>
   bif v1.2==1 then
    (a4f n v1.1 x1).bind fun v2=>
    (a2g n v2.1 v2.2).bind fun v3=>
    some (v3.1,v3.2)
   else
    bif x1.Op==4 then
     (a5s n 0).bind fun v4=>
     (a2g n v1.1 v4).bind fun v5=>
     (ix v5.2.Pieces 0).bind fun ex1=>
     (ix ex1 0).bind fun ex2=>
     (a1g n v5.1.names x1.Name).bind fun v6=>
     (a5s n 1).bind fun v7=>
     (ix ex2.Coefs v6).bind fun _=>
     (setw v5.2.Pieces v6 v7).bind fun p1=>
     some (v5.1,(⟨p1⟩:Form))
    else
     bif x1.Op==11 then
      (ix x1.Args 0).bind fun ex4=>
      (a9i n v1.1 ex4).bind fun v8=>
      bif v8.2 then
       (ix x1.Args 1).bind fun ex5=>
       (minmax_maker_made n v8.1 ex5).bind fun v9=>
       some (v9.1,v9.2)
      else
       (ix x1.Args 2).bind fun ex6=>
       (minmax_maker_made n v8.1 ex6).bind fun v10=>
       some (v10.1,v10.2)
     else
      bif x1.Op==8 then
       (ix x1.Args 1).bind fun ex7=>
       (d0o n 1 ex7.N).bind fun v11=>
       (ix x1.Args 0).bind fun ex8=>
       (minmax_maker_made n v1.1 ex8).bind fun v12=>
       (a9k n v12.2 v11.1).bind fun v13=>
       some (v12.1,v13)
      else
       bif x1.Op==7 then
        (ix x1.Args 0).bind fun ex9=>
        (a7t n v1.1 ex9).bind fun v14=>
        bif v14.2==1 then
         (ix x1.Args 1).bind fun ex10=>
         (ix x1.Args 0).bind fun ex11=>
         (minmax_maker_made n v14.1 ex10).bind fun v15=>
         (a4f n v15.1 ex11).bind fun v16=>
         (a5t n v16.1 v15.2 v16.2).bind fun v17=>
         some (v17.1,v17.2)
        else
         (ix x1.Args 0).bind fun ex12=>
         (ix x1.Args 1).bind fun ex13=>
         (minmax_maker_made n v14.1 ex12).bind fun v18=>
         (a4f n v18.1 ex13).bind fun v19=>
         (a5t n v19.1 v18.2 v19.2).bind fun v20=>
         some (v20.1,v20.2)
       else
        (ix x1.Args 0).bind fun ex14=>
        (minmax_maker_made n v1.1 ex14).bind fun v21=>
        (ix x1.Args 1).bind fun ex15=>
        (minmax_maker_made n v21.1 ex15).bind fun v22=>
        (a9s n v22.1 x1.Op v21.2 v22.2).bind fun v23=>
        some (v23.1,v23.2)
theorem minmax_maker_made_s:type_of% @minmax_maker_made.eq_2:= @minmax_maker_made.eq_2
def c1v(n:Nat)(t1:Tariff)(names1:(List Bs))(f1:Facts):Option (Form×Int):=
 (b0j n t1 names1).bind fun v1=>
 bif v1 !=0 then
  some ((⟨[]⟩:Form),v1)
 else
  ((a5s n 0).bind fun v3=>
  (a3n n [v3] (names1.length:Int)).bind fun v4=>
  (b8h n (⟨[97],(⟨0,0,[],[]⟩:Expr),(-1)⟩:Tariff) names1 f1 v4).bind fun v5=>
  some v5.2).bind fun ex1=>
  bif ex1 !=0 then
   some ((⟨[]⟩:Form),ex1)
  else
   (minmax_maker_made n (⟨names1,f1,false⟩:maker) t1.Fee).bind fun v2=>
   bif v2.1.full then
    some ((⟨[]⟩:Form),6)
   else
    some (v2.2,0)
def minmax_at_L1(n:Nat)(ax1:Affine)(weights1:(List Frac))(kont1:Int->(List Int)->Int->(List Int)->Option Frac):Nat->Int->Int->(List Int)->Int->(List Int)->Option Frac
 |0,_,_,_,_,_=>none
 |mx1+1,i1,f1,f2,f3,f4=>
  bif decide (i1<(ax1.Coefs.length:Int))then
   (ix ax1.Coefs i1).bind fun ex1=>
   ((ix weights1 i1).bind fun ex2=>
   (b2i n ex1 ex2).bind fun v2=>
   some (v2.1.P.Sign,v2.1.P.Digits,v2.1.Q.Sign,v2.1.Q.Digits)).bind fun(f9,f10,f11,f12)=>
   (b0h n (⟨(⟨f1,f2⟩:Big),(⟨f3,f4⟩:Big)⟩:Frac) (⟨(⟨f9,f10⟩:Big),(⟨f11,f12⟩:Big)⟩:Frac)).bind fun v1=>
   minmax_at_L1 n ax1 weights1 kont1 mx1 (iadd .i64 i1 1) v1.1.P.Sign v1.1.P.Digits v1.1.Q.Sign v1.1.Q.Digits
  else
   kont1 f1 f2 f3 f4
theorem minmax_at_L1_s:type_of% @minmax_at_L1.eq_2:= @minmax_at_L1.eq_2
def a9d(n:Nat)(ax1:Affine)(weights1:(List Frac)):Option Frac:=
 minmax_at_L1 n ax1 weights1 (fun(f5:Int)(f6:(List Int))(f7:Int)(f8:(List Int))=>
  some (⟨(⟨f5,f6⟩:Big),(⟨f7,f8⟩:Big)⟩:Frac)) n 0 ax1.Const.P.Sign ax1.Const.P.Digits ax1.Const.Q.Sign ax1.Const.Q.Digits
def a8m(n:Nat)(x1:Frac):Option Bool:=
 (a2h n x1).bind fun v1=>
 some (!v1)
def minmax_At_L2(n:Nat)(weights1:(List Frac))(l1:(List Affine))(kont2:Int->(List Int)->Int->(List Int)->Option (Frac×Bool)):Nat->Int->Int->(List Int)->Int->(List Int)->Option (Frac×Bool)
 |0,_,_,_,_,_=>none
 |mx2+1,i2,f18,f19,f20,f21=>
  bif decide (i2<(l1.length:Int))then
   (ix l1 i2).bind fun ex3=>
   (a9d n ex3 weights1).bind fun v6=>
   (b3w n (⟨(⟨f18,f19⟩:Big),(⟨f20,f21⟩:Big)⟩:Frac) v6).bind fun v7=>
   minmax_At_L2 n weights1 l1 kont2 mx2 (iadd .i64 i2 1) v7.1.P.Sign v7.1.P.Digits v7.1.Q.Sign v7.1.Q.Digits
  else
   kont2 f18 f19 f20 f21
theorem minmax_At_L2_s:type_of% @minmax_At_L2.eq_2:= @minmax_At_L2.eq_2
def minmax_At_L1(n:Nat)(f1:Form)(weights1:(List Frac))(kont1:Int->(List Int)->Int->(List Int)->Int->(List Int)->Int->(List Int)->Option (Frac×Bool)):Nat->Int->Int->(List Int)->Int->(List Int)->Int->(List Int)->Int->(List Int)->Option (Frac×Bool)
 |0,_,_,_,_,_,_,_,_,_=>none
 |mx1+1,i1,f2,f3,f4,f5,f6,f7,f8,f9=>
  bif decide (i1<(f1.Pieces.length:Int))then
   (ix f1.Pieces i1).bind fun ex1=>
   (ix ex1 0).bind fun ex2=>
   (a9d n ex2 weights1).bind fun v3=>
   (lsl ex1 1 ex1.length).bind fun l1=>
   minmax_At_L2 n weights1 l1 (fun(f22:Int)(f23:(List Int))(f24:Int)(f25:(List Int))=>
    (bif i1==0 then
     some true
    else
     (a4e n (⟨(⟨f22,f23⟩:Big),(⟨f24,f25⟩:Big)⟩:Frac) (⟨(⟨f2,f3⟩:Big),(⟨f4,f5⟩:Big)⟩:Frac)).bind fun v5=>
     some (decide (v5<0))).bind fun v4=>
    bif v4 then
     minmax_At_L1 n f1 weights1 kont1 mx1 (iadd .i64 i1 1) f22 f23 f24 f25 f6 f7 f8 f9
    else
     minmax_At_L1 n f1 weights1 kont1 mx1 (iadd .i64 i1 1) f2 f3 f4 f5 f6 f7 f8 f9) n 0 v3.P.Sign v3.P.Digits v3.Q.Sign v3.Q.Digits
  else
   kont1 f2 f3 f4 f5 f6 f7 f8 f9
theorem minmax_At_L1_s:type_of% @minmax_At_L1.eq_2:= @minmax_At_L1.eq_2
def a6g(n:Nat)(f1:Form)(weights1:(List Frac)):Option (Frac×Bool):=
 (a0t n weights1 (a8m n)).bind fun v1=>
 (bif v1 then
  some true
 else
  (b0p n f1 (weights1.length:Int)).bind fun v8=>
  some (!v8)).bind fun v2=>
 bif v2 then
  some ((⟨(⟨0,[]⟩:Big),(⟨0,[]⟩:Big)⟩:Frac),false)
 else
  minmax_At_L1 n f1 weights1 (fun(f10:Int)(f11:(List Int))(f12:Int)(f13:(List Int))(_:Int)(_:(List Int))(_:Int)(_:(List Int))=>
   some ((⟨(⟨f10,f11⟩:Big),(⟨f12,f13⟩:Big)⟩:Frac),true)) n 0 0 [] 0 [] 0 [] 0 []
end Go.Proofs.YthaegflpecbfgaaGreatDoor.M
namespace Go.Proofs.YthaegflpecbfgaaGreatDoor.M
open Go Go.RowKit Rt
set_option linter.unusedVariables false
def b2c(_n:Nat)(c1:Int):Option Bool:=
 (bif decide (97<=c1)then
  some (decide (c1<=122))
 else
  some false).bind fun v1=>
 (bif v1 then
  some true
 else
  (bif decide (65<=c1)then
   some (decide (c1<=90))
  else
   some false).bind fun v3=>
  some v3).bind fun v2=>
 some v2
def b7u(_n:Nat)(c1:Int):Option Bool:=
 (bif decide (48<=c1)then
  some (decide (c1<=57))
 else
  some false).bind fun v1=>
 some v1
def ref06_Name_L1(n:Nat)(s1:Bs)(kont1:Option Bool):Nat->Int->Option Bool
 |0,_=>none
 |mx1+1,i1=>
  bif decide (i1<(s1.length:Int))then
   (sidx s1 i1).bind fun c1=>
   (b2c n c1).bind fun v3=>
   (bif !v3 then
    (sidx s1 i1).bind fun c3=>
    (b7u n c3).bind fun v6=>
    some (!v6)
   else
    some false).bind fun v4=>
   (bif v4 then
    (sidx s1 i1).bind fun c2=>
    some (c2 !=95)
   else
    some false).bind fun v5=>
   bif v5 then
    some false
   else
    ref06_Name_L1 n s1 kont1 mx1 (iadd .i64 i1 1)
  else
   kont1
theorem ref06_Name_L1_s:type_of% @ref06_Name_L1.eq_2:= @ref06_Name_L1.eq_2
def a8t(n:Nat)(s1:Bs):Option Bool:=
 (bif decide ((s1.length:Int)<1)then
  some true
 else
  some (decide (20<(s1.length:Int)))).bind fun v1=>
 (bif v1 then
  some true
 else
  (sidx s1 0).bind fun c4=>
  (b2c n c4).bind fun v7=>
  some (!v7)).bind fun v2=>
 bif v2 then
  some false
 else
  ref06_Name_L1 n s1 (
   some true) n 1
end Go.Proofs.YthaegflpecbfgaaGreatDoor.M
namespace Go.Proofs.YthaegflpecbfgaaGreatDoor.M
open Go Go.RowKit Rt
set_option linter.unusedVariables false
def b1o(_n:Nat)(op1:Int):Option Int:=
 (bif decide (op1<0)then
  some true
 else
  some (decide (17<=op1))).bind fun v1=>
 bif v1 then
  some (-1)
 else
  bif decide (op1<=4)then
   some 0
  else
   bif op1==14 then
    some 1
   else
    bif op1==11 then
     some 3
    else
     some 2
def ref35_shaped_L1(n:Nat)(rec_ref35_shaped:Expr->Option Bool)(x1:Expr)(kont1:Option Bool):Nat->Int->Option Bool
 |0,_=>none
 |mx1+1,i1=>
  bif decide (i1<(x1.Args.length:Int))then
   (ix x1.Args i1).bind fun ex1=>
   (rec_ref35_shaped ex1).bind fun v7=>
   bif !v7 then
    some false
   else
    ref35_shaped_L1 n rec_ref35_shaped x1 kont1 mx1 (iadd .i64 i1 1)
  else
   kont1
theorem ref35_shaped_L1_s:type_of% @ref35_shaped_L1.eq_2:= @ref35_shaped_L1.eq_2
def ref35_shaped:Nat->Expr->Option Bool
 |0,_=>none
 |n+1,x1=>
  (b1o n x1.Op).bind fun v1=>
  (bif(x1.Args.length:Int) !=v1 then
   some true
  else
   (bif x1.Op !=0 then
    some (x1.N !=0)
   else
    some false).bind fun v12=>
   some v12).bind fun v2=>
  bif v2 then
   some false
  else
   (bif x1.Op==1 then
    some true
   else
    some (x1.Op==4)).bind fun v3=>
   (bif v3 then
    (a8t n x1.Name).bind fun v11=>
    some (!v11)
   else
    some false).bind fun v4=>
   (bif v4 then
    some true
   else
    (bif !v3 then
     some (!(x1.Name== []))
    else
     some false).bind fun v10=>
    some v10).bind fun v5=>
   (bif v5 then
    some true
   else
    (bif x1.Op==0 then
     (bif decide (x1.N<0)then
      some true
     else
      some (decide (1099511627776<x1.N))).bind fun v9=>
     some v9
    else
     some false).bind fun v8=>
    some v8).bind fun v6=>
   bif v6 then
    some false
   else
    ref35_shaped_L1 n (ref35_shaped n) x1 (
     some true) n 0
theorem ref35_shaped_s:type_of% @ref35_shaped.eq_2:= @ref35_shaped.eq_2
def b9u(n:Nat)(x1:Expr):Option Bool:=
 (c2j n x1 100 10).bind fun v1=>
 (bif v1 then
  (ref35_shaped n x1).bind fun v3=>
  some v3
 else
  some false).bind fun v2=>
 some v2
def b4d(n:Nat)(t1:Tariff):Option Bool:=
 (a8t n t1.Name).bind fun v1=>
 (bif v1 then
  (b9u n t1.Fee).bind fun v5=>
  some v5
 else
  some false).bind fun v2=>
 (bif v2 then
  some (decide ((-1)<=t1.Cap))
 else
  some false).bind fun v3=>
 (bif v3 then
  some (decide (t1.Cap<=1099511627776))
 else
  some false).bind fun v4=>
 some v4
def ref35_Names_L2(n:Nat)(l1:(List Bs))(i1:Int)(kont2:Option Bool):Nat->Int->Option Bool
 |0,_=>none
 |mx2+1,k1=>
  bif decide (k1<i1)then
   (ix l1 k1).bind fun ex2=>
   (ix l1 i1).bind fun ex3=>
   bif ex2==ex3 then
    some false
   else
    ref35_Names_L2 n l1 i1 kont2 mx2 (iadd .i64 k1 1)
  else
   kont2
theorem ref35_Names_L2_s:type_of% @ref35_Names_L2.eq_2:= @ref35_Names_L2.eq_2
def ref35_Names_L1(n:Nat)(l1:(List Bs))(kont1:Option Bool):Nat->Int->Option Bool
 |0,_=>none
 |mx1+1,i1=>
  bif decide (i1<(l1.length:Int))then
   (ix l1 i1).bind fun ex1=>
   (a8t n ex1).bind fun v1=>
   bif !v1 then
    some false
   else
    ref35_Names_L2 n l1 i1 (
     ref35_Names_L1 n l1 kont1 mx1 (iadd .i64 i1 1)) n 0
  else
   kont1
theorem ref35_Names_L1_s:type_of% @ref35_Names_L1.eq_2:= @ref35_Names_L1.eq_2
def b7t(n:Nat)(l1:(List Bs)):Option Bool:=
 bif decide (6<(l1.length:Int))then
  some false
 else
  ref35_Names_L1 n l1 (
   some true) n 0
def ref35_Number_L1(n:Nat)(l1:(List Bs))(name1:Bs)(kont1:Option Int):Nat->Int->Option Int
 |0,_=>none
 |mx1+1,i1=>
  bif decide (i1<(l1.length:Int))then
   (ix l1 i1).bind fun ex1=>
   bif ex1==name1 then
    some i1
   else
    ref35_Number_L1 n l1 name1 kont1 mx1 (iadd .i64 i1 1)
  else
   kont1
theorem ref35_Number_L1_s:type_of% @ref35_Number_L1.eq_2:= @ref35_Number_L1.eq_2
def b2e(n:Nat)(l1:(List Bs))(name1:Bs):Option Int:=
 ref35_Number_L1 n l1 name1 (
  some (-1)) n 0
def b0a(_n:Nat)(ax1:Int)(b1:Int):Option Int:=
 (bif ax1==2 then
  some true
 else
  some (b1==2)).bind fun v1=>
 bif v1 then
  some 2
 else
  some 1
def a3t(n:Nat)(op1:Int)(l1:(List Int)):Option (Int×Bool):=
 bif op1==14 then
  (ix l1 0).bind fun ex1=>
  some (0,ex1==0)
 else
  (bif op1==15 then
   some true
  else
   some (op1==16)).bind fun v1=>
  bif v1 then
   (ix l1 0).bind fun ex2=>
   (bif ex2==0 then
    (ix l1 1).bind fun ex3=>
    some (ex3==0)
   else
    some false).bind fun v2=>
   some (0,v2)
  else
   (bif op1==12 then
    some true
   else
    some (op1==13)).bind fun v3=>
   bif v3 then
    (ix l1 0).bind fun ex4=>
    (bif ex4==1 then
     (ix l1 1).bind fun ex5=>
     some (ex5==1)
    else
     some false).bind fun v4=>
    some (0,v4)
   else
    bif op1==11 then
     (ix l1 1).bind fun ex6=>
     (ix l1 2).bind fun ex7=>
     (b0a n ex6 ex7).bind fun v5=>
     (ix l1 0).bind fun ex8=>
     (bif ex8==0 then
      (ix l1 1).bind fun ex10=>
      some (ex10 !=0)
     else
      some false).bind fun v6=>
     (bif v6 then
      (ix l1 2).bind fun ex9=>
      some (ex9 !=0)
     else
      some false).bind fun v7=>
     some (v5,v7)
    else
     (ix l1 0).bind fun ex11=>
     (bif ex11 !=0 then
      (ix l1 1).bind fun ex16=>
      some (ex16 !=0)
     else
      some false).bind fun v8=>
     (bif op1==7 then
      (bif v8 then
       (ix l1 0).bind fun ex14=>
       (bif ex14==1 then
        some true
       else
        (ix l1 1).bind fun ex15=>
        some (ex15==1)).bind fun v11=>
       some v11
      else
       some false).bind fun v10=>
      some v10
     else
      some v8).bind fun numbers1=>
     (ix l1 0).bind fun ex12=>
     (ix l1 1).bind fun ex13=>
     (b0a n ex12 ex13).bind fun v9=>
     some (v9,numbers1)
def ref35_typed_L1(n:Nat)(rec_ref35_typed:Expr->(List Bs)->Option (Int×Int))(x1:Expr)(names1:(List Bs))(kont1:(List Int)->Option (Int×Int)):Nat->Int->(List Int)->Option (Int×Int)
 |0,_,_=>none
 |mx1+1,i1,l1=>
  bif decide (i1<(x1.Args.length:Int))then
   (ix x1.Args i1).bind fun ex4=>
   (rec_ref35_typed ex4 names1).bind fun v7=>
   bif v7.2 !=0 then
    some (0,v7.2)
   else
    (app 8 l1 [v7.1]).bind fun l3=>
    ref35_typed_L1 n rec_ref35_typed x1 names1 kont1 mx1 (iadd .i64 i1 1) l3
  else
   kont1 l1
theorem ref35_typed_L1_s:type_of% @ref35_typed_L1.eq_2:= @ref35_typed_L1.eq_2
def ref35_typed:Nat->Expr->(List Bs)->Option (Int×Int)
 |0,_,_=>none
 |n+1,x1,names1=>
  ref35_typed_L1 n (ref35_typed n) x1 names1 (fun(l2:List Int)=>
   (bif x1.Op==1 then
    some true
   else
    some (x1.Op==4)).bind fun v1=>
   (bif v1 then
    (b2e n names1 x1.Name).bind fun v6=>
    some (decide (v6<0))
   else
    some false).bind fun v2=>
   bif v2 then
    some (0,11)
   else
    bif x1.Op==4 then
     some (2,0)
    else
     bif(l2.length:Int)==0 then
      some (1,0)
     else
      bif x1.Op==8 then
       (ix x1.Args 1).bind fun ex1=>
       (bif ex1.Op==0 then
        (ix x1.Args 1).bind fun ex3=>
        some (ex3.N==0)
       else
        some false).bind fun v3=>
       bif v3 then
        some (0,14)
       else
        (ix x1.Args 1).bind fun ex2=>
        bif ex2.Op !=0 then
         some (0,13)
        else
         (a3t n x1.Op l2).bind fun v4=>
         bif !v4.2 then
          some (0,13)
         else
          some (v4.1,0)
      else
       (a3t n x1.Op l2).bind fun v5=>
       bif !v5.2 then
        some (0,13)
       else
        some (v5.1,0)) n 0 []
def d0q(n:Nat)(t1:Tariff)(names1:(List Bs)):Option Int:=
 (b7t n names1).bind fun v1=>
 bif !v1 then
  some 1
 else
  (b4d n t1).bind fun v2=>
  bif !v2 then
   some 2
  else
   (ref35_typed n t1.Fee names1).bind fun v3=>
   (bif v3.2==0 then
    some (v3.1==0)
   else
    some false).bind fun v4=>
   bif v4 then
    some 13
   else
    some v3.2
end Go.Proofs.YthaegflpecbfgaaGreatDoor.M
namespace Go.Proofs.YthaegflpecbfgaaGreatDoor.M
open Go Go.RowKit Rt
set_option linter.unusedVariables false
def c4d(n:Nat)(f1:Facts)(kont1:Option Bool):Nat->Int->Option Bool
 |0,_=>none
 |mx1+1,i1=>
  bif decide (i1<(f1.Lifts.length:Int))then
   (ix f1.Lifts i1).bind fun ex1=>
   (bif decide (ex1<0)then
    some true
   else
    (ix f1.Lifts i1).bind fun ex2=>
    some (decide (200<ex2))).bind fun v5=>
   bif v5 then
    some false
   else
    c4d n f1 kont1 mx1 (iadd .i64 i1 1)
  else
   kont1
def ref36_Weights_L1(n:Nat)(l1:(List Frac))(kont1:Option Bool):Nat->Int->Option Bool
 |0,_=>none
 |mx1+1,i1=>
  bif decide (i1<(l1.length:Int))then
   (ix l1 i1).bind fun ex1=>
   (a2j n ex1).bind fun v1=>
   (bif !v1 then
    some true
   else
    (ix l1 i1).bind fun ex2=>
    (b3c n ex2).bind fun v3=>
    some (decide (v3<0))).bind fun v2=>
   bif v2 then
    some false
   else
    ref36_Weights_L1 n l1 kont1 mx1 (iadd .i64 i1 1)
  else
   kont1
theorem ref36_Weights_L1_s:type_of% @ref36_Weights_L1.eq_2:= @ref36_Weights_L1.eq_2
def a7w(n:Nat)(l1:(List Frac))(nx1:Int):Option Bool:=
 ref36_Weights_L1 n l1 (
  some ((l1.length:Int)==nx1)) n 0
structure Result where
 N:Frac
 Is:Bool
 deriving DecidableEq,Inhabited
def rp_Result:Rp Result where
 k:=5
 R:=fun F cs x=>∃(a1:Option Addr)(n1:Nat)(c1:Nat)(a3:Option Addr)(n3:Nat)(c3:Nat),cs= [.int .i64 x.N.P.Sign,.slice a1 n1 c1,.int .i64 x.N.Q.Sign,.slice a3 n3 c3,.bool x.Is]/\SlR (Rp.int .i64) F a1 n1 c1 x.N.P.Digits/\SlR (Rp.int .i64) F a3 n3 c3 x.N.Q.Digits
 len:=by rintro F cs x ⟨a1,n1,c1,a3,n3,c3,h,_⟩;simp [h]
 mono:=by rintro F F' cs x hF ⟨a1,n1,c1,a3,n3,c3,h,h0,h1⟩;exact⟨a1,n1,c1,a3,n3,c3,h,h0.mono hF,h1.mono hF⟩
 one:=by rintro F cs x ⟨a1,n1,c1,a3,n3,c3,h,_⟩ u hu;subst h;simp at hu;rcases hu with rfl|rfl|rfl|rfl|rfl<;>rfl
theorem ent26:Ent Tryz.prog 26:=fun _ _=>by kernel_rfl
end Go.Proofs.YthaegflpecbfgaaGreatDoor.M
namespace Go.Proofs.YthaegflpecbfgaaGreatDoor.M
open Go Go.RowKit Rt
set_option linter.unusedVariables false
def c7v(n:Nat)(ax1:Affine)(b1:Affine)(kont1:(List Frac)->Option Affine):Nat->Int->(List Frac)->Option Affine
 |0,_,_=>none
 |mx1+1,i1,l1=>
  (bif decide (i1<(ax1.Coefs.length:Int))then
   some (decide (i1<(b1.Coefs.length:Int)))
  else
   some false).bind fun v2=>
  bif v2 then
   ((ix ax1.Coefs i1).bind fun ex1=>
   (ix b1.Coefs i1).bind fun ex2=>
   (a7h n ex1 ex2).bind fun v3=>
   some (v3.1.P.Sign,v3.1.P.Digits,v3.1.Q.Sign,v3.1.Q.Digits)).bind fun(f1,f2,f3,f4)=>
   (app 64 l1 [(⟨(⟨f1,f2⟩:Big),(⟨f3,f4⟩:Big)⟩:Frac)]).bind fun l3=>
   c7v n ax1 b1 kont1 mx1 (iadd .i64 i1 1) l3
  else
   kont1 l1
def ref37_Size_L1(n:Nat)(f1:Form)(kont1:Int->Option Int):Nat->Int->Int->Option Int
 |0,_,_=>none
 |mx1+1,nx1,i1=>
  bif decide (i1<(f1.Pieces.length:Int))then
   (ix f1.Pieces i1).bind fun ex1=>
   ref37_Size_L1 n f1 kont1 mx1 (iadd .i64 nx1 (ex1.length:Int)) (iadd .i64 i1 1)
  else
   kont1 nx1
theorem ref37_Size_L1_s:type_of% @ref37_Size_L1.eq_2:= @ref37_Size_L1.eq_2
def b2y(n:Nat)(f1:Form):Option Int:=
 ref37_Size_L1 n f1 (fun(nx2:Int)=>
  some nx2) n 0 0
def ref37_Value_L1(n:Nat)(ax1:Affine)(weights1:(List Frac))(kont1:Int->(List Int)->Int->(List Int)->Option (Frac×Bool)):Nat->Int->Int->(List Int)->Int->(List Int)->Option (Frac×Bool)
 |0,_,_,_,_,_=>none
 |mx1+1,i1,f1,f2,f3,f4=>
  bif decide (i1<(weights1.length:Int))then
   (ix weights1 i1).bind fun ex1=>
   (a2j n ex1).bind fun v3=>
   (bif !v3 then
    some true
   else
    (ix ax1.Coefs i1).bind fun ex4=>
    (a2j n ex4).bind fun v7=>
    some (!v7)).bind fun v4=>
   bif v4 then
    some ((⟨(⟨0,[]⟩:Big),(⟨0,[]⟩:Big)⟩:Frac),false)
   else
    ((ix ax1.Coefs i1).bind fun ex2=>
    (ix weights1 i1).bind fun ex3=>
    (a8g n ex2 ex3).bind fun v6=>
    some (v6.1.P.Sign,v6.1.P.Digits,v6.1.Q.Sign,v6.1.Q.Digits)).bind fun(f9,f10,f11,f12)=>
    (a7h n (⟨(⟨f1,f2⟩:Big),(⟨f3,f4⟩:Big)⟩:Frac) (⟨(⟨f9,f10⟩:Big),(⟨f11,f12⟩:Big)⟩:Frac)).bind fun v5=>
    ref37_Value_L1 n ax1 weights1 kont1 mx1 (iadd .i64 i1 1) v5.1.P.Sign v5.1.P.Digits v5.1.Q.Sign v5.1.Q.Digits
  else
   kont1 f1 f2 f3 f4
theorem ref37_Value_L1_s:type_of% @ref37_Value_L1.eq_2:= @ref37_Value_L1.eq_2
def a9x(n:Nat)(ax1:Affine)(weights1:(List Frac)):Option (Frac×Bool):=
 (a2j n ax1.Const).bind fun v1=>
 (bif !v1 then
  some true
 else
  some ((ax1.Coefs.length:Int) !=(weights1.length:Int))).bind fun v2=>
 bif v2 then
  some ((⟨(⟨0,[]⟩:Big),(⟨0,[]⟩:Big)⟩:Frac),false)
 else
  ref37_Value_L1 n ax1 weights1 (fun(f5:Int)(f6:(List Int))(f7:Int)(f8:(List Int))=>
   some ((⟨(⟨f5,f6⟩:Big),(⟨f7,f8⟩:Big)⟩:Frac),true)) n 0 ax1.Const.P.Sign ax1.Const.P.Digits ax1.Const.Q.Sign ax1.Const.Q.Digits
def ref37_Greatest_L1(n:Nat)(l1:(List Affine))(weights1:(List Frac))(kont1:Int->(List Int)->Int->(List Int)->Option (Frac×Bool)):Nat->Int->Int->(List Int)->Int->(List Int)->Option (Frac×Bool)
 |0,_,_,_,_,_=>none
 |mx1+1,i1,f1,f2,f3,f4=>
  bif decide (i1<(l1.length:Int))then
   (ix l1 i1).bind fun ex1=>
   (a9x n ex1 weights1).bind fun v1=>
   bif !v1.2 then
    some ((⟨(⟨0,[]⟩:Big),(⟨0,[]⟩:Big)⟩:Frac),false)
   else
    (bif i1==0 then
     some true
    else
     (a3l n v1.1 (⟨(⟨f1,f2⟩:Big),(⟨f3,f4⟩:Big)⟩:Frac)).bind fun v3=>
     some (decide (0<v3))).bind fun v2=>
    bif v2 then
     ref37_Greatest_L1 n l1 weights1 kont1 mx1 (iadd .i64 i1 1) v1.1.P.Sign v1.1.P.Digits v1.1.Q.Sign v1.1.Q.Digits
    else
     ref37_Greatest_L1 n l1 weights1 kont1 mx1 (iadd .i64 i1 1) f1 f2 f3 f4
  else
   kont1 f1 f2 f3 f4
theorem ref37_Greatest_L1_s:type_of% @ref37_Greatest_L1.eq_2:= @ref37_Greatest_L1.eq_2
def a8h(n:Nat)(l1:(List Affine))(weights1:(List Frac)):Option (Frac×Bool):=
 ref37_Greatest_L1 n l1 weights1 (fun(f5:Int)(f6:(List Int))(f7:Int)(f8:(List Int))=>
  some ((⟨(⟨f5,f6⟩:Big),(⟨f7,f8⟩:Big)⟩:Frac),decide (0<(l1.length:Int)))) n 0 0 [] 0 []
theorem ent16:Ent Tryz.prog 16:=fun _ _=>by kernel_rfl
def c6d(n:Nat)(ex5:Affine)(ex7:Affine)(kont3:Option Bool):Nat->Int->Option Bool
 |0,_=>none
 |mx3+1,j1=>
  bif decide (j1<(ex5.Coefs.length:Int))then
   (ix ex5.Coefs j1).bind fun ex8=>
   (ix ex7.Coefs j1).bind fun ex9=>
   (a4s n ex8 ex9).bind fun v3=>
   bif !v3 then
    some false
   else
    c6d n ex5 ex7 kont3 mx3 (iadd .i64 j1 1)
  else
   kont3
def ref37_FewForm_L3(n:Nat)(ex3:Affine)(kont3:Option Bool):Nat->Int->Option Bool
 |0,_=>none
 |mx3+1,j1=>
  bif decide (j1<(ex3.Coefs.length:Int))then
   (ix ex3.Coefs j1).bind fun ex4=>
   (a9l n ex4 3).bind fun v3=>
   bif !v3 then
    some false
   else
    ref37_FewForm_L3 n ex3 kont3 mx3 (iadd .i64 j1 1)
  else
   kont3
theorem ref37_FewForm_L3_s:type_of% @ref37_FewForm_L3.eq_2:= @ref37_FewForm_L3.eq_2
def ref37_FewForm_L2(n:Nat)(i1:Int)(kont2:(List (List Affine))->Option Bool):Nat->Int->(List (List Affine))->Option Bool
 |0,_,_=>none
 |mx2+1,k1,f3=>
  (ix f3 i1).bind fun ex1=>
  bif decide (k1<(ex1.length:Int))then
   (ix f3 i1).bind fun ex2=>
   (ix ex2 k1).bind fun ex3=>
   (bif decide (8<(ex3.Coefs.length:Int))then
    some true
   else
    (a9l n ex3.Const 3).bind fun v4=>
    some (!v4)).bind fun v2=>
   bif v2 then
    some false
   else
    ref37_FewForm_L3 n ex3 (
     ref37_FewForm_L2 n i1 kont2 mx2 (iadd .i64 k1 1) f3) n 0
  else
   kont2 f3
theorem ref37_FewForm_L2_s:type_of% @ref37_FewForm_L2.eq_2:= @ref37_FewForm_L2.eq_2
def ref37_FewForm_L1(n:Nat)(kont1:Option Bool):Nat->Int->(List (List Affine))->Option Bool
 |0,_,_=>none
 |mx1+1,i1,f2=>
  bif decide (i1<(f2.length:Int))then
   ref37_FewForm_L2 n i1 (fun(f4:(List (List Affine)))=>
    ref37_FewForm_L1 n kont1 mx1 (iadd .i64 i1 1) f4) n 0 f2
  else
   kont1
theorem ref37_FewForm_L1_s:type_of% @ref37_FewForm_L1.eq_2:= @ref37_FewForm_L1.eq_2
def a9n(n:Nat)(f1:Form):Option Bool:=
 (bif decide (30<(f1.Pieces.length:Int))then
  some true
 else
  (b2y n f1).bind fun v5=>
  some (decide (60<v5))).bind fun v1=>
 bif v1 then
  some false
 else
  ref37_FewForm_L1 n (
   some true) n 0 f1.Pieces
end Go.Proofs.YthaegflpecbfgaaGreatDoor.M
namespace Go.Proofs.YthaegflpecbfgaaGreatDoor.M
open Go Go.RowKit Rt
set_option linter.unusedVariables false
def b3m(n:Nat)(l1:(List Int))(kont1:(List Frac)->Option (List Frac)):Nat->Int->(List Frac)->Option (List Frac)
 |0,_,_=>none
 |mx1+1,i1,l2=>
  bif decide (i1<(l1.length:Int))then
   (ix l1 i1).bind fun ex1=>
   (b1w n ex1).bind fun v1=>
   (app 64 l2 [v1]).bind fun l4=>
   b3m n l1 kont1 mx1 (iadd .i64 i1 1) l4
  else
   kont1 l2
def b3a(n:Nat)(l1:(List Int)):Option (List Frac):=
 b3m n l1 (fun(l3:List Frac)=>
  some l3) n 0 []
def b3o(n:Nat)(s1:Bs):Option (Form×Int):=
 (scat [116,97,114,105,102,102,32,97,32,123,32,102,101,101,32,61,32] s1).bind fun t1=>
 (scat t1 [32,59,32,125]).bind fun t2=>
 (b2b n t2).bind fun v1=>
 bif v1.2.2 !=0 then
  some ((⟨[]⟩:Form),v1.2.2)
 else
  (c1v n v1.1 [[112,97,112,101,114],[103,108,97,115,115]] (⟨[4,0],3,1⟩:Facts)).bind fun v2=>
  some (v2.1,v2.2)
def b7n(n:Nat)(want1:(List (List Int)))(i1:Int)(l1:(List Frac))(kont2:Option Bool):Nat->Int->Option Bool
 |0,_=>none
 |mx2+1,k1=>
  bif decide (k1<(l1.length:Int))then
   (ix l1 k1).bind fun ex5=>
   (ix want1 i1).bind fun ex6=>
   (ix ex6 k1).bind fun ex7=>
   (b1w n ex7).bind fun v1=>
   (a4s n ex5 v1).bind fun v2=>
   bif !v2 then
    some false
   else
    b7n n want1 i1 l1 kont2 mx2 (iadd .i64 k1 1)
  else
   kont2
def b7g(n:Nat)(want1:(List (List Int)))(kont1:Option Bool):Nat->Int->(List (List Affine))->Option Bool
 |0,_,_=>none
 |mx1+1,i1,f2=>
  bif decide (i1<(want1.length:Int))then
   (ix f2 i1).bind fun ex1=>
   bif(ex1.length:Int) !=1 then
    some false
   else
    (ix f2 i1).bind fun ex2=>
    (ix ex2 0).bind fun ex3=>
    (app 64 [ex3.Const] ex3.Coefs).bind fun l1=>
    (ix want1 i1).bind fun ex4=>
    bif(l1.length:Int) !=(ex4.length:Int)then
     some false
    else
     b7n n want1 i1 l1 (
      b7g n want1 kont1 mx1 (iadd .i64 i1 1) f2) n 0
  else
   kont1
def b8s(n:Nat)(f1:Form)(want1:(List (List Int))):Option Bool:=
 bif(f1.Pieces.length:Int) !=(want1.length:Int)then
  some false
 else
  b7g n want1 (
   some true) n 0 f1.Pieces
theorem ent33:Ent Tryz.prog 33:=fun _ _=>by kernel_rfl
theorem ent13:Ent Tryz.prog 13:=fun _ _=>by kernel_rfl
theorem ent34:Ent Tryz.prog 34:=fun _ _=>by kernel_rfl
theorem ent25:Ent Tryz.prog 25:=fun _ _=>by kernel_rfl
def b3h(n:Nat):Option Bool:=
 (b3o n [53,32,43,32,40,50,32,42,32,112,101,114,115,111,110,115,41]).bind fun v1=>
 (b3o n [109,105,110,40,119,101,105,103,104,116,40,112,97,112,101,114,41,44,32,49,48,41,32,45,32,109,97,120,40,119,101,105,103,104,116,40,103,108,97,115,115,41,44,32,49,41]).bind fun v2=>
 (b3o n [109,97,120,40,109,105,110,40,119,101,105,103,104,116,40,112,97,112,101,114,41,44,32,55,41,44,32,119,101,105,103,104,116,40,103,108,97,115,115,41,41]).bind fun v3=>
 ((b3a n [12,3]).bind fun v26=>
 (a6g n v2.1 v26).bind fun v27=>
 some (v27.1.P.Sign,v27.1.P.Digits,v27.1.Q.Sign,v27.1.Q.Digits,v27.2)).bind fun(f1,f2,f3,f4,one1)=>
 ((b3a n [12,3]).bind fun v24=>
 (a6g n v3.1 v24).bind fun v25=>
 some (v25.1.P.Sign,v25.1.P.Digits,v25.1.Q.Sign,v25.1.Q.Digits,v25.2)).bind fun(f5,f6,f7,f8,two1)=>
 (a6g n (⟨[]⟩:Form) []).bind fun v4=>
 (b3o n [119,101,105,103,104,116,40,116,105,110,41]).bind fun v5=>
 (bif v1.2 !=0 then
  some true
 else
  some (v2.2 !=0)).bind fun v6=>
 (bif v6 then
  some true
 else
  some (v3.2 !=0)).bind fun v7=>
 (bif v7 then
  some true
 else
  some (v5.2 !=11)).bind fun v8=>
 (bif v8 then
  some true
 else
  some (!one1)).bind fun v9=>
 (bif v9 then
  some true
 else
  some (!two1)).bind fun v10=>
 (bif v10 then
  some true
 else
  some v4.2).bind fun v11=>
 (bif v11 then
  some true
 else
  some ((v3.1.Pieces.length:Int) !=2)).bind fun v12=>
 bif v12 then
  some false
 else
  ((b8s n v1.1 [[11,0,0]]).bind fun v14=>
  (bif v14 then
   (b8s n v2.1 [[0,1,(-1)],[(-1),1,0],[10,0,(-1)],[9,0,0]]).bind fun v23=>
   some v23
  else
   some false).bind fun v15=>
  (bif v15 then
   (ix v3.1.Pieces 1).bind fun ex1=>
   some ((ex1.length:Int)==2)
  else
   some false).bind fun v16=>
  (bif v16 then
   (b1w n 7).bind fun v21=>
   (a4s n (⟨(⟨f1,f2⟩:Big),(⟨f3,f4⟩:Big)⟩:Frac) v21).bind fun v22=>
   some v22
  else
   some false).bind fun v17=>
  (bif v17 then
   (b1w n 7).bind fun v19=>
   (a4s n (⟨(⟨f5,f6⟩:Big),(⟨f7,f8⟩:Big)⟩:Frac) v19).bind fun v20=>
   some v20
  else
   some false).bind fun v18=>
  some v18).bind fun v13=>
  some v13
end Go.Proofs.YthaegflpecbfgaaGreatDoor.M
namespace Go.Proofs.YthaegflpecbfgaaGreatDoor.Wrap
open Go Go.ChangeShapes Go.WideShapes Go.ChangeAt Go.RowKit Rt
theorem e0g(W:World):b8m Tryz.prog W 3 (Rp.int .i64) (fun z=>IntKind.i64.min<=z/\z<=IntKind.i64.max):=d4u Tryz.underlying3
theorem cells3:Tryz.prog.cellsOf 3=1:=by kernel_rfl
def ok28(l:List Int):Prop:=l.length<=maxLen/\∀x∈l,(IntKind.i64.min<=x/\x<=IntKind.i64.max)
theorem e1l(W:World):b8m Tryz.prog W 28 (Rp.sl (Rp.int .i64)) ok28:=b3q Tryz.underlying28 (r:=(Rp.int .i64)) (by rw [cells3];rfl) (by decide) (e0g W)
theorem cells28:Tryz.prog.cellsOf 28=1:=by kernel_rfl
theorem cells42:Tryz.prog.cellsOf 42=2:=by kernel_rfl
def ok42(x:M.Big):Prop:=(IntKind.i64.min<=x.Sign/\x.Sign<=IntKind.i64.max)/\ok28 x.Digits
set_option maxRecDepth 100000 in
theorem d3i(W:World):b8m Tryz.prog W 42 M.rp_Big ok42:=by
 intro H enc fuel cs x h
 obtain⟨xs,n,_,_,hl,hn,hf⟩:=DataW.trod_struct Tryz.underlying42 h
 obtain⟨y0,r0,o0⟩:=b3l hn hf (i:=0) rfl (e0g W)
 have e0':=r0
 have e0:(cs.drop 0).take (Tryz.prog.cellsOf 3)= [.int .i64 y0]:=e0'
 rw [cells3]at e0
 obtain⟨y1,r1,o1⟩:=b3l hn hf (i:=1) rfl (e1l W)
 obtain⟨a1_0,n1_0,c1_0,e1',s1_0⟩:=r1
 have e1:(cs.drop 1).take (Tryz.prog.cellsOf 28)= [.slice a1_0 n1_0 c1_0]:=e1'
 rw [cells28]at e1
 rw [cells42]at hl
 refine⟨⟨y0,y1⟩,⟨a1_0,n1_0,c1_0,?_,s1_0⟩,o0,o1⟩
 show cs=_
 have hd:cs.drop 2= []:=List.drop_of_length_le (by omega)
 have h0:cs=cs.drop 0:=(List.drop_zero).symm
 rw [h0]
 rw [show cs.drop 0=(cs.drop 0).take 1++cs.drop 1 from b3k cs 0 1,e0]
 rw [show cs.drop 1=(cs.drop 1).take 1++cs.drop 2 from b3k cs 1 1,e1]
 rw [hd]
 rfl
theorem cells44:Tryz.prog.cellsOf 44=4:=by kernel_rfl
def ok44(x:M.Frac):Prop:=ok42 x.P/\ok42 x.Q
set_option maxRecDepth 100000 in
theorem d0f(W:World):b8m Tryz.prog W 44 M.rp_Frac ok44:=by
 intro H enc fuel cs x h
 obtain⟨xs,n,_,_,hl,hn,hf⟩:=DataW.trod_struct Tryz.underlying44 h
 obtain⟨y0,r0,o0⟩:=b3l hn hf (i:=0) rfl (d3i W)
 obtain⟨a0_1,n0_1,c0_1,e0',s0_1⟩:=r0
 have e0:(cs.drop 0).take (Tryz.prog.cellsOf 42)= [.int .i64 y0.Sign,.slice a0_1 n0_1 c0_1]:=e0'
 rw [cells42]at e0
 obtain⟨y1,r1,o1⟩:=b3l hn hf (i:=1) rfl (d3i W)
 obtain⟨a1_1,n1_1,c1_1,e1',s1_1⟩:=r1
 have e1:(cs.drop 2).take (Tryz.prog.cellsOf 42)= [.int .i64 y1.Sign,.slice a1_1 n1_1 c1_1]:=e1'
 rw [cells42]at e1
 rw [cells44]at hl
 refine⟨⟨y0,y1⟩,⟨a0_1,n0_1,c0_1,a1_1,n1_1,c1_1,?_,s0_1,s1_1⟩,o0,o1⟩
 show cs=_
 have hd:cs.drop 4= []:=List.drop_of_length_le (by omega)
 have h0:cs=cs.drop 0:=(List.drop_zero).symm
 rw [h0]
 rw [show cs.drop 0=(cs.drop 0).take 2++cs.drop 2 from b3k cs 0 2,e0]
 rw [show cs.drop 2=(cs.drop 2).take 2++cs.drop 4 from b3k cs 2 2,e1]
 rw [hd]
 rfl
def ok31(l:List M.Frac):Prop:=l.length<=maxLen/\∀x∈l,ok44 x
theorem e0p(W:World):b8m Tryz.prog W 31 (Rp.sl M.rp_Frac) ok31:=b3q Tryz.underlying31 (r:=M.rp_Frac) (by rw [cells44];rfl) (by decide) (d0f W)
theorem cells31:Tryz.prog.cellsOf 31=1:=by kernel_rfl
theorem cells62:Tryz.prog.cellsOf 62=5:=by kernel_rfl
def ok62(x:M.Affine):Prop:=ok44 x.Const/\ok31 x.Coefs
set_option maxRecDepth 100000 in
theorem e3g(W:World):b8m Tryz.prog W 62 M.rp_Affine ok62:=by
 intro H enc fuel cs x h
 obtain⟨xs,n,_,_,hl,hn,hf⟩:=DataW.trod_struct Tryz.underlying62 h
 obtain⟨y0,r0,o0⟩:=b3l hn hf (i:=0) rfl (d0f W)
 obtain⟨a0_1,n0_1,c0_1,a0_3,n0_3,c0_3,e0',s0_1,s0_3⟩:=r0
 have e0:(cs.drop 0).take (Tryz.prog.cellsOf 44)= [.int .i64 y0.P.Sign,.slice a0_1 n0_1 c0_1,.int .i64 y0.Q.Sign,.slice a0_3 n0_3 c0_3]:=e0'
 rw [cells44]at e0
 obtain⟨y1,r1,o1⟩:=b3l hn hf (i:=1) rfl (e0p W)
 obtain⟨a1_0,n1_0,c1_0,e1',s1_0⟩:=r1
 have e1:(cs.drop 4).take (Tryz.prog.cellsOf 31)= [.slice a1_0 n1_0 c1_0]:=e1'
 rw [cells31]at e1
 rw [cells62]at hl
 refine⟨⟨y0,y1⟩,⟨a0_1,n0_1,c0_1,a0_3,n0_3,c0_3,a1_0,n1_0,c1_0,?_,s0_1,s0_3,s1_0⟩,o0,o1⟩
 show cs=_
 have hd:cs.drop 5= []:=List.drop_of_length_le (by omega)
 have h0:cs=cs.drop 0:=(List.drop_zero).symm
 rw [h0]
 rw [show cs.drop 0=(cs.drop 0).take 4++cs.drop 4 from b3k cs 0 4,e0]
 rw [show cs.drop 4=(cs.drop 4).take 1++cs.drop 5 from b3k cs 4 1,e1]
 rw [hd]
 rfl
def ok57(l:List M.Affine):Prop:=l.length<=maxLen/\∀x∈l,ok62 x
theorem e0z(W:World):b8m Tryz.prog W 57 (Rp.sl M.rp_Affine) ok57:=b3q Tryz.underlying57 (r:=M.rp_Affine) (by rw [cells62];rfl) (by decide) (e3g W)
theorem cells57:Tryz.prog.cellsOf 57=1:=by kernel_rfl
def ok32(l:List (List M.Affine)):Prop:=l.length<=maxLen/\∀x∈l,ok57 x
theorem e2o(W:World):b8m Tryz.prog W 32 (Rp.sl (Rp.sl M.rp_Affine)) ok32:=b3q Tryz.underlying32 (r:=(Rp.sl M.rp_Affine)) (by rw [cells57];rfl) (by decide) (e0z W)
theorem cells32:Tryz.prog.cellsOf 32=1:=by kernel_rfl
theorem cells34:Tryz.prog.cellsOf 34=1:=by kernel_rfl
def ok34(x:M.Form):Prop:=ok32 x.Pieces
set_option maxRecDepth 100000 in
theorem e2x(W:World):b8m Tryz.prog W 34 M.rp_Form ok34:=by
 intro H enc fuel cs x h
 obtain⟨xs,n,_,_,hl,hn,hf⟩:=DataW.trod_struct Tryz.underlying34 h
 obtain⟨y0,r0,o0⟩:=b3l hn hf (i:=0) rfl (e2o W)
 obtain⟨a0_0,n0_0,c0_0,e0',s0_0⟩:=r0
 have e0:(cs.drop 0).take (Tryz.prog.cellsOf 32)= [.slice a0_0 n0_0 c0_0]:=e0'
 rw [cells32]at e0
 rw [cells34]at hl
 refine⟨⟨y0⟩,⟨a0_0,n0_0,c0_0,?_,s0_0⟩,o0⟩
 show cs=_
 have hd:cs.drop 1= []:=List.drop_of_length_le (by omega)
 have h0:cs=cs.drop 0:=(List.drop_zero).symm
 rw [h0]
 rw [show cs.drop 0=(cs.drop 0).take 1++cs.drop 1 from b3k cs 0 1,e0]
 rw [hd]
 rfl
def tabs:List (String×DataW Unit):= [("kerbside/lexer.signs",Rows.laid_kerbside_lexer_signs)]
theorem cells211:Tryz.prog.cellsOf 211=13:=by kernel_rfl
theorem cells5:Tryz.prog.cellsOf 5=1:=by kernel_rfl
theorem gTab0:Tryz.prog.globalNamed "kerbside/lexer.signs" =some 0:=by kernel_rfl
theorem gTabType0:(Tryz.prog.globals[0]?).map (·.type)=some 211:=by kernel_rfl
theorem e4a{W:World}(h:laidMetH Tryz.prog tabs W):FX (all W) 0 [.int .u8 40,.int .u8 41,.int .u8 44,.int .u8 59,.int .u8 58,.int .u8 61,.int .u8 60,.int .u8 43,.int .u8 45,.int .u8 42,.int .u8 47,.int .u8 123,.int .u8 125]:=by
 have h1:laidMet Tryz.prog tabs W:=h
 have h2:laidMet Tryz.prog (("kerbside/lexer.signs",Lib.tabData .u8 [40,41,44,59,58,61,60,43,45,42,47,123,125])::_) W:=h1
 exact d4p gTab0 (Lib.tabIs_of_head gTab0 gTabType0 Tryz.underlying211 Tryz.underlying5 cells5 cells211 h2)
def laidCells:DataW Unit->List Value
 | .lit (.int k z)=> [.int k z]
 | .agg xs=>xs.flatMap fun| .lit (.int k z)=> [.int k z]| .agg [.lit (.int k z),.lit (.int k' z')]=> [.int k z,.int k' z']|_=> []
 |_=> []
def e5v(h:Array Obj)(g:Nat)(d:DataW Unit):Array Obj:=h.modify g fun
 | .cells _ t frozen=> .cells (laidCells d).toArray t frozen
 |o=>o
noncomputable def c2r(os:Os):World:=
 {World.holding Tryz.prog os ⟨#[], #[],[]⟩with heap:=(e5v (World.holding Tryz.prog os ⟨#[], #[],[]⟩).heap 0 Rows.laid_kerbside_lexer_signs)}
theorem d7s(os:Os)(args:Array Value):laidMet Tryz.prog tabs ((c2r os).forCall (fun _ _=>0) ⟨#[],args,[]⟩).memory:=
 laidMet_of_run' 8 (by kernel_rfl) (by kernel_rfl)
end Go.Proofs.YthaegflpecbfgaaGreatDoor.Wrap
namespace Go.Proofs.YthaegflpecbfgaaGreatDoor.Wrap
open Go Go.ChangeShapes Go.WideShapes Go.ChangeAt Go.RowKit Rt
section
variable{H:Type}
theorem e1f(d:DataW H):1<=Rows.uptoBulk d:=by
 cases d with
 |lit l=>cases l<;>simp [Rows.uptoBulk]
 |_=>simp [Rows.uptoBulk]
theorem c0z{d:DataW H}{l:List (DataW H)}(h:d∈l):Rows.uptoBulk d<=Rows.uptoBulkAll l:=by
 induction l with
 |nil=>cases h
 |cons x r ih=>
  simp only [Rows.uptoBulkAll]
  rcases List.mem_cons.1 h with e|e
  ·subst e;omega
  ·have:=ih e;omega
theorem e3j(l:List (DataW H)):l.length<=Rows.uptoBulkAll l:=by
 induction l with
 |nil=>simp [Rows.uptoBulkAll]
 |cons x r ih=>have:=e1f x;simp only [Rows.uptoBulkAll,List.length_cons];omega
variable{W:World}{enc:TypeId×Value->H}{fuel:Nat}
theorem e4e{T e:TypeId}{a:Option Addr}{m c:Nat}{x:DataW H×List MemPlace}(ht:Tryz.prog.underlying T=some (.slice e))(h:DataW.trod enc Tryz.prog W 0 (fun _=>true) true fuel T [.slice a m c]=some x):m<=Rows.uptoBulk x.1:=by
 rcases DataW.trod_slice ht h with⟨e1,_⟩|⟨a',len,cap,elems,rest,n,_,e1,e2,_,_,_,e3,_,_,_⟩
 ·simp only [List.cons.injEq,Value.slice.injEq,and_true]at e1;omega
 ·simp only [List.cons.injEq,Value.slice.injEq,and_true]at e1
  subst e2
  have:=e3j (elems.map (·.1))
  simp only [Rows.uptoBulk,List.length_map]at*
  omega
theorem c3j{T:TypeId}{fs:Array Field}{cs:List Value}{x:DataW H×List MemPlace}(ht:Tryz.prog.underlying T=some (.struct fs))(h:DataW.trod enc Tryz.prog W 0 (fun _=>true) true fuel T cs=some x){i:Nat}{f:Field}(hi:fs[i]?=some f):
 ∃n y,DataW.trod enc Tryz.prog W 0 (fun _=>true) true n f.type ((cs.drop f.offset).take (Tryz.prog.cellsOf f.type))=some y/\Rows.uptoBulk y.1<=Rows.uptoBulk x.1:=by
 obtain⟨xs,n,_,e2,_,hn,hf⟩:=DataW.trod_struct ht h
 have h1:=hf i f hi
 have h2:i<xs.length:=by rw [hn];exact(Array.getElem?_eq_some_iff.1 hi).1
 rw [List.getElem?_eq_getElem h2]at h1
 refine⟨n,xs[i],h1,?_⟩
 subst e2
 have:=c0z (d:=xs[i].1) (l:=xs.map (·.1)) (List.mem_map.2 ⟨_,List.getElem_mem h2,rfl⟩)
 simp only [Rows.uptoBulk]
 omega
theorem d7j{s:Int}{a:Option Addr}{m c:Nat}{x:DataW H×List MemPlace}(h:DataW.trod enc Tryz.prog W 0 (fun _=>true) true fuel 42 [.int .i64 s,.slice a m c]=some x):m<=Rows.uptoBulk x.1:=by
 obtain⟨n,y,h1,h2⟩:=c3j Tryz.underlying42 h (i:=1) rfl
 have h3:DataW.trod enc Tryz.prog W 0 (fun _=>true) true n 28 ((([.int .i64 s,.slice a m c]:List Value).drop 1).take (Tryz.prog.cellsOf 28))=some y:=h1
 rw [cells28]at h3
 have:=e4e Tryz.underlying28 (a:=a) (m:=m) (c:=c) h3
 omega
theorem d8g{s s2:Int}{a a2:Option Addr}{m c m2 c2:Nat}{x:DataW H×List MemPlace}(h:DataW.trod enc Tryz.prog W 0 (fun _=>true) true fuel 44 [.int .i64 s,.slice a m c,.int .i64 s2,.slice a2 m2 c2]=some x):m<=Rows.uptoBulk x.1/\m2<=Rows.uptoBulk x.1:=by
 obtain⟨n,y,h1,h2⟩:=c3j Tryz.underlying44 h (i:=0) rfl
 obtain⟨n2,y2,h3,h4⟩:=c3j Tryz.underlying44 h (i:=1) rfl
 have h5:DataW.trod enc Tryz.prog W 0 (fun _=>true) true n 42 ((([.int .i64 s,.slice a m c,.int .i64 s2,.slice a2 m2 c2]:List Value).drop 0).take (Tryz.prog.cellsOf 42))=some y:=h1
 have h6:DataW.trod enc Tryz.prog W 0 (fun _=>true) true n2 42 ((([.int .i64 s,.slice a m c,.int .i64 s2,.slice a2 m2 c2]:List Value).drop 2).take (Tryz.prog.cellsOf 42))=some y2:=h3
 rw [cells42]at h5 h6
 have g1:=d7j (s:=s) (a:=a) (m:=m) (c:=c) h5
 have g2:=d7j (s:=s2) (a:=a2) (m:=m2) (c:=c2) h6
 omega
end
section
variable{P:Program}{W:World}{T:TypeId}
theorem d4w{e:TypeId}{α:Type}{r:Rp α}{ok:α->Prop}{H:Type}{enc:TypeId×Value->H}{fuel:Nat}{cs:List Value}{x:DataW H×List MemPlace}(ht:P.underlying T=some (.slice e))(hc:P.cellsOf e=r.k)(hp:0<r.k)
 (h:DataW.trod enc P W 0 (fun _=>true) true fuel T cs=some x) (he:∀(n:Nat)(cs':List Value)(x':DataW H×List MemPlace),Rows.uptoBulk x'.1<=Rows.uptoBulk x.1->DataW.trod enc P W 0 (fun _=>true) true n e cs'=some x'->∃y,r.R (all W) cs' y/\ok y):
 ∃l,(Rp.sl r).R (all W) cs l/\(l.length<=maxLen/\∀x∈l,ok x):=by
 rcases DataW.trod_slice ht h with⟨rfl,_⟩|⟨a,len,cap,elems,rest,n,hfu,rfl,hxe,_,hl,hm,hlen0,hel,_,_⟩
 ·exact⟨[],⟨none,0,0,rfl,SlR.nil r _⟩,by simp [maxLen],by simp⟩
 have hx':∀i,i<len->∃q:List Value×α,W.cells? 0 (a.add (i*P.cellsOf e)) (P.cellsOf e)=some q.1/\r.R (all W) q.1 q.2/\ok q.2:=by
  intro i hi
  have h1:=hel i hi
  have h2:i<elems.length:=by omega
  rw [List.getElem?_eq_getElem h2,Option.bind_eq_some_iff]at h1
  obtain⟨cs',h3,h4⟩:=h1
  obtain⟨y,h5,h6⟩:=he n cs' _ (by have:=c0z (d:=elems[i].1) (l:=elems.map (·.1)) (List.mem_map.2 ⟨_,List.getElem_mem h2,rfl⟩);rw [hxe];simp only [Rows.uptoBulk];omega) h4
  exact⟨(cs',y),h3,h5,h6⟩
 by_cases h0:len=0
 ·subst h0
  exact⟨[],⟨some a,0,cap,rfl,rfl,by simp,hm,.inl rfl⟩,by simp [maxLen],by simp⟩
 obtain⟨d,_⟩:=hx' 0 (by omega)
 have hne:Nonempty (List Value×α):=⟨d⟩
 obtain⟨Q,hQ⟩:∃Q:Nat->List Value×α,∀i,i<len->W.cells? 0 (a.add (i*P.cellsOf e)) (P.cellsOf e)=some (Q i).1/\r.R (all W) (Q i).1 (Q i).2/\ok (Q i).2:=
  ⟨fun i=>if hi:i<len then Classical.choose (hx' i hi)else d,fun i hi=>by simp only [hi,dif_pos];exact Classical.choose_spec (hx' i hi)⟩
 have hlen:∀i,i<len->(Q i).1.length=r.k:=fun i hi=>r.len (hQ i hi).2.1
 have hrow:=d4o (r:=r) rfl len (fun i=>(Q i).1) (fun i=>(Q i).2) fun i hi=>(hQ i hi).2.1
 have hcell:∀i j,i<len->j<r.k->W.cell? (a.add (i*r.k+j))=(Q i).1[j]?:=by
  intro i j hi hj
  have h1:=(World.cells?_some (hQ i hi).1).2.2 j (by rw [hc];exact hj)
  rw [hc]at h1
  rwa [d3v]at h1
 have hspot:a.spot=none:=by
  have h1:=hcell 0 0 (by omega) hp
  have h2:=hlen 0 (by omega)
  rw [List.getElem?_eq_getElem (by omega)]at h1
  have e0:a.add (0*r.k+0)=a:=by simp [Addr.add]
  rw [e0]at h1
  exact World.cell?_spot h1
 obtain⟨b,o,spot⟩:=a
 simp only at hspot
 subst hspot
 have hflen:=c1c len (fun i=>(Q i).1) hlen
 refine⟨(List.range len).map fun i=>(Q i).2,⟨some ⟨b,o,none⟩,len,cap,by simp,by simp,by simpa using hl,hm,.inr ⟨b,o,_,rfl,e4q ?_ ?_,hrow⟩⟩,by simpa using Nat.le_trans hl hm,?_⟩
 ·intro i v hv
  have hi:i<len*r.k:=by rw [<-hflen];exact(List.getElem?_eq_some_iff.1 hv).1
  have h1:i/r.k<len:=Nat.div_lt_of_lt_mul (by rw [Nat.mul_comm];exact hi)
  have h2:i %r.k<r.k:=Nat.mod_lt _ hp
  have h3:i/r.k*r.k+i %r.k=i:=Nat.div_add_mod' i r.k
  have h4:=hcell _ _ h1 h2
  have h5:=c5q len (fun i=>(Q i).1) hlen _ _ h1 h2
  rw [h3]at h4 h5
  rw [h5]at hv
  rw [hv,Go.WideShapes.add_plain]at h4
  exact h4
 ·intro e0
  have:=congrArg List.length e0
  rw [hflen]at this
  have:0<len*r.k:=Nat.mul_pos (by omega) hp
  simp only [List.length_nil]at*
  omega
 ·intro x hx
  obtain⟨i,hi,rfl⟩:=List.mem_map.1 hx
  exact(hQ i (List.mem_range.1 hi)).2.2
end
def okU(x:M.Frac):Prop:=x.P.Digits.length<=1048576/\x.Q.Digits.length<=1048576
set_option maxRecDepth 100000 in
theorem d7y(W:World){H:Type}{enc:TypeId×Value->H}{fuel:Nat}{cs:List Value}{x:DataW H×List MemPlace}(h:DataW.trod enc Tryz.prog W 0 (fun _=>true) true fuel 44 cs=some x)(hb:Rows.uptoBulk x.1<=1048576):∃y,M.rp_Frac.R (all W) cs y/\okU y:=by
 obtain⟨y,hr,_⟩:=d0f W enc fuel cs x h
 have hr':=hr
 obtain⟨a,m,c,a2,m2,c2,rfl,s1,s2⟩:=hr'
 obtain⟨g1,g2⟩:=d8g h
 exact⟨y,hr,by have:=s1.1;omega,by have:=s2.1;omega⟩
set_option maxRecDepth 100000 in
theorem c7a(W:World){H:Type}{enc:TypeId×Value->H}{v:Value}{d:DataW H}{ps:List MemPlace}{re:Reach}{b0:Nat}(hval:Value.okWide Tryz.prog W re b0 31 v)(h:DataW.Trod enc Tryz.prog W 0 (fun _=>true) true 31 v d ps)(hb:Rows.uptoBulk d<=1048576):
 ∃a n c l,v= .slice a n c/\SlR M.rp_Frac (all W) a n c l/\∀y,y∈l->okU y:=by
 obtain⟨a0,n0,c0,rfl⟩:=okWide_slice Tryz.underlying31 hval
 obtain⟨fuel,hf⟩:=h
 obtain⟨l,⟨a,m,c,h1,h2⟩,_,h3⟩:=d4w Tryz.underlying31 (r:=M.rp_Frac) (ok:=okU) (by rw [cells44];rfl) (by decide) hf (fun n cs' x' h4 h5=>d7y W h5 (by simp only at h4;omega))
 simp only [Value.cells,List.cons.injEq,and_true]at h1
 exact⟨a,m,c,l,h1,h2,h3⟩
end Go.Proofs.YthaegflpecbfgaaGreatDoor.Wrap
namespace Go.Proofs.YthaegflpecbfgaaGreatDoor.Rt
open Go Go.RowKit
set_option linter.unusedVariables false
set_option linter.unusedSimpArgs false
inductive AV(ty:Nat->Type)where
 |int (k:IntKind) (x:Int)
 |bool (b:Bool)
 |ob (b:Bool)
 |lb (c b:Bool)
 |str (l:Bs)
 |val (v:Value)
 |agg (l:List (AV ty))
 |tup (l:List (AV ty))
 |sl (c:Nat) (xs:List (ty c))
 |bx (i o:Nat)
 |el (c:Nat) (x:ty c) (o:Nat)
 |row (i:Nat)
 |rel (i c:Nat) (x:ty c) (j o:Nat)
 |any
 |clo (f:FuncId) (l:List (AV ty))
 |fb (l:List (AV ty)) (o:Nat)
 |sb (i c k:Nat)
 |rw (i lo hi:Nat)
inductive AO(ty:Nat->Type)where
 |box (T:TypeId) (cs:List (AV ty))
 |row (e q c:Nat) (xs:List (ty c))
 |gone
 |kbox (i:Nat) (T:TypeId) (cs:List (AV ty))
 |krow (i:Nat) (e q c:Nat) (xs:List (ty c))
 |mark
structure Snap where
 K:Nat->OE
 F:Frz
def Snap.nil:Snap:=⟨fun _=> .row 0 0 none 0 0 [],fun _=>none⟩
abbrev AE(ty:Nat->Type):=List (Nat×AV ty)
section
variable{ty:Nat->Type}(rp:∀c,Rp (ty c))(R:List OE)(F:Frz)
mutual
def Conc:AV ty->Value->Prop
 | .int k x,v=>v= .int k x
 | .bool b,v=>v= .bool b
 | .ob b,v=>v= .bool b
 | .lb c b,v=>v= .bool c/\b=c
 | .str l,v=>v=vs l
 | .val u,v=>v=u
 | .agg l,v=>∃cs:List Value,v= .agg cs.toArray/\ConcL l cs
 | .tup l,v=>∃cs:List Value,v= .tuple cs.toArray/\ConcL l cs
 | .sl c xs,v=>∃a m n,v= .slice a m n/\SlR (rp c) F a m n xs
 | .bx i o,v=>∃b T cs,R[i]?=some (.box b T cs)/\v= .pointer (some ⟨b,o,none⟩)
 | .el c x o,v=>∃b p cs,FC F b p cs/\(rp c).R F cs x/\v= .pointer (some ⟨b,p+o,none⟩)
 | .row i,v=>∃e q a m n xs,R[i]?=some (.row e q a m n xs)/\v= .slice a m n
 | .rel i c x j o,v=>∃e b m n us cs,R[i]?=some (.row e (rp c).k (some ⟨b,0,none⟩) m n us)/\cs<+:us.drop (j*(rp c).k)/\(rp c).R F cs x/\v= .pointer (some ⟨b,j*(rp c).k+o,none⟩)
 | .any,_=>True
 | .clo f l,v=>∃cs:List Value,v= .func (.func f) #[] cs.toArray/\ConcL l cs
 | .fb l o,v=>∃(b:Nat)(cs:List Value),v= .pointer (some ⟨b,o,none⟩)/\FC F b 0 cs/\ConcL l cs
 | .sb i c k,v=>∃b T cs,R[i]?=some (.box b T cs)/\v= .slice (some ⟨b,0,none⟩) k k
 | .rw i lo hi,v=>∃e q b m n xs,R[i]?=some (.row e q (some ⟨b,0,none⟩) m n xs)/\lo<=hi/\hi<=m/\lo<=n/\v= .slice (some ⟨b,lo*q,none⟩) (hi-lo) (n-lo)
def ConcL:List (AV ty)->List Value->Prop
 | [],cs=>cs= []
 |x::l,cs=>∃v r,cs=v::r/\Conc x v/\ConcL l r
 end
end
mutual
def AV.sub{ty:Nat->Type}(i:Nat)(r:AV ty):AV ty->AV ty
 | .agg l=> .agg (AV.subL i r l)
 | .tup l=> .tup (AV.subL i r l)
 | .row j=>bif Nat.beq j i then r else .row j
 | .rel j c x p o=>bif Nat.beq j i then .any else .rel j c x p o
 | .int k x=> .int k x
 | .bool b=> .bool b
 | .ob b=> .ob b
 | .lb c b=> .lb c b
 | .str l=> .str l
 | .val v=> .val v
 | .sl c xs=> .sl c xs
 | .bx j o=> .bx j o
 | .el c x o=> .el c x o
 | .any=> .any
 | .clo f l=> .clo f (AV.subL i r l)
 | .fb l o=> .fb (AV.subL i r l) o
 | .sb j c k=> .sb j c k
 | .rw j lo hi=>bif Nat.beq j i then .any else .rw j lo hi
def AV.subL{ty:Nat->Type}(i:Nat)(r:AV ty):List (AV ty)->List (AV ty)
 | []=> []
 |x::l=>AV.sub i r x::AV.subL i r l
 end
section
variable{ty:Nat->Type}{rp:∀c,Rp (ty c)}{R R':List OE}{F F':Frz}
structure Turn(rp:∀c,Rp (ty c))(i:Nat)(r:AV ty)(R:List OE)(F:Frz)(R':List OE)(F':Frz):Prop where
 le:F.le F'
 box:∀(j b:Nat)T(cs:List Value),R[j]?=some (.box b T cs)->∃cs':List Value,R'[j]?=some (.box b T cs')
 row:∀(j:Nat)e q a m n(xs:List Value),j≠i->R[j]?=some (.row e q a m n xs)->R'[j]?=some (.row e q a m n xs)
 at':∀v,Conc rp R F (.row i) v->Conc rp R' F' r v
mutual
theorem Conc.sub{i:Nat}{r:AV ty}(t:Turn rp i r R F R' F'):∀{x:AV ty}{v:Value},Conc rp R F x v->Conc rp R' F' (AV.sub i r x) v
 | .int k x,v,h=>h
 | .bool b,v,h=>h
 | .ob b,v,h=>h
 | .lb c b,v,h=>h
 | .str l,v,h=>h
 | .val u,v,h=>h
 | .agg l,v,⟨cs,h1,h2⟩=>⟨cs,h1,ConcL.sub t h2⟩
 | .tup l,v,⟨cs,h1,h2⟩=>⟨cs,h1,ConcL.sub t h2⟩
 | .sl c xs,v,⟨a,m,n,h1,h2⟩=>⟨a,m,n,h1,h2.mono t.le⟩
 | .bx j o,v,⟨b,T,cs,h1,h2⟩=>by
  obtain⟨cs',h3⟩:=t.box j b T cs h1
  exact⟨b,T,cs',h3,h2⟩
 | .el c x o,v,⟨b,p,cs,h1,h2,h3⟩=>⟨b,p,cs,h1.mono t.le,(rp c).mono t.le h2,h3⟩
 | .row j,v,h=>by
  unfold AV.sub
  cases hb:Nat.beq j i with
  |true=>obtain rfl:=Nat.eq_of_beq_eq_true hb;exact t.at' v h
  |false=>
   obtain⟨e,q,a,m,n,xs,h1,h2⟩:=h
   exact⟨e,q,a,m,n,xs,t.row j e q a m n xs (Nat.ne_of_beq_eq_false hb) h1,h2⟩
 | .rel j c x p o,v,h=>by
  unfold AV.sub
  cases hb:Nat.beq j i with
  |true=>trivial
  |false=>
   obtain⟨e,b,m,n,us,cs,h1,h2,h3,h4⟩:=h
   exact⟨e,b,m,n,us,cs,t.row j e _ _ m n us (Nat.ne_of_beq_eq_false hb) h1,h2,(rp c).mono t.le h3,h4⟩
 | .any,v,_=>trivial
 | .clo f l,v,⟨cs,h1,h2⟩=>⟨cs,h1,ConcL.sub t h2⟩
 | .fb l o,v,⟨b,cs,h1,h2,h3⟩=>⟨b,cs,h1,h2.mono t.le,ConcL.sub t h3⟩
 | .sb j c k,v,⟨b,T,cs,h1,h2⟩=>by
  obtain⟨cs',h3⟩:=t.box j b T cs h1
  exact⟨b,T,cs',h3,h2⟩
 | .rw j lo hi,v,h=>by
  unfold AV.sub
  cases hb:Nat.beq j i with
  |true=>trivial
  |false=>
   obtain⟨e,q,b,m,n,xs,h1,h2⟩:=h
   exact⟨e,q,b,m,n,xs,t.row j e q _ m n xs (Nat.ne_of_beq_eq_false hb) h1,h2⟩
theorem ConcL.sub{i:Nat}{r:AV ty}(t:Turn rp i r R F R' F'):∀{l:List (AV ty)}{cs:List Value},ConcL rp R F l cs->ConcL rp R' F' (AV.subL i r l) cs
 | [],_,h=>h
 |_::_,_,⟨v,k,h1,h2,h3⟩=>⟨v,k,h1,Conc.sub t h2,ConcL.sub t h3⟩
 end
structure Keep(R:List OE)(F:Frz)(R':List OE)(F':Frz):Prop where
 le:F.le F'
 box:∀(j b:Nat)T(cs:List Value),R[j]?=some (.box b T cs)->∃cs':List Value,R'[j]?=some (.box b T cs')
 row:∀(j:Nat)e q a m n(xs:List Value),R[j]?=some (.row e q a m n xs)->R'[j]?=some (.row e q a m n xs)
mutual
theorem Conc.mono(t:Keep R F R' F'):∀{x:AV ty}{v:Value},Conc rp R F x v->Conc rp R' F' x v
 | .int k x,v,h=>h
 | .bool b,v,h=>h
 | .ob b,v,h=>h
 | .lb c b,v,h=>h
 | .str l,v,h=>h
 | .val u,v,h=>h
 | .agg l,v,⟨cs,h1,h2⟩=>⟨cs,h1,ConcL.mono t h2⟩
 | .tup l,v,⟨cs,h1,h2⟩=>⟨cs,h1,ConcL.mono t h2⟩
 | .sl c xs,v,⟨a,m,n,h1,h2⟩=>⟨a,m,n,h1,h2.mono t.le⟩
 | .bx j o,v,⟨b,T,cs,h1,h2⟩=>by
  obtain⟨cs',h3⟩:=t.box j b T cs h1
  exact⟨b,T,cs',h3,h2⟩
 | .el c x o,v,⟨b,p,cs,h1,h2,h3⟩=>⟨b,p,cs,h1.mono t.le,(rp c).mono t.le h2,h3⟩
 | .row j,v,⟨e,q,a,m,n,xs,h1,h2⟩=>⟨e,q,a,m,n,xs,t.row j e q a m n xs h1,h2⟩
 | .rel j c x p o,v,⟨e,b,m,n,us,cs,h1,h2,h3,h4⟩=>⟨e,b,m,n,us,cs,t.row j e _ _ m n us h1,h2,(rp c).mono t.le h3,h4⟩
 | .any,v,_=>trivial
 | .clo f l,v,⟨cs,h1,h2⟩=>⟨cs,h1,ConcL.mono t h2⟩
 | .fb l o,v,⟨b,cs,h1,h2,h3⟩=>⟨b,cs,h1,h2.mono t.le,ConcL.mono t h3⟩
 | .sb j c k,v,⟨b,T,cs,h1,h2⟩=>by
  obtain⟨cs',h3⟩:=t.box j b T cs h1
  exact⟨b,T,cs',h3,h2⟩
 | .rw j lo hi,v,⟨e,q,b,m,n,xs,h1,h2⟩=>⟨e,q,b,m,n,xs,t.row j e q _ m n xs h1,h2⟩
theorem ConcL.mono(t:Keep R F R' F'):∀{l:List (AV ty)}{cs:List Value},ConcL rp R F l cs->ConcL rp R' F' l cs
 | [],_,h=>h
 |_::_,_,⟨v,k,h1,h2,h3⟩=>⟨v,k,h1,Conc.mono t h2,ConcL.mono t h3⟩
 end
theorem Keep.refl:Keep R F R F:=⟨Frz.refl F,fun _ _ _ cs h=>⟨cs,h⟩,fun _ _ _ _ _ _ _ h=>h⟩
theorem Keep.frz(h:F.le F'):Keep R F R F':=⟨h,fun _ _ _ cs h=>⟨cs,h⟩,fun _ _ _ _ _ _ _ h=>h⟩
theorem Keep.more{l:List OE}(h:F.le F'):Keep R F (R++l) F':=by
 refine⟨h,fun j b T cs h=>⟨cs,?_⟩,fun j e q a m n xs h=> ?_⟩<;>
  (rw [List.getElem?_append_left (List.getElem?_eq_some_iff.1 h).1];exact h)
theorem ConcL.len:∀{l:List (AV ty)}{cs:List Value},ConcL rp R F l cs->cs.length=l.length
 | [],_,h=>by simp only [ConcL]at h;subst h;rfl
 |_::_,_,⟨v,k,h1,h2,h3⟩=>by subst h1;simp [ConcL.len h3]
theorem ConcL.get:∀{l:List (AV ty)}{cs:List Value}{j:Nat}{x:AV ty},ConcL rp R F l cs->l[j]?=some x->∃v,cs[j]?=some v/\Conc rp R F x v
 | [],_,_,_,_,h=>by simp at h
 |y::l,_,0,x,⟨v,k,h1,h2,h3⟩,h=>by simp at h;subst h;subst h1;exact⟨v,by simp,h2⟩
 |y::l,_,j+1,x,⟨v,k,h1,h2,h3⟩,h=>by subst h1;obtain⟨u,h4,h5⟩:=ConcL.get h3 (by simpa using h);exact⟨u,by simpa using h4,h5⟩
theorem ConcL.drop:∀(j:Nat){l:List (AV ty)}{cs:List Value},ConcL rp R F l cs->ConcL rp R F (l.drop j) (cs.drop j)
 |0,_,_,h=>h
 |j+1,[],_,h=>by simp only [ConcL]at h;subst h;simp [ConcL]
 |j+1,_::_,_,⟨v,k,h1,h2,h3⟩=>by subst h1;exact ConcL.drop j h3
theorem ConcL.take:∀(j:Nat){l:List (AV ty)}{cs:List Value},ConcL rp R F l cs->ConcL rp R F (l.take j) (cs.take j)
 |0,_,_,h=>by simp [ConcL]
 |j+1,[],_,h=>by simp only [ConcL]at h;subst h;simp [ConcL]
 |j+1,_::_,_,⟨v,k,h1,h2,h3⟩=>by subst h1;exact⟨v,_,rfl,h2,ConcL.take j h3⟩
theorem ConcL.app:∀{l l2:List (AV ty)}{cs cs2:List Value},ConcL rp R F l cs->ConcL rp R F l2 cs2->ConcL rp R F (l++l2) (cs++cs2)
 | [],_,_,_,h,h2=>by simp only [ConcL]at h;subst h;exact h2
 |_::_,_,_,_,⟨v,k,h1,h2,h3⟩,h4=>by subst h1;exact⟨v,_,rfl,h2,ConcL.app h3 h4⟩
def ConcE(rp:∀c,Rp (ty c))(R:List OE)(F:Frz):AE ty->Env->Prop
 | [],m=>m= []
 |p::l,m=>∃v r,m=(p.1,v)::r/\Conc rp R F p.2 v/\ConcE rp R F l r
def subE(i:Nat)(r:AV ty):AE ty->AE ty
 | []=> []
 |p::l=>(p.1,AV.sub i r p.2)::subE i r l
theorem ConcE.sub{i:Nat}{r:AV ty}(t:Turn rp i r R F R' F'):∀{l:AE ty}{m:Env},ConcE rp R F l m->ConcE rp R' F' (subE i r l) m
 | [],_,h=>h
 |_::_,_,⟨v,k,h1,h2,h3⟩=>⟨v,k,h1,Conc.sub t h2,ConcE.sub t h3⟩
theorem ConcE.mono(t:Keep R F R' F'):∀{l:AE ty}{m:Env},ConcE rp R F l m->ConcE rp R' F' l m
 | [],_,h=>h
 |_::_,_,⟨v,k,h1,h2,h3⟩=>⟨v,k,h1,Conc.mono t h2,ConcE.mono t h3⟩
theorem ConcE.get:∀{l:AE ty}{m:Env}{t:Nat}{x:AV ty},ConcE rp R F l m->l.lookup t=some x->∃v,m.lookup t=some v/\Conc rp R F x v
 | [],_,_,_,_,h=>by simp at h
 |p::l,_,t,x,⟨v,k,h1,h2,h3⟩,h=>by
  subst h1
  rw [List.lookup_cons]at h⊢
  cases hb:(t==p.1)with
  |true=>rw [hb]at h;cases h;exact⟨v,by simp,h2⟩
  |false=>rw [hb]at h;simpa using ConcE.get h3 h
theorem ConcE.put{l:AE ty}{m:Env}{t:Nat}{x:AV ty}{v:Value}(h:ConcE rp R F l m)(hx:Conc rp R F x v):ConcE rp R F ((t,x)::l) ((t,v)::m):=⟨v,m,rfl,hx,h⟩
def ofC:Value->AV ty
 | .int k x=> .int k x
 | .bool b=> .bool b
 | .string s=> .str s.data.toList
 |v=> .val v
def ofV:Value->AV ty
 | .agg cs=> .agg (cs.toList.map ofC)
 |v=>ofC v
theorem d8p(v:Value):Conc rp R F (ofC v) v:=by
 cases v<;>first|rfl|exact d6v _
theorem concL_ofC:∀l:List Value,ConcL rp R F (l.map ofC) l
 | []=>rfl
 |v::l=>⟨v,l,rfl,d8p v,concL_ofC l⟩
theorem d7t(v:Value):Conc rp R F (ofV v) v:=by
 cases v with
 |agg cs=>exact⟨cs.toList,by simp,concL_ofC _⟩
 |string s=>exact d6v s
 |_=>rfl
def opA(env:AE ty):Operand->Option (AV ty)
 | .tmp t=>env.lookup t
 | .const v=>some (ofV v)
 | .func f=>some (.val (.func (.func f) #[] #[]))
 | .global g=>some (.val (.pointer (some ⟨g,0,none⟩)))
theorem a1b{env:AE ty}{m:Env}(h:ConcE rp R F env m){x:Operand}{y:AV ty}(hx:opA env x=some y):∃v,opv m x=some v/\Conc rp R F y v:=by
 cases x with
 |tmp t=>exact h.get hx
 |const u=>simp only [opA,Option.some.injEq]at hx;subst hx;exact⟨u,rfl,d7t u⟩
 |func f=>simp only [opA,Option.some.injEq]at hx;subst hx;exact⟨_,rfl,rfl⟩
 |global g=>simp only [opA,Option.some.injEq]at hx;subst hx;exact⟨_,rfl,rfl⟩
def opL(e:AE ty):List Operand->Option (List (AV ty))
 | []=>some []
 |x::l=>match opA e x with
  |some v=>match opL e l with
   |some r=>some (v::r)
   |none=>none
  |none=>none
theorem c9c{env:AE ty}{m:Env}(hE:ConcE rp R F env m):∀{l:List Operand}{r:List (AV ty)},opL env l=some r->∃us,opvs m l=some us/\ConcL rp R F r us
 | [],r,h=>by simp only [opL,Option.some.injEq]at h;subst h;exact⟨[],rfl,rfl⟩
 |x::l,r,h=>by
  simp only [opL]at h
  split at h
  ·rename_i v hx
   split at h
   ·rename_i r' hl
    cases h
    obtain⟨u,h1,h2⟩:=a1b hE hx
    obtain⟨us,h3,h4⟩:=c9c hE hl
    exact⟨u::us,by simp [opvs,h1,h3],u,us,rfl,h2,h4⟩
   ·cases h
  ·cases h
def litOf:AV ty->Option Bool
 | .bool c=>some c
 | .lb c _=>some c
 |_=>none
theorem b5x{x:AV ty}{v:Value}{c:Bool}(h:litOf x=some c)(hc:Conc rp R F x v):v= .bool c:=by
 cases x<;>simp only [litOf,reduceCtorEq,Option.some.injEq]at h<;>simp only [Conc]at hc
 ·rw [hc,h]
 ·rw [hc.1,h]
def noBool:AV ty->Bool
 | .val (.bool _)=>false
 | .val _=>true
 |_=>false
theorem d7f{x:AV ty}{v:Value}(h:noBool x=true)(hc:Conc rp R F x v):∀b,v≠ .bool b:=by
 intro b e
 cases x<;>simp only [noBool,reduceCtorEq]at h
 simp only [Conc]at hc
 subst hc;subst e
 simp [noBool]at h
def a9g(ops:Array Oper)(env:AE ty):Option (Nat×Bool)->Bool
 |none=>true
 |some (j,b)=>match(ops[j]?).bind (·.dst)with
  |some t=>match env.lookup t with
   |some x=>match litOf x with
    |some c=>c==b
    |none=>false
   |none=>false
  |none=>false
def c4k(ops:Array Oper)(env:AE ty):Option (Nat×Bool)->Bool
 |none=>false
 |some (j,b)=>match(ops[j]?).bind (·.dst)with
  |some t=>match env.lookup t with
   |some x=>match litOf x with
    |some c=>c !=b
    |none=>noBool x
   |none=>false
  |none=>false
theorem a3d{ops:Array Oper}{env:AE ty}{m:Env}(h:ConcE rp R F env m){g:Option (Nat×Bool)}(hg:a9g ops env g=true):isOn ops m g=true:=by
 cases g with
 |none=>rfl
 |some p=>
  obtain⟨j,b⟩:=p
  simp only [a9g]at hg
  simp only [isOn]
  cases hd:(ops[j]?).bind (·.dst)with
  |none=>rw [hd]at hg;exact hg
  |some t=>
   rw [hd]at hg
   dsimp only at hg⊢
   cases hc0:env.lookup t with
   |none=>rw [hc0]at hg;cases hg
   |some x=>
   rw [hc0]at hg
   dsimp only at hg
   split at hg
   ·rename_i c hc
    obtain⟨v,h1,h2⟩:=h.get hc0
    have h2:=b5x hc h2
    subst h2
    rw [h1];exact hg
   ·cases hg
theorem c1m{ops:Array Oper}{env:AE ty}{m:Env}(h:ConcE rp R F env m){g:Option (Nat×Bool)}(hg:c4k ops env g=true):c5t ops m g=true:=by
 cases g with
 |none=>exact hg
 |some p=>
  obtain⟨j,b⟩:=p
  simp only [c4k]at hg
  simp only [c5t]
  cases hd:(ops[j]?).bind (·.dst)with
  |none=>rw [hd]at hg;exact hg
  |some t=>
   rw [hd]at hg
   dsimp only at hg⊢
   cases hc0:env.lookup t with
   |none=>rw [hc0]at hg;cases hg
   |some x=>
   rw [hc0]at hg
   dsimp only at hg
   split at hg
   ·rename_i c hc
    obtain⟨v,h1,h2⟩:=h.get hc0
    have h2:=b5x hc h2
    subst h2
    rw [h1];exact hg
   ·obtain⟨v,h1,h2⟩:=h.get hc0
    have h2:=d7f hg h2
    rw [h1]
    cases v<;>first|rfl|exact absurd rfl (h2 _)
def RelO(rp:∀c,Rp (ty c))(K:Snap)(R:List OE)(F:Frz):AO ty->OE->Prop
 | .box T cs,e=>∃b us,e= .box b T us/\ConcL rp R F cs us
 | .row el q c xs,e=>∃a m n us,e= .row el q a m n us/\RowN (rp c) F m us xs
 | .gone,_=>True
 | .kbox i T cs,e=>e=K.K i/\∃b us,e= .box b T us/\ConcL rp R F cs us
 | .krow i el q c xs,e=>e=K.K i/\∃a m n us,e= .row el q a m n us/\RowN (rp c) F m us xs
 | .mark,e=>K.F.le F/\∃el q a m n us,e= .row el q a m n us
def RelH(rp:∀c,Rp (ty c))(K:Snap)(R:List OE)(F:Frz)(H:List (AO ty))(S:List OE):Prop:=H.length=S.length/\∀(i:Nat)(o:AO ty),H[i]?=some o->∃e:OE,S[i]?=some e/\RelO rp K R F o e
def AO.sub(i:Nat)(r:AV ty):AO ty->AO ty
 | .box T cs=> .box T (AV.subL i r cs)
 | .row e q c xs=> .row e q c xs
 | .gone=> .gone
 | .kbox j T cs=> .kbox j T (AV.subL i r cs)
 | .krow j e q c xs=> .krow j e q c xs
 | .mark=> .mark
def subH(i:Nat)(r:AV ty):List (AO ty)->List (AO ty)
 | []=> []
 |o::l=>o.sub i r::subH i r l
variable{K:Snap}
theorem RelO.sub{i:Nat}{r:AV ty}(t:Turn rp i r R F R' F'){o:AO ty}{e:OE}(h:RelO rp K R F o e):RelO rp K R' F' (o.sub i r) e:=by
 cases o with
 |box T cs=>obtain⟨b,us,h1,h2⟩:=h;exact⟨b,us,h1,h2.sub t⟩
 |row el q c xs=>obtain⟨a,m,n,us,h1,h2⟩:=h;exact⟨a,m,n,us,h1,h2.mono t.le⟩
 |gone=>trivial
 |kbox j T cs=>obtain⟨h0,b,us,h1,h2⟩:=h;exact⟨h0,b,us,h1,h2.sub t⟩
 |krow j el q c xs=>obtain⟨h0,a,m,n,us,h1,h2⟩:=h;exact⟨h0,a,m,n,us,h1,h2.mono t.le⟩
 |mark=>exact⟨h.1.trans t.le,h.2⟩
theorem RelO.mono(t:Keep R F R' F'){o:AO ty}{e:OE}(h:RelO rp K R F o e):RelO rp K R' F' o e:=by
 cases o with
 |box T cs=>obtain⟨b,us,h1,h2⟩:=h;exact⟨b,us,h1,h2.mono t⟩
 |row el q c xs=>obtain⟨a,m,n,us,h1,h2⟩:=h;exact⟨a,m,n,us,h1,h2.mono t.le⟩
 |gone=>trivial
 |kbox j T cs=>obtain⟨h0,b,us,h1,h2⟩:=h;exact⟨h0,b,us,h1,h2.mono t⟩
 |krow j el q c xs=>obtain⟨h0,a,m,n,us,h1,h2⟩:=h;exact⟨h0,a,m,n,us,h1,h2.mono t.le⟩
 |mark=>exact⟨h.1.trans t.le,h.2⟩
theorem c5z(i:Nat)(r:AV ty):∀H:List (AO ty),subH i r H=H.map (AO.sub i r)
 | []=>rfl
 |o::l=>by rw [subH,c5z i r l];rfl
theorem RelH.mono{H:List (AO ty)}{S:List OE}(t:Keep R F R' F')(h:RelH rp K R F H S):RelH rp K R' F' H S:=
 ⟨h.1,fun i o ho=>by obtain⟨e,h1,h2⟩:=h.2 i o ho;exact⟨e,h1,h2.mono t⟩⟩
theorem RelH.sub{i:Nat}{r:AV ty}{H:List (AO ty)}{S:List OE}(t:Turn rp i r R F R' F')(h:RelH rp K R F H S):RelH rp K R' F' (subH i r H) S:=by
 refine⟨by rw [c5z];simpa using h.1,fun j o ho=> ?_⟩
 rw [c5z,List.getElem?_map]at ho
 obtain⟨o',h1,rfl⟩:=Option.map_eq_some_iff.1 ho
 obtain⟨e,h2,h3⟩:=h.2 j o' h1
 exact⟨e,h2,h3.sub t⟩
theorem RelH.set{H:List (AO ty)}{S:List OE}(h:RelH rp K R F H S)(i:Nat){o:AO ty}{e:OE}(ho:RelO rp K R F o e):RelH rp K R F (H.set i o) (S.set i e):=by
 refine⟨by simpa using h.1,fun j o' hj=> ?_⟩
 rw [List.getElem?_set]at hj⊢
 by_cases hij:i=j
 ·subst hij
  simp only [if_true]at hj⊢
  split at hj
  ·rename_i hlt
   cases hj
   rw [if_pos (by rw [<-h.1];exact hlt)]
   exact⟨e,rfl,ho⟩
  ·cases hj
 ·rw [if_neg hij]at hj⊢
  exact h.2 j o' hj
theorem RelH.add{H:List (AO ty)}{S:List OE}(h:RelH rp K R F H S){o:AO ty}{e:OE}(ho:RelO rp K R F o e):RelH rp K R F (H++ [o]) (S++ [e]):=by
 refine⟨by simp [h.1],fun j o' hj=> ?_⟩
 rw [List.getElem?_append]at hj⊢
 rw [h.1]at hj
 split at hj
 ·rename_i hlt
  rw [if_pos hlt]
  exact h.2 j o' hj
 ·rename_i hlt
  rw [if_neg hlt]
  cases hk:j-S.length with
  |zero=>rw [hk]at hj;cases hj;exact⟨e,rfl,ho⟩
  |succ k=>rw [hk]at hj;simp at hj
end
theorem HS.perm{F0 F:Frz}{w0 w:World}{X:List Nat}{O O':List OE}(h:HS F0 w0 X F O w)(hp:O.Perm O'):HS F0 w0 X F O' w:=
 ⟨h.sat,h.le,h.new,fun e he=>h.own e (hp.mem_iff.2 he),fun e he=>h.sep e (hp.mem_iff.2 he),
  h.dis.perm hp (fun h b h1 h2=>h b h2 h1),h.os,h.tape,h.output,h.size,h.old⟩
theorem HS.addEnd{F0 F:Frz}{w0 w:World}{X:List Nat}{O:List OE}{e:OE}(h:HS F0 w0 X F (e::O) w):HS F0 w0 X F (O++ [e]) w:=
 h.perm (List.perm_append_comm (l₁:= [e]) (l₂:=O))
end Go.Proofs.YthaegflpecbfgaaGreatDoor.Rt
namespace Go.Proofs.YthaegflpecbfgaaGreatDoor.Rt
open Go Go.RowKit
set_option linter.unusedVariables false
set_option linter.unusedSimpArgs false
def feld(P:Program)(t:TypeId)(j:Nat):Option (TypeId×Nat):=match P.underlying t with
 |some (.struct fs)=>(fs[j]?).map fun f=>(f.type,f.offset)
 |_=>none
structure Tbl(P:Program)where
 ty:Nat->Type
 rp:∀c,Rp (ty c)
 en:∀c,ty c->List (AV ty)
 dec:∀c,List (AV ty)->Option (ty c)
 enOk:∀(R:List OE){F:Frz}{c:Nat}{cs:List Value}{x:ty c},(rp c).R F cs x->ConcL rp R F (en c x) cs
 decOk:∀{R:List OE}{F:Frz}{c:Nat}{l:List (AV ty)}{cs:List Value}{x:ty c},dec c l=some x->ConcL rp R F l cs->(rp c).R F cs x
 und:TypeId->Option TypeDesc
 undOk:∀{t D},und t=some D->P.underlying t=some D
 agg:TypeId->Option Bool
 aggOk:∀{t b},agg t=some b->a8x P t b
 size:TypeId->Option Nat
 sizeOk:∀{t k},size t=some k->SizeIs P t k
 fld:TypeId->Nat->Option Nat
 fldOk:∀{t j o},fld t j=some o->a8p P t j o
 fel:TypeId->Nat->Option (TypeId×Nat)
 felOk:∀{t j e o},fel t j=some (e,o)->feld P t j=some (e,o)
 zero:TypeId->Option Value
 zeroOk:∀{t z},zero t=some z->b6q P t z
 cod:TypeId->Nat
 elt:Nat->TypeId
 bld:TypeId->Option (List (Nat×Nat))
 app:TypeId->Option (TypeId×Nat×Nat)
 appOk:∀{t el q b},app t=some (el,q,b)->AppIs P t el q b
 mix:P.follows .mixedOrders=true
 gl:Frz->Prop
 glMono:∀{F F':Frz},F.le F'->gl F->gl F'
 bldOk:∀{t ps},bld t=some ps->∃fs:List Field,P.underlying t=some (.struct fs.toArray)/\fs.map (·.offset)=ps.map (·.1)/\∀(i:Nat)f p,fs[i]?=some f->ps[i]?=some p->SizeIs P f.type p.2
def c7k{α:Type}:Nat->List α->Option (List α)
 |0,_=>some []
 |_+1,[]=>none
 |m+1,x::l=>match c7k m l with
  |some r=>some (x::r)
  |none=>none
theorem b5y{α:Type}:∀{m:Nat}{l r:List α},c7k m l=some r->l.take m=r/\r.length=m
 |0,l,r,h=>by simp only [c7k,Option.some.injEq]at h;subst h;simp
 |m+1,[],r,h=>by simp [c7k]at h
 |m+1,x::l,r,h=>by
  simp only [c7k]at h
  split at h
  ·rename_i r' h'
   cases h
   obtain⟨h1,h2⟩:=b5y h'
   exact⟨by simp [h1],by simp [h2]⟩
  ·cases h
def intA{ty:Nat->Type}(op:BinOp)(k:IntKind)(x y:Int):Option (AV ty):=
 match op with
 | .add=>some (.int k (iadd k x y))
 | .sub=>some (.int k (isub k x y))
 | .mul=>some (.int k (imul k x y))
 | .and=>some (.int k (iand k x y))
 | .or=>some (.int k (ior k x y))
 | .xor=>some (.int k (ixor k x y))
 | .eql=>some (.ob (x==y))
 | .neq=>some (.ob (x !=y))
 | .lss=>some (.ob (decide (x<y)))
 | .leq=>some (.ob (decide (x<=y)))
 | .gtr=>some (.ob (decide (y<x)))
 | .geq=>some (.ob (decide (y<=x)))
 |_=>none
def strA{ty:Nat->Type}(op:BinOp)(a b:Bs):Option (AV ty):=
 match op with
 | .eql=>some (.ob (a==b))
 | .neq=>some (.ob (!(a==b)))
 | .lss=>some (.ob (Op.bytesLess a b))
 | .leq=>some (.ob (Op.bytesLess a b||a==b))
 | .gtr=>some (.ob (!(Op.bytesLess a b||a==b)))
 | .geq=>some (.ob (!(Op.bytesLess a b)))
 |_=>none
def c8i{ty:Nat->Type}:AV ty->Option Bool
 | .bool b=>some b
 | .ob b=>some b
 | .lb c _=>some c
 |_=>none
theorem c2u{ty:Nat->Type}{rp:∀c,Rp (ty c)}{R:List OE}{F:Frz}{x:AV ty}{v:Value}{b:Bool}(h:c8i x=some b)(hc:Conc rp R F x v):v= .bool b:=by
 cases x<;>simp only [c8i,reduceCtorEq,Option.some.injEq]at h<;>simp only [Conc]at hc
 ·rw [hc,h]
 ·rw [hc,h]
 ·rw [hc.1,h]
def e4r{ty:Nat->Type}(D:Option TypeDesc)(op:BinOp)(a b:Bool):Option (AV ty):=
 match D,op with
 |some .bool,.eql=>some (.ob (a==b))
 |some .bool,.neq=>some (.ob (!(a==b)))
 |_,_=>none
section
variable{P:Program}(T:Tbl P)
def c0o(t:TypeId)(cs:List (AV T.ty)):Option (AV T.ty):=
 match T.agg t with
 |some false=>cs.head?
 |some true=>match T.size t with
  |some m=>match c7k m cs with
   |some r=>some (.agg r)
   |none=>none
  |none=>none
 |none=>none
inductive Ld where
 |all
 |mix
 |kept
def bxA{ty:Nat->Type}(ld:Ld):Option (AO ty)->Option (List (AV ty))
 |some (.box _ cs)=>match ld with
  | .all=>some cs
  |_=>none
 |some (.kbox _ _ cs)=>some cs
 |_=>none
def e2i{ty:Nat->Type}(ld:Ld):Option (AO ty)->Bool
 |some (.row _ _ _ _)=>match ld with
  | .all=>true
  |_=>false
 |some (.krow _ _ _ _ _)=>true
 |_=>false
def d7h{ty:Nat->Type}:Option (AO ty)->Option Nat
 |some (.row _ _ _ xs)=>some xs.length
 |some (.krow _ _ _ _ xs)=>some xs.length
 |_=>none
def b8o(ld:Ld)(env:AE T.ty)(H:List (AO T.ty)):Op->Option (AV T.ty)
 | .move x=>opA env x
 | .assign x=>opA env x
 | .pick c a b=>match opA env c with
   |some x=>match litOf x with
    |some true=>opA env a
    |some false=>opA env b
    |none=>none
   |none=>none
 | .binOp op t x y _=>match opA env x,opA env y with
   |some (.int k a),some (.int k' b)=>match decide (k'=k)with
    |true=>intA op k a b
    |false=>none
   |some (.str a),some (.str b)=>strA op a b
   |some x,some y=>match c8i x,c8i y with
    |some a,some b=>e4r (T.und t) op a b
    |_,_=>none
   |_,_=>none
 | .unOp op _ x=>match op,opA env x with
   | .not,some (.bool b)=>some (.bool (!b))
   | .not,some (.ob b)=>some (.ob (!b))
   | .not,some (.lb c _)=>some (.bool (!c))
   | .neg,some (.int k m)=>some (.int k (k.wrap (0-m)))
   |_,_=>none
 | .convert s t x=>match opA env x,T.und s,T.und t with
   |some (.int _ m),some _,some (.int j)=>some (.int j (j.wrap m))
   |_,_,_=>none
 | .extract x i=>match opA env x with
   |some (.tup l)=>l[i]?
   |_=>none
 | .fieldAddr t x j=>match T.fld t j,opA env x with
   |some o,some (.bx i p)=>some (.bx i (p+o))
   |some o,some (.el c y p)=>some (.el c y (p+o))
   |some o,some (.rel i c y k p)=>some (.rel i c y k (p+o))
   |some o,some (.fb l p)=>some (.fb l (p+o))
   |_,_=>none
 | .field t x j=>match T.fel t j,opA env x with
   |some (e,o),some (.agg l)=>c0o T e (l.drop o)
   |_,_=>none
 | .load t x=>match opA env x with
   |some (.bx i o)=>match bxA ld H[i]? with
    |some cs=>c0o T t (cs.drop o)
    |none=>none
   |some (.el c y o)=>match ld with
    | .kept=>none
    |_=>c0o T t ((T.en c y).drop o)
   |some (.rel i c y _ o)=>match e2i ld H[i]? with
    |true=>c0o T t ((T.en c y).drop o)
    |false=>none
   |some (.fb l o)=>match ld with
    | .kept=>none
    |_=>c0o T t (l.drop o)
   |_=>none
 | .nilCheck x=>match opA env x with
   |some (.bx i o)=>some (.bx i o)
   |some (.el c y o)=>some (.el c y o)
   |some (.rel i c y k o)=>some (.rel i c y k o)
   |some (.fb l o)=>some (.fb l o)
   |_=>none
 | .makeFunc (.func f) tys caps=>match tys.toList,opL env caps.toList with
   | [],some l=>some (.clo f l)
   |_,_=>none
 | .indexAddr t x y=>match opA env x with
   |some (.sb i _ k)=>match opA env y,T.und t with
    |some (.int _ (.ofNat j)),some (.slice el)=>match T.size el,Nat.blt j k with
     |some q,true=>some (.bx i (j*q))
     |_,_=>none
    |_,_=>none
   |_=>none
 | .call ⟨.builtin .len,args,ts⟩=>match args.toList,ts.toList with
   | [x],[t]=>match opA env x,T.und t with
     |some (.str l),some .string=>some (.int .i64 l.length)
     |some (.sl _ xs),some (.slice _)=>some (.int .i64 xs.length)
     |some (.row i),some (.slice _)=>match d7h H[i]? with
      |some k=>some (.int .i64 k)
      |none=>none
     |some (.val (.slice none 0 0)),some (.slice _)=>some (.int .i64 0)
     |some (.sb _ _ k),some (.slice _)=>some (.int .i64 k)
     |_,_=>none
   |_,_=>none
 | .call ⟨.builtin .min,args,_⟩=>match args.toList with
   | [x,y]=>match opA env x,opA env y with
     |some (.int k a),some (.int k' b)=>match decide (k'=k)with
      |true=>some (.int k (imin a b))
      |false=>none
     |_,_=>none
   |_=>none
 | .call ⟨.builtin .max,args,_⟩=>match args.toList with
   | [x,y]=>match opA env x,opA env y with
     |some (.int k a),some (.int k' b)=>match decide (k'=k)with
      |true=>some (.int k (imax a b))
      |false=>none
     |_,_=>none
   |_=>none
 |_=>none
end
section
variable{P:Program}{T:Tbl P}{R:List OE}{F:Frz}{env:AE T.ty}{menv:Env}{H:List (AO T.ty)}
def c2d(P:Program)(W:World->Prop)(menv:Env)(o:Oper)(v:Value):Prop:=
 ∀(w:World),W w->∀(n:Nat)(a:Act),Has n a menv->(execOp a.eval o).run P w= .ok (.value v) w
def AO.isK{ty:Nat->Type}:AO ty->Bool
 | .kbox _ _ _=>true
 | .krow _ _ _ _ _=>true
 |_=>false
structure WOk{ty:Nat->Type}(ld:Ld)(H:List (AO ty))(R:List OE)(F:Frz)(W:World->Prop):Prop where
 own:ld= .all->∀w,W w->∀(i:Nat)e,R[i]?=some e->e.ok w
 kept:∀w,W w->∀(i:Nat)o e,H[i]?=some o->o.isK=true->R[i]?=some e->e.ok w
 fz:ld≠ .kept->∀w,W w->∃F',F.le F'/\Sat F' w
theorem e5l{ty:Nat->Type}{rp:∀c,Rp (ty c)}{K:Snap}{R:List OE}{F:Frz}{W:World->Prop}{ld:Ld}{H:List (AO ty)}{i:Nat}{cs:List (AV ty)}(h:bxA ld H[i]?=some cs)(hH:RelH rp K R F H R)(hW:WOk ld H R F W):
 ∃b t us,R[i]?=some (.box b t us)/\ConcL rp R F cs us/\∀w,W w->(OE.box b t us).ok w:=by
 unfold bxA at h
 split at h
 ·rename_i t cs' hi
  split at h
  ·cases h
   obtain⟨e,h1,b,us,rfl,h2⟩:=hH.2 i _ hi
   exact⟨b,t,us,h1,h2,fun w hw=>hW.own rfl w hw i _ h1⟩
  ·cases h
 ·rename_i t cs' hi
  cases h
  obtain⟨e,h1,h0,b,us,rfl,h2⟩:=hH.2 i _ hi
  exact⟨b,_,us,h1,h2,fun w hw=>hW.kept w hw i _ _ hi rfl h1⟩
 ·cases h
theorem d3l{w:World}{b:Nat}{t:TypeId}{cs:List Value}(h:(OE.box b t cs).ok w){j:Nat}{v:Value}(hj:cs[j]?=some v):w.cell? ⟨b,j,none⟩=some v:=by
 have h1:w.heap[b]?=some (.cells cs.toArray t (0,0)):=h
 simp [World.cell?,h1,hj]
theorem d7p{ty:Nat->Type}{R:List OE}{F:Frz}{W:World->Prop}{ld:Ld}{H:List (AO ty)}{i:Nat}(h:e2i ld H[i]?=true)(hW:WOk ld H R F W){e:OE}(hR:R[i]?=some e):∀w,W w->e.ok w:=by
 unfold e2i at h
 split at h
 ·split at h
  ·exact fun w hw=>hW.own rfl w hw i _ hR
  ·cases h
 ·rename_i hi
  exact fun w hw=>hW.kept w hw i _ _ hi rfl hR
 ·cases h
theorem d5z{ty:Nat->Type}{rp:∀c,Rp (ty c)}{K:Snap}{R:List OE}{F:Frz}{H:List (AO ty)}{i k:Nat}(h:d7h H[i]?=some k)(hH:RelH rp K R F H R){e q:Nat}{a:Option Addr}{m n:Nat}{us:List Value}(hR:R[i]?=some (.row e q a m n us)):m=k:=by
 unfold d7h at h
 split at h
 ·rename_i hi
  cases h
  obtain⟨en,h1,a',m',n',us',rfl,h2⟩:=hH.2 i _ hi
  rw [hR]at h1;cases h1
  exact h2.len.symm
 ·rename_i hi
  cases h
  obtain⟨en,h1,h0,a',m',n',us',rfl,h2⟩:=hH.2 i _ hi
  rw [hR]at h1;cases h1
  exact h2.len.symm
 ·cases h
variable{K:Snap}{ld:Ld}{W:World->Prop}
variable{dst:Option Tmp}{type:TypeId}{pos:String}{after:Array Edge}{guard:Option (Nat×Bool)}
theorem e4t(hE:ConcE T.rp R F env menv){op:BinOp}{t t':TypeId}{x y:Operand}{r:AV T.ty}(he:b8o T ld env H (.binOp op t x y t')=some r):∃v,Conc T.rp R F r v/\c2d P W menv ⟨dst,.binOp op t x y t',type,pos,after,guard⟩ v:=by
 simp only [b8o]at he
 split at he
 ·rename_i k a k' b hx hy
  obtain⟨u,hx1,hx2⟩:=a1b hE hx
  obtain⟨z,hy1,hy2⟩:=a1b hE hy
  simp only [Conc]at hx2 hy2
  subst hx2;subst hy2
  split at he
  ·rename_i hk
   have hk:=of_decide_eq_true hk
   subst hk
   have:∃v,d1s op k' a b=some v/\Conc T.rp R F r v:=by
    cases op<;>simp only [intA,Option.some.injEq,reduceCtorEq]at he<;>subst he<;>exact⟨_,rfl,rfl⟩
   obtain⟨v,h1,h2⟩:=this
   exact⟨v,h2,fun w _ _ _ ha=>by simp [execOp,ha.op hx1,ha.op hy1,a3g,c4m h1]⟩
  ·cases he
 ·rename_i a b hx hy
  obtain⟨u,hx1,hx2⟩:=a1b hE hx
  obtain⟨z,hy1,hy2⟩:=a1b hE hy
  simp only [Conc]at hx2 hy2
  subst hx2;subst hy2
  have:∃v,c7m op a b=some v/\Conc T.rp R F r v:=by
   cases op<;>simp only [strA,Option.some.injEq,reduceCtorEq]at he<;>subst he<;>exact⟨_,rfl,rfl⟩
  obtain⟨v,h1,h2⟩:=this
  refine⟨v,h2,fun w _ _ _ ha=> ?_⟩
  have e:(eqGuard op t x y (vs a) (vs b)).run P w= .ok () w:=b1d
  simp [execOp,ha.op hx1,ha.op hy1,e,b9j h1]
 ·rename_i x0 y0 _ _ hx hy
  obtain⟨u,hx1,hx2⟩:=a1b hE hx
  obtain⟨z,hy1,hy2⟩:=a1b hE hy
  split at he
  ·rename_i a b ea eb
   have hx2:=c2u ea hx2
   have hy2:=c2u eb hy2
   subst hx2;subst hy2
   unfold e4r at he
   split at he
   ·rename_i hu
    cases he
    refine⟨_,rfl,fun w _ _ _ ha=> ?_⟩
    have e:=run_equal_bool (P:=P) w t a b (T.undOk hu)
    simp [execOp,ha.op hx1,ha.op hy1,b4i,binOp,e]
   ·rename_i hu
    cases he
    refine⟨_,rfl,fun w _ _ _ ha=> ?_⟩
    have e:=run_equal_bool (P:=P) w t a b (T.undOk hu)
    simp [execOp,ha.op hx1,ha.op hy1,b4i,binOp,e]
   ·cases he
  ·cases he
 ·cases he
theorem c6k{t:TypeId}{cs:List (AV T.ty)}{r:AV T.ty}(h:c0o T t cs=some r){us:List Value}(hc:ConcL T.rp R F cs us){b o:Nat}{x:Operand}(hx:opv menv x=some (.pointer (some ⟨b,o,none⟩)))
 (hw:∀w,W w->∀j v,us[j]?=some v->w.cell? ⟨b,o+j,none⟩=some v):∃v,Conc T.rp R F r v/\c2d P W menv ⟨dst,.load t x,type,pos,after,guard⟩ v:=by
 unfold c0o at h
 split at h
 ·rename_i hA
  have hA:=T.aggOk hA
  obtain⟨v,h1,h2⟩:=hc.get (j:=0) (x:=r) (by rw [<-h];exact(List.head?_eq_getElem? ..).symm)
  refine⟨v,h2,fun w hs n a ha=> ?_⟩
  have h3:=hw w hs 0 v h1
  simp [execOp,Instr.loadAt,Instr.sureAddr,ha.op hx,loadVar,hA w,show w.cell? ⟨b,o,none⟩=some v from h3]
 ·rename_i hA
  have hA:=T.aggOk hA
  split at h
  ·rename_i m hS
   have hS:=T.sizeOk hS
   split at h
   ·rename_i l hl
    cases h
    obtain⟨e1,e2⟩:=b5y hl
    have h4:=ConcL.take m hc
    rw [e1]at h4
    have h5:(us.take m).length=m:=by rw [h4.len,e2]
    refine⟨_,⟨us.take m,rfl,h4⟩,fun w hs n a ha=> ?_⟩
    have e:=run_loadCells_list (P:=P) w ⟨b,o,none⟩ (us.take m) (fun j v hj=>by
     rw [a7u]
     refine hw w hs j v ?_
     rw [List.getElem?_take]at hj
     split at hj
     ·exact hj
     ·cases hj)
    rw [h5]at e
    simp [execOp,Instr.loadAt,Instr.sureAddr,ha.op hx,loadVar,hA w,hS w,e]
   ·cases h
  ·cases h
 ·cases h
theorem d8e{t:TypeId}{j:Nat}{e:TypeId}{o:Nat}{l:List (AV T.ty)}{r:AV T.ty}(hf:T.fel t j=some (e,o))(h:c0o T e (l.drop o)=some r){cs:List Value}(hc:ConcL T.rp R F l cs):∃v,Conc T.rp R F r v/\∀w,(Instr.field t (.agg cs.toArray) j).run P w= .ok v w:=by
 have hf:=T.felOk hf
 unfold feld at hf
 split at hf
 ·rename_i fs hu
  obtain⟨f,h1,h2⟩:=Option.map_eq_some_iff.1 hf
  cases h2
  have hc:=ConcL.drop f.offset hc
  unfold c0o at h
  split at h
  ·rename_i hA
   have hA:=T.aggOk hA
   obtain⟨v,g1,g2⟩:=hc.get (j:=0) (x:=r) (by rw [<-h];exact(List.head?_eq_getElem? ..).symm)
   rw [List.getElem?_drop]at g1
   exact⟨v,g2,fun w=>by simp [Instr.field,underlying,hu,h1,asAgg,part,hA w,show cs[f.offset]?=some v from g1]⟩
  ·rename_i hA
   have hA:=T.aggOk hA
   split at h
   ·rename_i m hS
    have hS:=T.sizeOk hS
    split at h
    ·rename_i l' hl
     cases h
     obtain⟨e1,e2⟩:=b5y hl
     have h4:=ConcL.take m hc
     rw [e1]at h4
     refine⟨_,⟨_,rfl,h4⟩,fun w=> ?_⟩
     simp [Instr.field,underlying,hu,h1,asAgg,part,hA w,hS w,List.drop_take]
    ·cases h
   ·cases h
  ·cases h
 ·cases hf
theorem d5c(hE:ConcE T.rp R F env menv)(hH:RelH T.rp K R F H R)(hW:WOk ld H R F W):∀{op:Op}{r:AV T.ty},b8o T ld env H op=some r->∃v,Conc T.rp R F r v/\c2d P W menv ⟨dst,op,type,pos,after,guard⟩ v:=by
 intro op r he
 unfold b8o at he
 split at he
 ·obtain⟨u,h1,h2⟩:=a1b hE he
  exact⟨u,h2,fun w _ _ _ ha=>by simp [execOp,ha.op h1]⟩
 ·obtain⟨u,h1,h2⟩:=a1b hE he
  exact⟨u,h2,fun w _ _ _ ha=>by simp [execOp,ha.op h1]⟩
 ·split at he
  ·rename_i hc
   obtain⟨z,h3,h4⟩:=a1b hE hc
   split at he
   ·rename_i hl
    obtain⟨u,h1,h2⟩:=a1b hE he
    have h4:=b5x hl h4
    subst h4
    exact⟨u,h2,fun w _ _ _ ha=>by simp [execOp,ha.op h1,ha.op h3,asBool]⟩
   ·rename_i hl
    obtain⟨u,h1,h2⟩:=a1b hE he
    have h4:=b5x hl h4
    subst h4
    exact⟨u,h2,fun w _ _ _ ha=>by simp [execOp,ha.op h1,ha.op h3,asBool]⟩
   ·cases he
  ·cases he
 ·exact e4t (H:=H) (ld:=ld) hE (by simpa only [b8o]using he)
 ·split at he
  ·rename_i hx
   cases he
   obtain⟨u,h1,h2⟩:=a1b hE hx
   simp only [Conc]at h2
   subst h2
   exact⟨_,rfl,fun w _ _ _ ha=>by simp [execOp,ha.op h1,Op.unary]⟩
  ·rename_i hx
   cases he
   obtain⟨u,h1,h2⟩:=a1b hE hx
   simp only [Conc]at h2
   subst h2
   exact⟨_,rfl,fun w _ _ _ ha=>by simp [execOp,ha.op h1,Op.unary]⟩
  ·rename_i hx
   cases he
   obtain⟨u,h1,h2⟩:=a1b hE hx
   simp only [Conc]at h2
   rw [h2.1]at h1
   exact⟨_,rfl,fun w _ _ _ ha=>by simp [execOp,ha.op h1,Op.unary]⟩
  ·rename_i hx
   cases he
   obtain⟨u,h1,h2⟩:=a1b hE hx
   simp only [Conc]at h2
   subst h2
   exact⟨_,rfl,fun w _ _ _ ha=>by simp [execOp,ha.op h1,Op.unary,Op.intArith]⟩
  ·cases he
 ·split at he
  ·rename_i hx hs ht
   cases he
   obtain⟨u,h1,h2⟩:=a1b hE hx
   simp only [Conc]at h2
   subst h2
   exact⟨_,rfl,fun w _ _ _ ha=>by simp [execOp,ha.op h1,convert,underlying,T.undOk hs,T.undOk ht,Conv.intToInt]⟩
  ·cases he
 ·split at he
  ·rename_i hx
   obtain⟨u,h1,cs,h2,h3⟩:=a1b hE hx
   subst h2
   obtain⟨v,h4,h5⟩:=h3.get he
   exact⟨v,h5,fun w _ _ _ ha=>by simp [execOp,ha.op h1,Instr.extract,h4]⟩
  ·cases he
 ·split at he
  ·rename_i hf hx
   cases he
   obtain⟨u,h1,b,t',cs,h2,h3⟩:=a1b hE hx
   subst h3
   exact⟨_,⟨b,t',cs,h2,rfl⟩,fun w _ _ _ ha=>by simp [execOp,ha.op h1,T.fldOk hf b _ w]⟩
  ·rename_i hf hx
   cases he
   obtain⟨u,h1,b,p,cs,h2,h3,h4⟩:=a1b hE hx
   subst h4
   exact⟨_,⟨b,p,cs,h2,h3,rfl⟩,fun w _ _ _ ha=>by simp [execOp,ha.op h1,T.fldOk hf b _ w,Nat.add_assoc]⟩
  ·rename_i hf hx
   cases he
   obtain⟨u,h1,e,b,m,k,us,cs,h2,h3,h4,h5⟩:=a1b hE hx
   subst h5
   exact⟨_,⟨e,b,m,k,us,cs,h2,h3,h4,rfl⟩,fun w _ _ _ ha=>by simp [execOp,ha.op h1,T.fldOk hf b _ w,Nat.add_assoc]⟩
  ·rename_i hf hx
   cases he
   obtain⟨u,h1,b,cs,h2,h3⟩:=a1b hE hx
   subst h2
   exact⟨_,⟨b,cs,rfl,h3⟩,fun w _ _ _ ha=>by simp [execOp,ha.op h1,T.fldOk hf b _ w]⟩
  ·cases he
 ·split at he
  ·rename_i hf hx
   obtain⟨u,h1,cs,h2,h3⟩:=a1b hE hx
   subst h2
   obtain⟨v,h4,h5⟩:=d8e hf he h3
   exact⟨v,h4,fun w _ _ _ ha=>by simp [execOp,ha.op h1,h5 w]⟩
  ·cases he
 ·split at he
  ·rename_i i o hx
   split at he
   ·rename_i cs hi
    obtain⟨u,h1,b,t2,us0,h2,h3⟩:=a1b hE hx
    subst h3
    obtain⟨b2,t3,us,h4,h6,h7⟩:=e5l hi hH hW
    rw [h2]at h4;cases h4
    refine c6k he (ConcL.drop o h6) h1 fun w hs j v hj=> ?_
    rw [List.getElem?_drop]at hj
    exact d3l (h7 w hs) hj
   ·cases he
  ·rename_i c y o hx
   split at he
   ·cases he
   ·rename_i hld
    obtain⟨u,h1,b,p,cs,h2,h3,h4⟩:=a1b hE hx
    subst h4
    refine c6k he (ConcL.drop o (T.enOk R h3)) h1 fun w hs j v hj=> ?_
    rw [List.getElem?_drop]at hj
    rw [Nat.add_assoc]
    obtain⟨F',hl,hs⟩:=hW.fz (fun e=>hld e) w hs
    exact(h2.mono hl).cell hs hj
  ·rename_i i c y k o hx
   split at he
   ·rename_i hr
    obtain⟨u,h1,e,b,m,n,us,cs,h2,⟨ys,h3⟩,h4,h5⟩:=a1b hE hx
    subst h5
    refine c6k he (ConcL.drop o (T.enOk R h4)) h1 fun w hs j v hj=> ?_
    rw [List.getElem?_drop]at hj
    have h6:=World.ownsRow.cells (d7p hr hW h2 w hs) (g:=b) rfl (k*(T.rp c).k+(o+j)) v
    have h7:us[k*(T.rp c).k+(o+j)]?=some v:=by
     have:(us.drop (k*(T.rp c).k))[o+j]?=some v:=by rw [<-h3,List.getElem?_append_left (List.getElem?_eq_some_iff.1 hj).1];exact hj
     rwa [List.getElem?_drop]at this
    have h8:=h6 h7
    rw [a7u]at h8
    rw [Nat.add_assoc]
    simpa using h8
   ·cases he
  ·rename_i l o hx
   split at he
   ·cases he
   ·rename_i hld
    obtain⟨u,h1,b,cs,h2,h3,h4⟩:=a1b hE hx
    subst h2
    refine c6k he (ConcL.drop o h4) h1 fun w hs j v hj=> ?_
    rw [List.getElem?_drop]at hj
    obtain⟨F',hl,hs⟩:=hW.fz (fun e=>hld e) w hs
    have h5:=(h3.mono hl).cell hs hj
    rwa [Nat.zero_add]at h5
  ·cases he
 ·split at he
  ·rename_i hx
   cases he
   obtain⟨u,h1,b,t',cs,h2,h3⟩:=a1b hE hx
   subst h3
   exact⟨_,⟨b,t',cs,h2,rfl⟩,fun w _ _ _ ha=>by simp [execOp,ha.op h1]⟩
  ·rename_i hx
   cases he
   obtain⟨u,h1,b,p,cs,h2,h3,h4⟩:=a1b hE hx
   subst h4
   exact⟨_,⟨b,p,cs,h2,h3,rfl⟩,fun w _ _ _ ha=>by simp [execOp,ha.op h1]⟩
  ·rename_i hx
   cases he
   obtain⟨u,h1,e,b,m,k,us,cs,h2,h3,h4,h5⟩:=a1b hE hx
   subst h5
   exact⟨_,⟨e,b,m,k,us,cs,h2,h3,h4,rfl⟩,fun w _ _ _ ha=>by simp [execOp,ha.op h1]⟩
  ·rename_i hx
   cases he
   obtain⟨u,h1,b,cs,h2,h3⟩:=a1b hE hx
   subst h2
   exact⟨_,⟨b,cs,rfl,h3⟩,fun w _ _ _ ha=>by simp [execOp,ha.op h1]⟩
  ·cases he
 ·rename_i f tys caps
  split at he
  ·rename_i l ht hl
   cases he
   obtain⟨us,h1,h2⟩:=c9c hE hl
   have ht:tys= #[]:=Array.toList_eq_nil_iff.1 ht
   subst ht
   obtain⟨caps⟩:=caps
   exact⟨.func (.func f) #[] us.toArray,⟨us,rfl,h2⟩,fun w _ _ _ ha=>by simp [execOp,Instr.makeFunc,ha.opvs h1]⟩
  ·cases he
 ·split at he
  ·rename_i i c k hx
   split at he
   ·rename_i ik j el hy hu
    split at he
    ·rename_i q hS hlt
     cases he
     obtain⟨u,h1,b,t2,cs,h2,h3⟩:=a1b hE hx
     obtain⟨y',h4,h5⟩:=a1b hE hy
     simp only [Conc]at h5
     subst h3;subst h5
     have hlt:j<k:=by simpa using hlt
     refine⟨_,⟨b,t2,cs,h2,rfl⟩,fun w _ _ _ ha=> ?_⟩
     have h6:=a8n (P:=P) (w:=w) (T.undOk hu) (T.sizeOk hS) (b:=b) (o:=0) (m:=k) (c:=k) (ik:=ik) (i:=(j:Int)) (Int.natCast_nonneg j) (Int.ofNat_lt.2 hlt)
     simp only [Int.toNat_natCast,Nat.zero_add]at h6
     simp [execOp,ha.op h1,ha.op h4,h6]
    ·cases he
   ·cases he
  ·cases he
 ·rename_i args ts
  split at he
  ·rename_i x t ea et
   obtain⟨args⟩:=args
   obtain⟨ts⟩:=ts
   simp only at ea et
   subst ea;subst et
   split at he
   ·rename_i l hx hu
    cases he
    obtain⟨u,h1,h2⟩:=a1b hE hx
    simp only [Conc]at h2
    subst h2
    refine⟨_,rfl,fun w _ _ _ ha=> ?_⟩
    have:=d1t (P:=P) (ty:=type) (w:=w) (T.undOk hu) l
    simp [execOp,resolve,invoke,builtin,ha.op h1,this]
   ·rename_i c xs e hx hu
    cases he
    obtain⟨u,h1,a',m,n,h2,h3⟩:=a1b hE hx
    subst h2
    refine⟨_,rfl,fun w _ _ _ ha=> ?_⟩
    simp [execOp,resolve,invoke,builtin,ha.op h1,Builtin.len_,underlying,T.undOk hu,goInt,h3.len]
   ·rename_i i e hx hu
    split at he
    ·rename_i kk hi
     cases he
     obtain⟨u,h1,e2,q2,a',m,n,us,h2,h3⟩:=a1b hE hx
     subst h3
     obtain rfl:=d5z hi hH h2
     refine⟨_,rfl,fun w _ _ _ ha=> ?_⟩
     simp [execOp,resolve,invoke,builtin,ha.op h1,Builtin.len_,underlying,T.undOk hu,goInt]
    ·cases he
   ·rename_i e hx hu
    cases he
    obtain⟨u,h1,h2⟩:=a1b hE hx
    simp only [Conc]at h2
    subst h2
    refine⟨_,rfl,fun w _ _ _ ha=> ?_⟩
    simp [execOp,resolve,invoke,builtin,ha.op h1,Builtin.len_,underlying,T.undOk hu,goInt]
   ·rename_i i c k e hx hu
    cases he
    obtain⟨u,h1,b,t2,cs,h2,h3⟩:=a1b hE hx
    subst h3
    refine⟨_,rfl,fun w _ _ _ ha=> ?_⟩
    simp [execOp,resolve,invoke,builtin,ha.op h1,Builtin.len_,underlying,T.undOk hu,goInt]
   ·cases he
  ·cases he
 ·rename_i args ts
  split at he
  ·rename_i x y ea
   obtain⟨args⟩:=args
   simp only at ea
   subst ea
   split at he
   ·rename_i k p k' q hx hy
    obtain⟨u,h1,h2⟩:=a1b hE hx
    obtain⟨z,h3,h4⟩:=a1b hE hy
    simp only [Conc]at h2 h4
    subst h2;subst h4
    split at he
    ·rename_i hk
     have hk:=of_decide_eq_true hk
     subst hk
     cases he
     exact⟨_,rfl,fun w _ _ _ ha=>by simp [execOp,resolve,invoke,builtin,ha.op h1,ha.op h3,Builtin.min_,Builtin.min2,imin]⟩
    ·cases he
   ·cases he
  ·cases he
 ·rename_i args ts
  split at he
  ·rename_i x y ea
   obtain⟨args⟩:=args
   simp only at ea
   subst ea
   split at he
   ·rename_i k p k' q hx hy
    obtain⟨u,h1,h2⟩:=a1b hE hx
    obtain⟨z,h3,h4⟩:=a1b hE hy
    simp only [Conc]at h2 h4
    subst h2;subst h4
    split at he
    ·rename_i hk
     have hk:=of_decide_eq_true hk
     subst hk
     cases he
     exact⟨_,rfl,fun w _ _ _ ha=>by simp [execOp,resolve,invoke,builtin,ha.op h1,ha.op h3,Builtin.max_,Builtin.max2,imax]⟩
    ·cases he
   ·cases he
  ·cases he
 ·cases he
theorem c4q(hE:ConcE T.rp R F env menv)(hH:RelH T.rp K R F H R)(hW:WOk ld H R F W){o:Oper}{r:AV T.ty}(h:b8o T ld env H o.op=some r):∃v,Conc T.rp R F r v/\c2d P W menv o v:=
 d5c (dst:=o.dst) (type:=o.type) (pos:=o.pos) (after:=o.after) (guard:=o.guard) hE hH hW h
end
end Go.Proofs.YthaegflpecbfgaaGreatDoor.Rt
namespace Go.Proofs.YthaegflpecbfgaaGreatDoor.Rt
open Go Go.RowKit
set_option linter.unusedVariables false
set_option linter.unusedSimpArgs false
def setA{α:Type}:Nat->List α->List α->Option (List α)
 |0,[],cs=>some cs
 |0,v::l,_::cs=>match setA 0 l cs with
  |some r=>some (v::r)
  |none=>none
 |o+1,l,c::cs=>match setA o l cs with
  |some r=>some (c::r)
  |none=>none
 |_,_,[]=>none
theorem c3c{α:Type}:∀{o:Nat}{l cs r:List α},setA o l cs=some r->o+l.length<=cs.length/\r=cs.take o++l++cs.drop (o+l.length)
 |0,[],cs,r,h=>by simp only [setA,Option.some.injEq]at h;subst h;simp
 |0,v::l,[],r,h=>by simp [setA]at h
 |0,v::l,c::cs,r,h=>by
  simp only [setA]at h
  split at h
  ·rename_i r' h'
   cases h
   obtain⟨h1,h2⟩:=c3c h'
   subst h2
   simp only [List.length_cons,Nat.zero_add]at h1⊢
   exact⟨by omega,by simp⟩
  ·cases h
 |o+1,l,[],r,h=>by cases l<;>simp [setA]at h
 |o+1,l,c::cs,r,h=>by
  cases hl:setA o l cs with
  |none=>cases l<;>simp [setA,hl]at h
  |some r'=>
   have h:r=c::r':=by cases l<;>simpa [setA,hl,eq_comm]using h
   obtain⟨h1,h2⟩:=c3c hl
   subst h;subst h2
   refine⟨by simp only [List.length_cons];omega,?_⟩
   rw [show o+1+l.length=(o+l.length)+1 by omega]
   simp
def putA{α:Type}:Nat->α->List α->Option (List α)
 |0,v,_::l=>some (v::l)
 |i+1,v,x::l=>match putA i v l with
  |some r=>some (x::r)
  |none=>none
 |_,_,[]=>none
theorem b7d{α:Type}:∀{i:Nat}{v:α}{l r:List α},putA i v l=some r->r=l.set i v
 |0,v,[],r,h=>by simp [putA]at h
 |0,v,x::l,r,h=>by simp only [putA,Option.some.injEq]at h;subst h;rfl
 |i+1,v,[],r,h=>by simp [putA]at h
 |i+1,v,x::l,r,h=>by
  simp only [putA]at h
  split at h
  ·rename_i r' h'
   cases h
   rw [b7d h'];rfl
  ·cases h
def snoc{α:Type}(v:α):List α->List α
 | []=> [v]
 |x::l=>x::snoc v l
theorem b4g{α:Type}(v:α):∀l:List α,snoc v l=l++ [v]
 | []=>rfl
 |x::l=>by rw [snoc,b4g v l];rfl
def oneA{ty:Nat->Type}:AV ty->Bool
 | .agg _=>false
 | .tup _=>false
 | .any=>false
 | .val u=>u.oneCell'
 |_=>true
def d1n{ty:Nat->Type}:List (AV ty)->Bool
 | []=>true
 |x::l=>match oneA x with
  |true=>d1n l
  |false=>false
def c4u{ty:Nat->Type}:AV ty->Option (List (AV ty))
 | .agg l=>match d1n l with
   |true=>some l
   |false=>none
 |x=>match oneA x with
  |true=>some [x]
  |false=>none
theorem d3r{ty:Nat->Type}{rp:∀c,Rp (ty c)}{R:List OE}{F:Frz}{x:AV ty}{v:Value}(h:oneA x=true)(hc:Conc rp R F x v):v.oneCell'=true/\v.cells= #[v]:=by
 cases x<;>simp only [oneA,reduceCtorEq]at h<;>simp only [Conc]at hc
 case int=>subst hc;exact⟨rfl,rfl⟩
 case bool=>subst hc;exact⟨rfl,rfl⟩
 case ob=>subst hc;exact⟨rfl,rfl⟩
 case lb=>rw [hc.1];exact⟨rfl,rfl⟩
 case str=>subst hc;exact⟨rfl,rfl⟩
 case val u=>subst hc;exact⟨h,by cases v<;>first|rfl|cases h⟩
 case sl=>obtain⟨a,m,n,rfl,_⟩:=hc;exact⟨rfl,rfl⟩
 case bx=>obtain⟨b,t,cs,_,rfl⟩:=hc;exact⟨rfl,rfl⟩
 case el=>obtain⟨b,p,cs,_,_,rfl⟩:=hc;exact⟨rfl,rfl⟩
 case row=>obtain⟨e,q,a,m,n,xs,_,rfl⟩:=hc;exact⟨rfl,rfl⟩
 case rel=>obtain⟨e,b,m,n,us,cs,_,_,_,rfl⟩:=hc;exact⟨rfl,rfl⟩
 case clo=>obtain⟨cs,rfl,_⟩:=hc;exact⟨rfl,rfl⟩
 case fb=>obtain⟨b,cs,rfl,_⟩:=hc;exact⟨rfl,rfl⟩
 case sb=>obtain⟨b,t,cs,_,rfl⟩:=hc;exact⟨rfl,rfl⟩
 case rw=>obtain⟨e,q,b,m,n,xs,_,_,_,_,rfl⟩:=hc;exact⟨rfl,rfl⟩
theorem c8v{ty:Nat->Type}{rp:∀c,Rp (ty c)}{R:List OE}{F:Frz}:∀{l:List (AV ty)}{cs:List Value},d1n l=true->ConcL rp R F l cs->∀u∈cs,u.oneCell'=true
 | [],_,_,h=>by simp only [ConcL]at h;subst h;simp
 |x::l,_,h,⟨v,k,h1,h2,h3⟩=>by
  subst h1
  simp only [d1n]at h
  split at h
  ·rename_i hx
   intro u hu
   rcases List.mem_cons.1 hu with rfl|hu
   ·exact(d3r hx h2).1
   ·exact c8v h h3 u hu
  ·cases h
theorem b8y{ty:Nat->Type}{rp:∀c,Rp (ty c)}{R:List OE}{F:Frz}{x:AV ty}{l:List (AV ty)}{v:Value}(h:c4u x=some l)(hc:Conc rp R F x v):ConcL rp R F l v.cells.toList/\∀u∈v.cells.toList,u.oneCell'=true:=by
 unfold c4u at h
 split at h
 ·split at h
  ·rename_i ha
   cases h
   obtain⟨cs,rfl,h2⟩:=hc
   exact⟨by simpa [Value.cells]using h2,by simpa [Value.cells]using c8v ha h2⟩
  ·cases h
 ·split at h
  ·rename_i ha
   cases h
   obtain⟨h1,h2⟩:=d3r ha hc
   rw [h2]
   exact⟨⟨v,[],rfl,hc,rfl⟩,by simpa using h1⟩
  ·cases h
theorem fold_set:∀(l:List Value)(k off:Nat)(cells:Array Value),off+k+l.length<=cells.size->
 ((l.zipIdx k).foldl (fun cs(p:Value×Nat)=>cs.setIfInBounds (off+p.2) p.1) cells).toList=cells.toList.take (off+k)++l++cells.toList.drop (off+k+l.length)
 | [],k,off,cells,_=>by simp
 |v::l,k,off,cells,h=>by
  simp only [List.length_cons]at h
  rw [List.zipIdx_cons,List.foldl_cons,fold_set l (k+1) off _ (by simp only [Array.size_setIfInBounds];omega)]
  have hlt:off+k<cells.toList.length:=by simp only [Array.length_toList];omega
  simp only [Array.toList_setIfInBounds]
  rw [show off+(k+1)=off+k+1 by omega,List.take_add_one,List.take_set_of_le (Nat.le_refl _),List.getElem?_set_self hlt,List.drop_set_of_lt (by omega)]
  simp only [Option.toList,List.append_assoc,List.length_cons]
  rw [show off+k+1+l.length=off+k+(l.length+1) by omega]
  rfl
theorem d9i{place:Nat->Option (Nat×Nat)}{cells:Array Value}{i off:Nat}{v:Value}{rest:List (Nat×Value)}(hp:place i=some (off,v.cells.size))(hs:off+v.cells.size<=cells.size):
 Instr.fill place cells ((i,v)::rest)=Instr.fill place (cells.toList.take off++v.cells.toList++cells.toList.drop (off+v.cells.size)).toArray rest:=by
 have h:=fold_set v.cells.toList 0 off cells (by simpa using hs)
 rw [Instr.fill]
 simp only [hp]
 rw [if_neg (by simp;omega)]
 congr 1
 apply Array.ext'
 rw [<-Array.foldl_toList,Array.toList_zipIdx]
 simpa using h
section
variable{P:Program}(T:Tbl P)
def bldA(pl:Nat->Option (Nat×Nat))(e:AE T.ty):List (Nat×Operand)->List (AV T.ty)->Option (List (AV T.ty))
 | [],cs=>some cs
 |p::r,cs=>match pl p.1,opA e p.2 with
  |some (off,sz),some y=>match c4u y with
   |some l=>match Nat.beq l.length sz,setA off l cs with
    |true,some cs'=>bldA pl e r cs'
    |_,_=>none
   |none=>none
  |_,_=>none
def anys{ty:Nat->Type}:Nat->List (AV ty)
 |0=> []
 |k+1=> .any::anys k
def decL(c q:Nat):Nat->List (AV T.ty)->Option (List (T.ty c))
 |0,[]=>some []
 |0,_::_=>none
 |m+1,cs=>match c7k q cs with
  |some l=>match T.dec c l with
   |some x=>match decL c q m (cs.drop q)with
    |some r=>some (x::r)
    |none=>none
   |none=>none
  |none=>none
end
section
variable{P:Program}{T:Tbl P}{R:List OE}{F:Frz}{e:AE T.ty}{m:Env}
theorem c1x(hE:ConcE T.rp R F e m){pl:Nat->Option (Nat×Nat)}:∀{ps:List (Nat×Operand)}{cs cs':List (AV T.ty)}{us:List Value},bldA T pl e ps cs=some cs'->ConcL T.rp R F cs us->
 ∃vl us',opvp m ps=some vl/\ConcL T.rp R F cs' us'/\Instr.fill pl us.toArray vl=some us'.toArray/\us'.length=us.length
 | [],cs,cs',us,h,hc=>by simp only [bldA,Option.some.injEq]at h;subst h;exact⟨[],us,rfl,hc,rfl,rfl⟩
 |p::r,cs,cs',us,h,hc=>by
  simp only [bldA]at h
  split at h
  ·rename_i off sz y hp hy
   split at h
   ·rename_i l hl
    split at h
    ·rename_i cs2 hsz hset
     obtain⟨u,h1,h2⟩:=a1b hE hy
     obtain⟨c1,c2⟩:=b8y hl h2
     obtain⟨s1,s2⟩:=c3c hset
     have hsz:=Nat.eq_of_beq_eq_true hsz
     have c3:=c1.len
     have c4:=hc.len
     have hu:u.cells.size=sz:=by rw [<-hsz,<-c3];simp
     have h3:ConcL T.rp R F cs2 (us.take off++u.cells.toList++us.drop (off+u.cells.size)):=by
      rw [s2,hu,<-hsz]
      exact((hc.take off).app c1).app (hc.drop _)
     obtain⟨vl,us',g1,g2,g3,g4⟩:=c1x hE h h3
     refine⟨(p.1,u)::vl,us',by simp [opvp,h1,g1],g2,?_,?_⟩
     ·rw [d9i (by rw [hp,hu]) (by rw [hu,<-hsz];simp only [List.size_toArray];omega)]
      exact g3
     ·rw [g4]
      simp only [List.length_append,List.length_take,List.length_drop,Array.length_toList]
      rw [hu,<-hsz];omega
    ·cases h
   ·cases h
  ·cases h
theorem anys_ok:∀{us:List Value},ConcL T.rp R F (anys us.length) us
 | []=>rfl
 |v::us=>⟨v,us,rfl,trivial,anys_ok⟩
theorem c9h{c q:Nat}:∀{k:Nat}{cs:List (AV T.ty)}{xs:List (T.ty c)}{us:List Value},decL T c q k cs=some xs->ConcL T.rp R F cs us->RowN (T.rp c) F k us xs/\us.length=k*q
 |0,[],xs,us,h,hc=>by
  simp only [decL,Option.some.injEq]at h;subst h
  simp only [ConcL]at hc;subst hc
  exact⟨⟨rfl,rfl⟩,by simp⟩
 |0,_::_,xs,us,h,hc=>by simp [decL]at h
 |k+1,cs,xs,us,h,hc=>by
  simp only [decL]at h
  split at h
  ·rename_i l hl
   split at h
   ·rename_i x hx
    split at h
    ·rename_i r hr
     cases h
     obtain⟨t1,t2⟩:=b5y hl
     have h1:=hc.take q
     rw [t1]at h1
     have h2:=T.decOk hx h1
     obtain⟨⟨g1,g2⟩,g3⟩:=c9h hr (hc.drop q)
     have h3:(us.take q).length=q:=by rw [h1.len,t2]
     refine⟨⟨by simp [g1],us.take q,us.drop q,(List.take_append_drop _ _).symm,h2,g2⟩,?_⟩
     have:=congrArg List.length (List.take_append_drop q us)
     rw [List.length_append,h3,g3]at this
     rw [Nat.add_mul];omega
    ·cases h
   ·cases h
  ·cases h
theorem d3a{fs:List Field}{ps:List (Nat×Nat)}(h1:fs.map (·.offset)=ps.map (·.1))(h2:∀(i:Nat)f p,fs[i]?=some f->ps[i]?=some p->SizeIs P f.type p.2)(w:World):
 (List.mapM (m:=Go.Sem) (fun f:Field=>Functor.map (Prod.mk f.offset) (sizeOf f.type)) fs).run P w= .ok ps w:=by
 induction fs generalizing ps with
 |nil=>cases ps with
  |nil=>simp
  |cons p ps=>simp at h1
 |cons f fs ih=>cases ps with
  |nil=>simp at h1
  |cons p ps=>
   simp only [List.map_cons,List.cons.injEq]at h1
   have h3:=h2 0 f p rfl rfl w
   have h4:=ih h1.2 (fun i f p hf hp=>h2 (i+1) f p (by simpa using hf) (by simpa using hp))
   obtain⟨p1,p2⟩:=p
   simp only at h1 h3
   rw [List.mapM_cons]
   simp [h3,h4,h1.1]
theorem c8e{t:TypeId}{z:Value}{ps:List (Nat×Nat)}{vl:List (Nat×Value)}{us:List Value}(hz:b6q P t z)(hb:T.bld t=some ps)(hf:Instr.fill (fun i=>ps[i]?) z.cells vl=some us.toArray)(w:World):
 (Instr.build t vl.toArray).run P w= .ok (.agg us.toArray) w:=by
 obtain⟨fs,h1,h2,h3⟩:=T.bldOk hb
 have h4:=d3a h2 h3 w
 unfold Instr.build
 simp [hz w,underlying,h1,Array.mapM_eq_mapM_toList,h4,hf]
def zws(z:Value)(k:Nat):List Value:=if k=0 then []else((Array.range k).map (z.cells[· %z.cells.size]!)).toList
theorem d6f(z:Value)(k:Nat):(zws z k).length=k:=by
 unfold zws
 split
 ·rename_i h;simp [h]
 ·simp
theorem b6t{t el:TypeId}{k q:Nat}{z:Value}{vl:List (Nat×Value)}{us:List Value}(hu:P.underlying t=some (.slice el))(hS:SizeIs P el q)(hz:b6q P el z)(hk:k*q<=16777216)
 (hf:Instr.fill (fun i=>some (i*q,q)) (zws z (k*q)).toArray vl=some us.toArray) (w:World):
 (Instr.buildSlice t k vl.toArray).run P w= .ok (.slice (some ⟨w.heap.size,0,none⟩) k k) (w.alloc (.cells us.toArray el)):=by
 unfold Instr.buildSlice
 have hk':¬(2^24<k*q):=by omega
 unfold zws at hf
 by_cases h0:k*q=0
 ·rw [if_pos h0]at hf
  have e:Array.map (fun _=>(default:Value)) (Array.range 0)= #[]:=by simp
  simp [underlying,hu,hS w,h0,newRow,e,hf]
 ·rw [if_neg h0,Array.toArray_toList]at hf
  simp [underlying,hu,hS w,h0,hk',hz w,newRow,hf]
end
end Go.Proofs.YthaegflpecbfgaaGreatDoor.Rt
