/- Several texts in one, for FormPairs.card: what the theorem leans on. -/
import Derived.Laws.CopyRow
import Derived.Shelf.Spec.SlicesGrow
import Derived.Test.YthaegflpecbfgaaGreatDoorPy4
set_option maxHeartbeats 1000000
set_option maxRecDepth 1000000
namespace Go.Proofs.YthaegflpecbfgaaGreatDoor.M
open Go Go.RowKit Rt
set_option maxRecDepth 1000000
set_option maxHeartbeats 40000000
theorem c2n(n:Nat)(ax1:(List Int))(b1:(List Int))(r:Int)(hm:a6m n ax1 b1=some r){w:World}{F:Frz}(hs:Sat F w)(hg0:FX F 0 [.int .u8 40,.int .u8 41,.int .u8 44,.int .u8 59,.int .u8 58,.int .u8 61,.int .u8 60,.int .u8 43,.int .u8 45,.int .u8 42,.int .u8 47,.int .u8 123,.int .u8 125]){as1:Option Addr}{ns1:Nat}{cs1:Nat}{as2:Option Addr}{ns2:Nat}{cs2:Nat}(hs1:SlR (Rp.int .i64) F as1 ns1 cs1 ax1)(hs2:SlR (Rp.int .i64) F as2 ns2 cs2 b1):
 Calls Tryz.prog 169 #[.slice as1 ns1 cs1,.slice as2 ns2 cs2] w fun e w'=>∃v F' O',e= .returned v/\HS F w [] F' O' w'/\(v= .int .i64 r/\O'= []):=
 (b3q n ax1 b1).2 r hm w F hs hg0 _ ⟨_,_,rfl,⟨_,_,_,rfl,hs1⟩,⟨_,_,rfl,⟨_,_,_,rfl,hs2⟩,rfl⟩⟩|>.mono fun e w'⟨v,F',e1,e2,e3⟩=>by
  obtain rfl:=e3
  exact⟨_,F',[],e1,e2,⟨rfl,rfl⟩⟩
theorem d0d(n:Nat)(ax1:(List Int))(b1:(List Int))(r:((List Int)×(List Int)))(hm:b4l n ax1 b1=some r){w:World}{F:Frz}(hs:Sat F w)(hg0:FX F 0 [.int .u8 40,.int .u8 41,.int .u8 44,.int .u8 59,.int .u8 58,.int .u8 61,.int .u8 60,.int .u8 43,.int .u8 45,.int .u8 42,.int .u8 47,.int .u8 123,.int .u8 125]){gp gq:Option Addr}{gr g4 gs g5:Nat}(gc:SlR (Rp.int .i64) F gp gr g4 ax1)(g6:SlR (Rp.int .i64) F gq gs g5 b1):
 Calls Tryz.prog 162 #[.slice gp gr g4,.slice gq gs g5] w fun e w'=>∃v F' O',e= .returned v/\HS F w [] F' O' w'/\(∃(a0_0:Option Addr)(n0_0:Nat)(c0_0:Nat)(a1_0:Option Addr)(n1_0:Nat)(c1_0:Nat)(xs1_0:List Value),v= .tuple #[.slice a0_0 n0_0 c0_0,.slice a1_0 n1_0 c1_0]/\O'= [.row 3 1 a1_0 n1_0 c1_0 xs1_0]/\SlR (Rp.int .i64) F' a0_0 n0_0 c0_0 r.1/\RowN (Rp.int .i64) F' n1_0 xs1_0 r.2):=by
 unfold b4l at hm
 have h:=HS.init hs
 refine a2a 170 Tryz.func162 Y Y Y (a0f (a0a (a0c Y Y Y (a0c Y Y Y (a0e (a0d (a0f (a0f (a0a (a0b Y Y Y (a0b Y Y Y ?_)))))))))))
 obtain⟨v1,k3,hm⟩:=Yb hm
 refine a1x ent169 Y Y Y Y h (c2n _ _ _ _ k3 h.sat (hg0.mono h.le) gc g6) ?_
 rintro _ k4 _ i7 g7 R ⟨rfl,rfl⟩
 refine a0p Y Y Y Y Y (a0e (a0d ?_))
 rcases a0g hm with⟨gx,hm⟩|⟨gx,hm⟩
 refine a0w 22 Y gx (a1o Y (a0f (a0a (a0b Y Y Y ?_))))
 obtain⟨v2,k5,hm⟩:=Yb hm
 refine a1x ent110 Y Y Y Y R (a9b _ _ _ k5 R.sat (gc.mono g7)) ?_
 rintro _ mp _ mq mr k6 ⟨i8,i9,gt,xss3,rfl,rfl,k7⟩
 refine a0c Y Y Y (a0c Y Y Y (a0e (a0d (a3b (a0l (a6j (vl:= [.slice none 0 0,.slice i8 i9 gt]) Y ⟨a3w Y,a3w Y,trivial⟩ (by simp) ?_))))))
 obtain rfl:=Yo hm
 exact⟨_,_,_,Y,k6.Yp [0] Y Y,none,0,0,i8,i9,gt,xss3,Y,Y,SlR.nil _ _,k7⟩
 refine a0w 22 Y gx (a0t Y (a2b (a0d (a0f (a0f (a0a (a0b Y Y Y (a6c g6.len u28 Y Y Y (a0p Y Y Y Y Y (a0e (a0d ?_)))))))))))
 rcases a0g hm with⟨gy,hm⟩|⟨gy,hm⟩
 refine a0w 27 Y gy (a1o Y (a0f (a0a (a0b Y Y Y (a0b Y Y Y ?_)))))
 obtain⟨ex1,k8,hm⟩:=Yb hm
 refine a9o (r:=(Rp.int .i64)) u28 sz3 Y Y Y Y (g6.mono g7) k8 ?_
 intro b2 o1 g4 k9 ka
 have kb:g4= [.int .i64 ex1]:=ka
 subst kb
 refine a6o (j:=0) ag3 Y Y R k9 Y Y ?_
 obtain⟨v3,kc,hm⟩:=Yb hm
 refine a1x ent206 Y Y Y Y R (c0n _ _ _ _ kc R.sat (gc.mono g7)) ?_
 rintro _ ia _ ms mt kd ⟨ib,ic,gu,xss4,rfl,rfl,ke⟩
 refine a0b Y Y Y (a1d Y Y Y Y (a1d Y Y Y Y (a0c Y Y Y (a0c Y Y Y (a0e (a0d (a0f (a0a (a0b Y Y Y (a0b Y Y Y (a0i (e:=3) (cs:= [.int .i64 v3.2]) (q:=1) Y Y kd Y (fun _=>by kernel_rfl) Y Y ?_)))))))))))
 intro b3 mu ie
 obtain⟨v4,kf,hm⟩:=Yb hm
 refine c2j ent191 Y Y Y Y (b1n _ _ _ kf (b8f _) (ie.viewRow (p:=0) Y Y ((show RowN (Rp.int .i64) ia 1 [.int .i64 v3.2] [v3.2]from⟨Y,⟨_,_,Y,Y,(Y:RowR (Rp.int .i64) _ [] [])⟩⟩)))) ?_
 intro gz hles5 hvs5
 obtain⟨kg,ig⟩:=ie.cutN (p:=0) Y ((show RowN (Rp.int .i64) ia 1 [.int .i64 v3.2] [v3.2]from⟨Y,⟨_,_,Y,Y,(Y:RowR (Rp.int .i64) _ [] [])⟩⟩)) hles5
 rw [<-hvs5]at ig
 refine a0c Y Y Y (a0c Y Y Y (a0e (a0d (a3b (a0l ?_)))))
 obtain⟨mv,kh,ki,hsx1⟩:=a1r kg (i:=1) Y ke
 refine a6j (vl:= [.slice ib ic gu,.slice (some ⟨b3,0,none⟩) gz 1]) Y ⟨a3w Y,a3w Y,trivial⟩ (by simp) ?_
 obtain rfl:=Yo hm
 exact⟨_,_,_,Y,ki.Yp [0] Y Y,ib,ic,gu,(some ⟨b3,0,none⟩),gz,1,([.int .i64 v3.2].take (gz*((Rp.int .i64)).k)),Y,Y,hsx1,(ig.mono kh)⟩
 refine a0w 27 Y gy (a0t Y (a2b (a0d (a0f (a0a (a0c Y Y Y (a0e (a0d (a0f (a2g ?_))))))))))
 intro a ht
 obtain⟨kont3,hkont3⟩:∃kont3:Int->Option ((List Int)×(List Int)),kont3=(fun(shift2:Int)=>(b0q n ax1 [shift2]).bind fun v5=>(app 8 v5 [0]).bind fun l1=>(b0q n b1 [shift2]).bind fun v6=>(bif(l1.length:Int)==(ax1.length:Int)then(app 8 l1 [0]).bind fun l10=>some l10 else some l1).bind fun l2=>(mks 8 0 (isub .i64 (l2.length:Int) (v6.length:Int))).bind fun l3=>big_div_L2 n v6 (fun(l6:List Int)(l7:List Int)=>(a2u n l7).bind fun v7=>(a8k n v7 shift2).bind fun v8=>(a2u n l6).bind fun v9=>some (v9,v8.1)) n (isub .i64 (l3.length:Int) 1) l3 l2):=⟨_,Y⟩
 replace hm:(fun m(s:Int)=>big_div_L1 n b1 kont3 m s) n 1=some r:=by rw [hkont3];exact hm
 refine b5o (id:=0) (fun m(s:Int)=>big_div_L1 n b1 kont3 m s) (fun(y:Int)=>kont3 y) r (fun(s:Int)a w'=>i7=w'/\Has 170 a [(0,.slice gp gr g4),(1,.slice gq gs g5),(8,.int .i64 s)]) (fun(y:Int)a w'=>i7=w'/\Has 170 a [(0,.slice gp gr g4),(1,.slice gq gs g5),(8,.int .i64 y)]) (fun _=>Y) ?_ ?_ hm ⟨Y,ht.cut (l:= [0,1,8]) Y⟩
 clear hm;rintro shift2 a mw hm ⟨rfl,iw⟩
 rw [hkont3]at hm
 replace hm:=hm
 refine a5p (e:= .exit 0) iw (a2r (a0d (a0f (a0a (a0b Y Y Y (a0b Y Y Y (a0i (e:=3) (cs:= [.int .i64 shift2]) (q:=1) Y Y R Y (fun _=>by kernel_rfl) Y Y ?_)))))))
 intro b4 mx kj
 obtain⟨my,ih,ii,hsx2⟩:=a1r kj (i:=0) Y ((show RowN (Rp.int .i64) k4 1 [.int .i64 shift2] [shift2]from⟨Y,⟨_,_,Y,Y,(Y:RowR (Rp.int .i64) _ [] [])⟩⟩))
 obtain⟨v5,kk,hm⟩:=Yb hm
 refine a1x ent207 Y Y Y Y ii (c5d _ _ _ _ kk ii.sat ((gc.mono g7).mono ih) hsx2) ?_
 rintro _ ij _ mz kl km ⟨o0,ik,il,xss6,rfl,rfl,kn⟩
 refine a0i (e:=3) (cs:= [.int .i64 0]) (q:=1) Y Y km Y (fun _=>by kernel_rfl) Y Y ?_
 intro b5 oa iy
 obtain⟨l1,ko,hm⟩:=Yb hm
 refine a6u (r:=(Rp.int .i64)) ap28 Y Y iy Y Y (i:=1) (j:=0) Y Y kn ((show RowN (Rp.int .i64) ij 1 [.int .i64 0] [0]from⟨Y,⟨_,_,Y,Y,(Y:RowR (Rp.int .i64) _ [] [])⟩⟩)) ko ?_
 intro kp h0 ob iz h1
 refine a0b Y Y Y (a0b Y Y Y (a0i (e:=3) (cs:= [.int .i64 shift2]) (q:=1) Y Y iz Y (fun _=>by kernel_rfl) Y Y ?_))
 intro b6 lx j0
 obtain⟨oc,h2,h3,hsx3⟩:=a1r j0 (i:=0) Y ((show RowN (Rp.int .i64) ij 1 [.int .i64 shift2] [shift2]from⟨Y,⟨_,_,Y,Y,(Y:RowR (Rp.int .i64) _ [] [])⟩⟩))
 have kq:=((g7.trans ih).trans kl).trans h2
 obtain⟨v6,kr,hm⟩:=Yb hm
 refine a1x ent207 Y Y Y Y h3 (c5d _ _ _ _ kr h3.sat (g6.mono kq) hsx3) ?_
 rintro _ im _ ly io h4 ⟨T,U,L,xss8,rfl,rfl,ip⟩
 refine a0c Y Y Y (a0c Y Y Y (a0e (a0d (a0f (a0f (a0a (a0b Y Y Y (a6c h1.len u28 Y Y Y (a0b Y Y Y (a6c gc.len u28 Y Y Y (a0p Y Y Y Y Y (a0e (a0d ?_)))))))))))))
 obtain⟨l2,V,hm⟩:=Yb hm
 refine b5t (fun a w'=>∃(gv:Frz)(gw:Option Addr)(gd:Nat)(g8:Nat)(xss9:List Value),Frz.le im gv/\HS F w [] gv [.row 3 1 T U L xss8,.row 3 1 (some ⟨b5,0,none⟩) 1 1 [.int .i64 0],.row 3 1 gw gd g8 xss9] w'/\(RowN (Rp.int .i64) gv gd xss9 l2)/\Has 170 a [(8,.int .i64 shift2),(9,.slice gw gd g8),(10,.slice T U L)]) ?_ ?_
 rintro a lz ⟨gv,gw,gd,g8,xss9,ks,j1,iq,j2⟩
 refine a2e j2 (a0f (a0a (a0b Y Y Y (a6c ip.len u28 Y Y Y (a0c Y Y Y (a0e (a0d (a0f (a0a (a0b Y Y Y (a6c iq.len u28 Y Y Y (a0b Y Y Y (a0p Y Y Y Y Y ?_)))))))))))))
 obtain⟨l3,kt,hm⟩:=Yb hm
 refine d2w (r:=(Rp.int .i64)) ap28 zi3 (fun _=>Y) Y Y Y j1 Y Y kt ?_
 intro b7 m0 xs1 j3 ir
 refine a0c Y Y Y (a0e (a0d (a0f (a0f (a0a (a0b Y Y Y (a6c ir.len u28 Y Y Y (a0p Y Y Y Y Y (a0c Y Y Y (a0e (a0d (a2g ?_))))))))))))
 obtain⟨h5,h6,j4,hsx4⟩:=a1r j3 (i:=1) Y (ip.mono ks)
 intro a hu
 obtain⟨kont1,hkont1⟩:∃kont1:(List Int)->(List Int)->Option ((List Int)×(List Int)),kont1=(fun(l6:List Int)(l7:List Int)=>(a2u n l7).bind fun v7=>(a8k n v7 shift2).bind fun v8=>(a2u n l6).bind fun v9=>some (v9,v8.1)):=⟨_,Y⟩
 replace hm:(fun m(s:Int×List Int×List Int)=>big_div_L2 n v6 kont1 m s.1 s.2.1 s.2.2) n ((isub .i64 (l3.length:Int) 1),l3,l2)=some r:=by rw [hkont1];exact hm
 refine b5o (id:=2) (fun m(s:Int×List Int×List Int)=>big_div_L2 n v6 kont1 m s.1 s.2.1 s.2.2) (fun(y:List Int×List Int)=>kont1 y.1 y.2) r (fun(s:Int×List Int×List Int)a w'=>∃(Z:Frz)(u:Option Addr)(o:Nat)(g:Nat)(xss10:List Value)(x:Option Addr)(t:Nat)(z:Nat)(xss11:List Value),Frz.le h5 Z/\HS F w [] Z [.row 3 1 u o g xss10,.row 3 1 x t z xss11] w'/\(RowN (Rp.int .i64) Z o xss10 s.2.1)/\(RowN (Rp.int .i64) Z t xss11 s.2.2)/\Has 170 a [(8,.int .i64 shift2),(9,.slice x t z),(10,.slice T U L),(11,.int .i64 (v6.length:Int)),(12,.slice u o g),(13,.int .i64 s.1)]) (fun(y:List Int×List Int)a w'=>∃(g0:Frz)(g1:Option Addr)(g9:Nat)(g2:Nat)(xss12:List Value)(ge:Option Addr)(ga:Nat)(gf:Nat)(xss13:List Value),Frz.le h5 g0/\HS F w [] g0 [.row 3 1 g1 g9 g2 xss12,.row 3 1 ge ga gf xss13] w'/\(RowN (Rp.int .i64) g0 g9 xss12 y.1)/\(RowN (Rp.int .i64) g0 ga xss13 y.2)/\Has 170 a [(8,.int .i64 shift2),(9,.slice ge ga gf),(12,.slice g1 g9 g2)]) (fun _=>Y) ?_ ?_ hm ⟨_,(some ⟨b7,0,none⟩),((isub .i64 (l2.length:Int) (v6.length:Int)).toNat),((isub .i64 (l2.length:Int) (v6.length:Int)).toNat),xs1,gw,gd,g8,xss9,Yf,j4.Yp [0,2] Y Y,(ir.mono h6),(iq.mono h6),hu.cut (l:= [8,9,10,11,12,13]) Y⟩
 clear hm;rintro⟨l6,l7⟩ a m1 hm ⟨g0,g1,g9,g2,xss12,ge,ga,gf,xss13,m2,h7,h8,h9,j5⟩
 rw [hkont1]at hm
 replace hm:=hm
 refine a5p (e:= .exit 2) j5 (a2r (a0d (a0f (a0a (a0b Y Y Y ?_)))))
 obtain⟨v7,ku,hm⟩:=Yb hm
 refine c2j ent191 Y Y Y Y (b1n _ _ _ ku (b8f _) (h7.viewRow (p:=1) Y Y h9)) ?_
 intro m3 hles14 hvs14
 obtain⟨j6,it⟩:=h7.cutN (p:=1) Y h9 hles14
 rw [<-hvs14]at it
 refine a0b Y Y Y ?_
 obtain⟨m4,hb,hc,hsx5⟩:=a1r j6 (i:=1) Y it
 obtain⟨v8,kv,hm⟩:=Yb hm
 refine a1x ent206 Y Y Y Y hc (c0n _ _ _ _ kv hc.sat hsx5) ?_
 rintro _ m5 _ m6 hd he ⟨hf,hg,hh,xss15,rfl,rfl,j7⟩
 refine a0b Y Y Y (a1d Y Y Y Y (a1d Y Y Y Y (a0c Y Y Y (a0c Y Y Y (a0e (a0d (a0f (a0a (a0b Y Y Y ?_)))))))))
 obtain⟨v9,kw,hm⟩:=Yb hm
 refine c2j ent191 Y Y Y Y (b1n _ _ _ kw (b8f _) (he.viewRow (p:=1) Y Y ((h8.mono hb).mono hd))) ?_
 intro hi hles16 hvs16
 obtain⟨j8,iu⟩:=he.cutN (p:=1) Y ((h8.mono hb).mono hd) hles16
 rw [<-hvs16]at iu
 refine a0b Y Y Y (a0c Y Y Y (a0c Y Y Y (a0e (a0d (a3b ?_)))))
 obtain⟨m7,j9,ja,hsx6⟩:=a1r j8 (i:=1) Y iu
 refine a6j (vl:= [.slice g1 hi g2,.slice hf hg hh]) Y ⟨a3w Y,a3w Y,trivial⟩ (by simp) ?_
 obtain rfl:=Yo hm
 exact⟨_,_,_,Y,ja.Yp [0] Y Y,g1,hi,g2,hf,hg,hh,xss15,Y,Y,hsx6,(j7.mono j9)⟩
 clear hm hkont1;intro hk1 mx1 K ihx1
 rintro⟨i1,l4,l5⟩ a m8 hm ⟨Z,u,o,g,xss10,x,t,z,xss11,J,gb,gg,M,jb⟩
 simp only [big_div_L2_s]at hm
 refine a2e jb (a0f (a0f (a0a (a0b Y Y Y (a0p Y Y Y Y Y (a0e (a0d ?_)))))))
 rcases a0g hm with⟨hj,hm⟩|⟨hj,hm⟩
 refine a0w 80 Y hj (a1o Y (a2b (a0d (a0f (a2g (a0f (b5m (by kernel_rfl) (by kernel_rfl) gb (a2y Y Y Y Y (fun _ _ _ _=>a0b Y Y Y Yn) (a2y Y Y Y Y (fun _ _ _ _=>a0b Y Y Y Yn) (a2y Y Y Y Y (fun _ _ _ _=>a0b Y Y Y Yn) (a2y Y Y Y Y (fun _ _ _ _=>a0p Y Y Y Y Y Yn) ?_)))))))))))
 obtain⟨ex2,kx,hm⟩:=Yb hm
 obtain⟨b8,o2,g5,jc,ho1,ky,hp1,hv⟩:=c2l (P:=Tryz.prog) (r:=(Rp.int .i64)) u28 sz3 gb (p:=1) Y Y M kx
 have kz:g5= [.int .i64 ex2]:=ky
 subst kz
 refine b6d Y Y Y Y hv (a2y Y Y Y Y (fun _ _ _ hq=>b4a (j:=0) ag3 Y Y hq Y (p:=1) Y Y jc ho1 hp1 Y Yn) ?_)
 obtain⟨q1,hq1,hm⟩:=Yb hm
 refine a2y Y Y Y Y (fun _ _ _ _=>e6h Y Y Y Y hq1 Yn) (a2y Y Y Y Y (fun _ _ _ _=>a0b Y Y Y Yn) (a2y Y Y Y Y (fun _ _ _ _=>a0b Y Y Y Yn) (a2y Y Y Y Y (fun _ _ _ _=>a0b Y Y Y Yn) (a2y Y Y Y Y (fun _ _ _ _=>a0p Y Y Y Y Y Yn) (a2y Y Y Y Y (fun _ _ _ _=>a0p Y Y Y Y Y Yn) ?_)))))
 obtain⟨ex3,l0,hm⟩:=Yb hm
 obtain⟨b9,o3,gt,jd,ho2,la,hp2,hw⟩:=c2l (P:=Tryz.prog) (r:=(Rp.int .i64)) u28 sz3 gb (p:=1) Y Y M l0
 have lb:gt= [.int .i64 ex3]:=la
 subst lb
 refine b6d Y Y Y Y hw (a2y Y Y Y Y (fun _ _ _ hq=>b4a (j:=0) ag3 Y Y hq Y (p:=1) Y Y jd ho2 hp2 Y Yn) (a2y Y Y Y Y (fun _ _ _ _=>a0p Y Y Y Y Y Yn) (a2y Y Y Y Y (fun _ _ _ _=>a0c Y Y Y Yn) (e1n ?_))))
 rintro m9 ⟨ma,G,je⟩
 refine a0d (a0f (b5m (by kernel_rfl) (by kernel_rfl) je (a2y Y Y Y Y (fun _ _ _ _=>a0b Y Y Y Yn) (a2y Y Y Y Y (fun _ _ _ _=>a0b Y Y Y Yn) (a2y Y Y Y Y (fun _ _ _ _=>a0b Y Y Y Yn) (a2y Y Y Y Y (fun _ _ _ _=>a0p Y Y Y Y Y Yn) ?_))))))
 obtain⟨ex4,lc,hm⟩:=Yb hm
 obtain⟨b10,o4,gu,ld,lf,hx⟩:=b1h (P:=Tryz.prog) (r:=(Rp.int .i64)) u28 sz3 ((hsx4.mono J).mono G) lc
 have lg:gu= [.int .i64 ex4]:=lf
 subst lg
 refine b6d Y Y Y Y hx (a2y Y Y Y Y (fun _ _ hleq hq=>a6o (j:=0) ag3 Y Y hq (ld.mono hleq) Y Y Yn) ?_)
 obtain⟨q2,hq2,hm⟩:=Yb hm
 refine a2y Y Y Y Y (fun _ _ _ _=>e8u Y Y Y Y hq2 Yn) (a2y Y Y Y Y (fun _ _ _ _=>a0b Y Y Y Yn) (a2y Y Y Y Y (fun _ _ _ _=>a0b Y Y Y Yn) (a2y Y Y Y Y (fun _ _ _ _=>a0b Y Y Y Yn) (a2y Y Y Y Y (fun _ _ _ _=>a0p Y Y Y Y Y Yn) ?_))))
 obtain⟨ex5,lh,hm⟩:=Yb hm
 obtain⟨b11,o5,li,lj,jf,hy⟩:=b1h (P:=Tryz.prog) (r:=(Rp.int .i64)) u28 sz3 ((hsx4.mono J).mono G) lh
 have lk:li= [.int .i64 ex5]:=jf
 subst lk
 refine b6d Y Y Y Y hy (a2y Y Y Y Y (fun _ _ hleq hq=>a6o (j:=0) ag3 Y Y hq (lj.mono hleq) Y Y Yn) ?_)
 obtain⟨q3,hq3,hm⟩:=Yb hm
 refine a2y Y Y Y Y (fun _ _ _ _=>f0h Y Y Y Y hq3 Yn) (a2y Y Y Y Y (fun _ _ _ _=>a0c Y Y Y Yn) (a2y Y Y Y Y (fun _ _ _ _=>a0c Y Y Y Yn) (e1n ?_)))
 rintro mb ⟨hk,H,jg⟩
 refine a0d (a0f (a2g ?_))
 intro a hz
 obtain⟨kont2,hkont2⟩:∃kont2:Int->Option ((List Int)×(List Int)),kont2=(fun(guess2:Int)=>(lsl l5 i1 (iadd .i64 (iadd .i64 i1 (v6.length:Int)) 1)).bind fun l8=>(a9v n l8 v6 guess2).bind fun v10=>(ix l4 i1).bind fun ex6=>(lset l4 i1 v10.2).bind fun l9=>big_div_L2 n v6 kont1 mx1 (isub .i64 i1 1) l9 (lput l5 i1 v10.1 (iadd .i64 (iadd .i64 i1 (v6.length:Int)) 1))):=⟨_,Y⟩
 replace hm:(fun m(s:Int×Int)=>big_div_L3 n v6 i1 l5 kont2 m s.1 s.2) n (q2,q3)=some r:=by rw [hkont2];exact hm
 refine b5o (id:=4) (fun m(s:Int×Int)=>big_div_L3 n v6 i1 l5 kont2 m s.1 s.2) (fun(y:Int)=>kont2 y) r (fun(s:Int×Int)a w'=>∃(gh:Frz),Frz.le hk gh/\HS F w [] gh [.row 3 1 u o g xss10,.row 3 1 x t z xss11] w'/\Has 170 a [(8,.int .i64 shift2),(9,.slice x t z),(10,.slice T U L),(11,.int .i64 (v6.length:Int)),(12,.slice u o g),(13,.int .i64 i1),(15,.int .i64 s.1),(16,.int .i64 s.2)]) (fun(y:Int)a w'=>∃(gi:Frz),Frz.le hk gi/\HS F w [] gi [.row 3 1 u o g xss10,.row 3 1 x t z xss11] w'/\Has 170 a [(8,.int .i64 shift2),(9,.slice x t z),(10,.slice T U L),(11,.int .i64 (v6.length:Int)),(12,.slice u o g),(13,.int .i64 i1),(15,.int .i64 y)]) (fun _=>Y) ?_ ?_ hm ⟨_,Yf,jg.Yp [0,1] Y Y,hz.cut (l:= [8,9,10,11,12,13,15,16]) Y⟩
 clear hm;rintro guess2 a mc hm ⟨gi,N,gj,jh⟩
 rw [hkont2]at hm
 replace hm:=hm
 refine a5p (e:= .exit 4) jh (a2r (a0d (a0a (a0b Y Y Y (a0b Y Y Y (a0b Y Y Y (a0b Y Y Y (a0b Y Y Y (a0b Y Y Y (a0p Y Y Y Y Y (a0p Y Y Y Y Y ?_)))))))))))
 obtain⟨l8,iv,hm⟩:=Yb hm
 refine e1t u28 (r:=(Rp.int .i64)) sz3 Y Y gj Y Y Y (p:=1) Y Y (((M.mono G).mono H).mono N) iv ?_
 intro md me mf ji
 refine a0b Y Y Y (a0b Y Y Y ?_)
 have ll:=((J.trans G).trans H).trans N
 obtain⟨v10,jj,hm⟩:=Yb hm
 refine e5l (r:=(Rp.int .i64)) ent208 Y Y Y Y gj (p:=1) Y Y (((M.mono G).mono H).mono N) ji (fun pre1 mid1 post1 hw1 hwf1 hwr1=>c7d _ _ _ _ _ jj gj.sat hw1 hwf1 (by rw [show l8=_ from(b6i iv).2.2.2];exact hwr1) (hsx4.mono ll)) ?_
 rintro _ mg _ _ mh xs2 gk hl hxx1 ⟨rfl,rfl,jk⟩
 obtain⟨ex6,lm,hm⟩:=Yb hm
 refine b0f (r:=(Rp.int .i64)) u28 sz3 Y Y hl Y Y (p:=0) Y Y ((((gg.mono G).mono H).mono N).mono gk) lm ?_
 intro b12 o6 il jl ho3 jm hp3
 have ln:il= [.int .i64 ex6]:=jm
 subst ln
 obtain⟨l9,lo,hm⟩:=Yb hm
 refine b2t (r:=(Rp.int .i64)) sz3 Y hl Y Y Y Y Y (p:=0) Y Y jl ho3 ((((gg.mono G).mono H).mono N).mono gk) Y Y lo ?_
 intro mi xs3 jn jo
 refine a0e (a3v (a0d (a0a (a0b Y Y Y (a0p Y Y Y Y Y (a0c Y Y Y (a0e (a0k (fun a ha=>ihx1 ((isub .i64 i1 1),l9,(lput l5 i1 v10.1 (iadd .i64 (iadd .i64 i1 (v6.length:Int)) 1))) a _ hm ?_)))))))))
 exact⟨_,u,o,g,xs3,x,t,z,xs2,((((J.trans G).trans H).trans N).trans gk),jn.Yp [0,1] Y Y,jo,((hxx1 _ jk)),ha.cut (l:= [8,9,10,11,12,13]) Y⟩
 clear hm hkont2;intro hk2 mx2 K ihx2
 rintro⟨guess1,rest1⟩ a mj hm ⟨gh,g3,hn,jp⟩
 simp only [big_div_L3_s]at hm
 refine a2e jp (a0f (a0f (b5m (by kernel_rfl) (by kernel_rfl) hn (a2y Y Y Y Y (fun _ _ _ _=>a0b Y Y Y Yn) (a2y Y Y Y Y (fun _ _ _ _=>a0p Y Y Y Y Y Yn) (a2y Y Y Y Y (fun _ _ _ _=>a0b Y Y Y Yn) ?_))))))
 obtain⟨v11,Q,hm⟩:=Yb hm
 refine e5y 23 (fun a=>Has 170 a [(8,.int .i64 shift2),(9,.slice x t z),(10,.slice T U L),(11,.int .i64 (v6.length:Int)),(12,.slice u o g),(13,.int .i64 i1),(15,.int .i64 guess1),(16,.int .i64 rest1),(137,.bool v11)]) ?_ ?_
 intro a i0
 refine c7c i0 (e1n ?_)
 rintro mk ⟨ml,gl,gm⟩
 refine a0d ?_
 rcases a0g hm with⟨ho,hm⟩|⟨ho,hm⟩
 refine a0w 137 Y ho (a1o Y (a2b (a0d (a2g (a0f (a0a (a0b Y Y Y (a0p Y Y Y Y Y (a0c Y Y Y (a0e (a0d (a0a (a0b Y Y Y (a0b Y Y Y (a0b Y Y Y (a0p Y Y Y Y Y ?_))))))))))))))))
 obtain⟨ex7,lp,hm⟩:=Yb hm
 refine a9o (r:=(Rp.int .i64)) u28 sz3 Y Y Y Y (((((hsx4.mono J).mono G).mono H).mono g3).mono gl) lp ?_
 intro b13 o7 h0 lq jq
 have lr:h0= [.int .i64 ex7]:=jq
 subst lr
 refine a6o (j:=0) ag3 Y Y gm lq Y Y (a0p Y Y Y Y Y (a0c Y Y Y (a0e (a3v (a0k (fun a ha=>ihx2 ((isub .i64 guess1 1),(iadd .i64 rest1 ex7)) a _ hm ?_))))))
 exact⟨_,(g3.trans gl),gm.Yp [0,1] Y Y,ha.cut (l:= [8,9,10,11,12,13,15,16]) Y⟩
 refine a0w 137 Y ho (a0t Y (a9q (a0s (a0s (fun a ha=>hk2 guess1 a _ hm ?_)))))
 exact⟨_,(g3.trans gl),gm.Yp [0,1] Y Y,ha.cut (l:= [8,9,10,11,12,13,15]) Y⟩
 clear hm
 rcases a0g Q with⟨hp,Q⟩|⟨hp,Q⟩
 refine d1i 114 Y hp (a4k Y Y Y (a4k Y Y Y (a4k Y Y Y (a4k Y Y Y (a4k Y Y Y (a4k Y Y Y (a4k Y Y Y (a4k Y Y Y (a4k Y Y Y (a4k Y Y Y (a4k Y Y Y (a4k Y Y Y (a4k Y Y Y (a4k Y Y Y (a4k Y Y Y (a4k Y Y Y (a4k Y Y Y (a4k Y Y Y (a4k Y Y Y (a4k Y Y Y (a4k Y Y Y (a4k Y Y Y (a2y Y Y Y Y (fun _ _ _ _=>a0n Y Y Y Y Yn) (d1r (fun a ha=> ?_)))))))))))))))))))))))))
 cases Q
 exact ha.cut (l:= [8,9,10,11,12,13,15,16,137]) Y
 refine d1i 114 Y hp (a2y Y Y Y Y (fun _ _ _ _=>a0b Y Y Y Yn) (a2y Y Y Y Y (fun _ _ _ _=>a0p Y Y Y Y Y Yn) (a2y Y Y Y Y (fun _ _ _ _=>a0b Y Y Y Yn) ?_)))
 obtain⟨v12,I,Q⟩:=Yb Q
 refine e5y 19 (fun a=>Has 170 a [(8,.int .i64 shift2),(9,.slice x t z),(10,.slice T U L),(11,.int .i64 (v6.length:Int)),(12,.slice u o g),(13,.int .i64 i1),(15,.int .i64 guess1),(16,.int .i64 rest1),(114,.bool false),(136,.bool v12)]) ?_ ?_
 intro a i2
 refine c7c i2 (a2y Y Y Y Y (fun _ _ _ _=>a0j Y Y Y Y Yn) (d1r (fun a ha=> ?_)))
 cases Q
 exact ha.cut (l:= [8,9,10,11,12,13,15,16,137]) Y
 clear Q
 rcases a0g I with⟨hr,I⟩|⟨hr,I⟩
 refine d1i 117 Y hr (a2y Y Y Y Y (fun _ _ _ _=>a0b Y Y Y Yn) (a2y Y Y Y Y (fun _ _ _ _=>a0b Y Y Y Yn) (a2y Y Y Y Y (fun _ _ _ _=>a0b Y Y Y Yn) (a2y Y Y Y Y (fun _ _ _ _=>a0p Y Y Y Y Y Yn) ?_))))
 obtain⟨ex8,ls,I⟩:=Yb I
 obtain⟨b14,o8,L,lt,jr,i3⟩:=b1h (P:=Tryz.prog) (r:=(Rp.int .i64)) u28 sz3 ((((hsx4.mono J).mono G).mono H).mono g3) ls
 have lu:L= [.int .i64 ex8]:=jr
 subst lu
 refine b6d Y Y Y Y i3 (a2y Y Y Y Y (fun _ _ hleq hq=>a6o (j:=0) ag3 Y Y hq (lt.mono hleq) Y Y Yn) (a2y Y Y Y Y (fun _ _ _ _=>a0p Y Y Y Y Y Yn) (a2y Y Y Y Y (fun _ _ _ _=>a0b Y Y Y Yn) ?_)))
 obtain⟨q4,hq4,I⟩:=Yb I
 refine a2y Y Y Y Y (fun _ _ _ _=>e6h Y Y Y Y hq4 Yn) (a2y Y Y Y Y (fun _ _ _ _=>a0b Y Y Y Yn) (a2y Y Y Y Y (fun _ _ _ _=>a0b Y Y Y Yn) (a2y Y Y Y Y (fun _ _ _ _=>a0b Y Y Y Yn) (a2y Y Y Y Y (fun _ _ _ _=>a0p Y Y Y Y Y Yn) (a2y Y Y Y Y (fun _ _ _ _=>a0p Y Y Y Y Y Yn) ?_)))))
 obtain⟨ex9,lv,I⟩:=Yb I
 obtain⟨b15,o9,g8,i4,ho4,js,hp4,i5⟩:=c2l (P:=Tryz.prog) (r:=(Rp.int .i64)) u28 sz3 hn (p:=1) Y Y (((M.mono G).mono H).mono g3) lv
 have jt:g8= [.int .i64 ex9]:=js
 subst jt
 refine b6d Y Y Y Y i5 (a2y Y Y Y Y (fun _ _ _ hq=>b4a (j:=0) ag3 Y Y hq Y (p:=1) Y Y i4 ho4 hp4 Y Yn) (a2y Y Y Y Y (fun _ _ _ _=>a0p Y Y Y Y Y Yn) (a2y Y Y Y Y (fun _ _ _ _=>a0p Y Y Y Y Y Yn) (a2y Y Y Y Y (fun _ _ _ _=>a0n Y Y Y Y Yn) (d1r (fun a ha=> ?_))))))
 cases I
 exact ha.cut (l:= [8,9,10,11,12,13,15,16,114,136]) Y
 refine d1i 117 Y hr (a4k Y Y Y (a4k Y Y Y (a4k Y Y Y (a4k Y Y Y (a4k Y Y Y (a4k Y Y Y (a4k Y Y Y (a4k Y Y Y (a4k Y Y Y (a4k Y Y Y (a4k Y Y Y (a4k Y Y Y (a4k Y Y Y (a4k Y Y Y (a4k Y Y Y (a4k Y Y Y (a4k Y Y Y (a4k Y Y Y (a2y Y Y Y Y (fun _ _ _ _=>a0j Y Y Y Y Yn) (d1r (fun a ha=> ?_)))))))))))))))))))))
 cases I
 exact ha.cut (l:= [8,9,10,11,12,13,15,16,114,136]) Y
 refine a0w 80 Y hj (a0t Y (a9q (a0s (a0s (fun a ha=>hk1 (l4,l5) a _ hm ?_)))))
 exact⟨_,u,o,g,xss10,x,t,z,xss11,J,gb.Yp [0,1] Y Y,gg,M,ha.cut (l:= [8,9,12]) Y⟩
 clear hm
 rcases a0g V with⟨gn,V⟩|⟨gn,V⟩
 refine a0w 65 Y gn (a1o Y (a0a (a0b Y Y Y (a0i (e:=3) (cs:= [.int .i64 0]) (q:=1) Y Y h4 Y (fun _=>by kernel_rfl) Y Y ?_))))
 intro b16 mm ju
 obtain⟨l10,jv,V⟩:=Yb V
 refine a6u (r:=(Rp.int .i64)) ap28 Y Y ju Y Y (i:=3) (j:=0) Y Y ((h1.mono h2).mono io) ((show RowN (Rp.int .i64) im 1 [.int .i64 0] [0]from⟨Y,⟨_,_,Y,Y,(Y:RowR (Rp.int .i64) _ [] [])⟩⟩)) jv ?_
 intro jw jx mn jy jz
 refine a0c Y Y Y (a0e (a0k (fun a ha=> ?_)))
 cases V
 exact⟨_,jw,((ik+1)+1),jx,((xss6++ [.int .i64 0])++ [.int .i64 0]),Yf,jy.Yp [1,2,3] Y Y,jz,ha.cut (l:= [8,9,10]) Y⟩
 refine a0w 65 Y gn (a0t Y (a2b (a0k (fun a ha=> ?_))))
 cases V
 exact⟨_,kp,(ik+1),h0,(xss6++ [.int .i64 0]),Yf,h4.Yp [0,1,2] Y Y,((h1.mono h2).mono io),ha.cut (l:= [8,9,10]) Y⟩
 clear hm hkont3;intro hk3 mx3 K ihx3
 rintro shift1 a mo hm ⟨rfl,i6⟩
 simp only [big_div_L1_s]at hm
 refine a2e i6 (a0f (a0f (a0a (a0b Y Y Y (a0b Y Y Y (a6c g6.len u28 Y Y Y (a0p Y Y Y Y Y ?_)))))))
 obtain⟨ex10,k0,hm⟩:=Yb hm
 refine a9o (r:=(Rp.int .i64)) u28 sz3 Y Y Y Y (g6.mono g7) k0 ?_
 intro b17 o10 g lw k1
 have k2:g= [.int .i64 ex10]:=k1
 subst k2
 refine a6o (j:=0) ag3 Y Y R lw Y Y (a0b Y Y Y (a0p Y Y Y Y Y (a0p Y Y Y Y Y (a0e (a0d ?_)))))
 rcases a0g hm with⟨go,hm⟩|⟨go,hm⟩
 refine a0w 48 Y go (a1o Y (a2b (a0d (a2g (a0a (a0b Y Y Y (a0p Y Y Y Y Y (a0c Y Y Y (a0e (a3v (a0k (fun a ha=>ihx3 (imul .i64 shift1 2) a _ hm ?_))))))))))))
 exact⟨Y,ha.cut (l:= [0,1,8]) Y⟩
 refine a0w 48 Y go (a0t Y (a9q (a0s (a0s (fun a ha=>hk3 shift1 a _ hm ?_)))))
 exact⟨Y,ha.cut (l:= [0,1,8]) Y⟩
theorem c7s(n:Nat)(ax1:(List Int))(b1:(List Int)):FnC Wt 162 [.sl 2 ax1,.sl 2 b1] (b4l n ax1 b1) (fun r=> .tup [.sl 2 r.1,.sl 2 r.2]):=⟨fun _ _=>by kernel_rfl,fun r hm w F hs hg us hu=>by
 obtain⟨_,_,rfl,⟨_,_,_,rfl,hs0⟩,⟨_,_,rfl,⟨_,_,_,rfl,hs1⟩,rfl⟩⟩:=hu
 exact(d0d n ax1 b1 r hm hs (hg) hs0 hs1).mono fun e w'⟨v,F',O',e1,e2,e3⟩=>by
  obtain⟨a0_0,n0_0,c0_0,a1_0,n1_0,c1_0,xs1_0,rfl,rfl,g0,g1⟩:=e3
  obtain⟨F2,hz,h2,g1'⟩:=frzO e2 g1
  exact⟨_,F2,e1,h2,⟨_,rfl,⟨_,_,rfl,⟨_,_,_,rfl,(g0.mono hz)⟩,⟨_,_,rfl,⟨_,_,_,rfl,g1'⟩,rfl⟩⟩⟩⟩⟩
theorem a5q(n:Nat)(right1:Bool)(c1:Big):FnC Wt 161 [.ob right1,.agg [.int .i64 c1.Sign,.sl 2 c1.Digits]] (a4z n right1 c1) (fun r=> .tup [.agg [.int .i64 r.1.Sign,.sl 2 r.1.Digits],.int .i64 r.2]):=by
 refine a1l (n:=10) Tryz.func161 rfl rfl rfl (fun _ _=>by kernel_rfl) fun F0 w0 r=> ?_
 unfold a4z
 refine gC rfl (fun _=> ?_) (fun _=> ?_)
 ·
  exact gR rfl rfl rfl
 ·
  exact gR rfl rfl rfl
theorem c8i(n:Nat)(vals1:(List Int)):FnC Wt 209 [.sl 2 vals1] (b2w n vals1) (fun r=> .int .i64 r):=by
 refine a1l (n:=18) Tryz.func209 rfl rfl rfl (fun _ _=>by kernel_rfl) fun F0 w0 r=> ?_
 unfold b2w
 refine a3m ((fun k0 m(s:Int)=>cmp_Or_int_L1 n vals1 k0 m s) _) (fun(s:Int)=> [.v 8 (.int .i64 s)]) (fun _=>rfl) _ rfl rfl (fun _=>rfl) rfl fun K1 m1 hK1 i1=> ?_
 refine gC rfl (fun _=> ?_) (fun _=> ?_)
 ·
  refine gV rfl fun ex1=> ?_
  refine gC rfl (fun _=> ?_) (fun _=> ?_)
  ·
   exact gR rfl rfl rfl
  ·
   exact gE hK1 _ rfl (by kernel_rfl)
 ·
  exact gR rfl rfl rfl
theorem d6e(n:Nat)(ax1:Big)(b1:Big):FnC Wt 166 [.agg [.int .i64 ax1.Sign,.sl 2 ax1.Digits],.agg [.int .i64 b1.Sign,.sl 2 b1.Digits]] (c3r n ax1 b1) (fun r=> .tup [.agg [.int .i64 r.1.Sign,.sl 2 r.1.Digits],.int .i64 r.2]):=by
 refine a1l (n:=69) Tryz.func166 rfl rfl rfl (fun _ _=>by kernel_rfl) fun F0 w0 r=> ?_
 unfold c3r
 refine gK (a3a _ _) rfl rfl rfl fun v1=> ?_
 refine gJ 4 (fun v2=> [.v 13 (.ob v2)]) rfl (fun _=>rfl) (fun J1 hJ1=> ?_) (fun v2=> ?_)
 ·
  refine gD rfl (fun _=> ?_) (fun _=> ?_)
  ·
   exact gX hJ1 rfl (by kernel_rfl)
  ·
   refine gA ?_
   refine gK (a3a _ _) rfl rfl rfl fun v15=> ?_
   exact gX hJ1 rfl (by kernel_rfl)
 refine gC rfl (fun _=> ?_) (fun _=> ?_)
 ·
  refine gK (a5q _ _ _) rfl rfl rfl fun v3=> ?_
  exact gR rfl rfl rfl
 ·
  refine gC rfl (fun _=> ?_) (fun _=> ?_)
  ·
   refine gHs [(4,(pL [0,2,4,6,12,14,16,18,9,11,21,23,25,26,29,31,33] .nil)),(6,(pL [0,2,4,6,8,10,13,15,17,18,21,23,25] .nil)),(7,(pL [0,2,4,6,8,10,13,15,17,18,21,23,25] .nil))] rfl (by kernel_rfl) rfl rfl fun Ky=> ?_
   refine gK (c8i _ _) rfl rfl rfl fun v4=> ?_
   refine gK (c9d _ _ _) rfl rfl rfl fun v5=> ?_
   refine gK (a4b _ _ _) rfl rfl rfl fun v6=> ?_
   refine gK (a5q _ _ _) rfl rfl rfl fun v7=> ?_
   refine gHe rfl ?_
   exact gR rfl rfl rfl
  ·
   refine gK (b3q _ _ _) rfl rfl rfl fun v8=> ?_
   refine gC rfl (fun _=> ?_) (fun _=> ?_)
   ·
    refine gHs [(4,(pL [0,2,4,6,12,14,16,18,9,11,21,23,25,26,29,31,33] .nil)),(6,(pL [0,2,4,6,8,10,13,15,17,18,21,23,25] .nil)),(7,(pL [0,2,4,6,8,10,13,15,17,18,21,23,25] .nil))] rfl (by kernel_rfl) rfl rfl fun Ky=> ?_
    refine gK (c2m _ _ _) rfl rfl rfl fun v9=> ?_
    refine gK (a4b _ _ _) rfl rfl rfl fun v10=> ?_
    refine gK (a5q _ _ _) rfl rfl rfl fun v11=> ?_
    refine gHe rfl ?_
    exact gR rfl rfl rfl
   ·
    refine gHs [(4,(pL [0,2,4,6,12,14,16,18,9,11,21,23,25,26,29,31,33] .nil)),(6,(pL [0,2,4,6,8,10,13,15,17,18,21,23,25] .nil)),(7,(pL [0,2,4,6,8,10,13,15,17,18,21,23,25] .nil))] rfl (by kernel_rfl) rfl rfl fun Ky=> ?_
    refine gK (c2m _ _ _) rfl rfl rfl fun v12=> ?_
    refine gK (a4b _ _ _) rfl rfl rfl fun v13=> ?_
    refine gK (a5q _ _ _) rfl rfl rfl fun v14=> ?_
    refine gHe rfl ?_
    exact gR rfl rfl rfl
theorem d9i(n:Nat)(ax1:Big)(b1:Big):FnC Wt 170 [.agg [.int .i64 ax1.Sign,.sl 2 ax1.Digits],.agg [.int .i64 b1.Sign,.sl 2 b1.Digits]] (c3m n ax1 b1) (fun r=> .tup [.agg [.int .i64 r.1.Sign,.sl 2 r.1.Digits],.int .i64 r.2]):=by
 refine a1l (n:=32) Tryz.func170 rfl rfl rfl (fun _ _=>by kernel_rfl) fun F0 w0 r=> ?_
 unfold c3m
 refine gK (a3a _ _) rfl rfl rfl fun v1=> ?_
 refine gJ 4 (fun v2=> [.v 13 (.ob v2)]) rfl (fun _=>rfl) (fun J1 hJ1=> ?_) (fun v2=> ?_)
 ·
  refine gD rfl (fun _=> ?_) (fun _=> ?_)
  ·
   exact gX hJ1 rfl (by kernel_rfl)
  ·
   refine gA ?_
   refine gK (a3a _ _) rfl rfl rfl fun v7=> ?_
   exact gX hJ1 rfl (by kernel_rfl)
 refine gC rfl (fun _=> ?_) (fun _=> ?_)
 ·
  refine gK (a5q _ _ _) rfl rfl rfl fun v3=> ?_
  exact gR rfl rfl rfl
 ·
  refine gHs [(3,(pL [0,2,4,6,8,10,12,14,16,19,21,23,24,27,29,31] .nil))] rfl (by kernel_rfl) rfl rfl fun Ky=> ?_
  refine gK (e0n _ _ _) rfl rfl rfl fun v4=> ?_
  refine gK (a4b _ _ _) rfl rfl rfl fun v5=> ?_
  refine gK (a5q _ _ _) rfl rfl rfl fun v6=> ?_
  refine gHe rfl ?_
  exact gR rfl rfl rfl
theorem b8y(n:Nat)(ax1:Big)(b1:Big):FnC Wt 193 [.agg [.int .i64 ax1.Sign,.sl 2 ax1.Digits],.agg [.int .i64 b1.Sign,.sl 2 b1.Digits]] (b2q n ax1 b1) (fun r=> .tup [.agg [.int .i64 r.1.Sign,.sl 2 r.1.Digits],.agg [.int .i64 r.2.1.Sign,.sl 2 r.2.1.Digits],.int .i64 r.2.2]):=by
 refine a1l (n:=67) Tryz.func193 rfl rfl rfl (fun _ _=>by kernel_rfl) fun F0 w0 r=> ?_
 unfold b2q
 refine gK (a3a _ _) rfl rfl rfl fun v1=> ?_
 refine gJ 4 (fun v2=> [.v 17 (.ob v2)]) rfl (fun _=>rfl) (fun J1 hJ1=> ?_) (fun v2=> ?_)
 ·
  refine gD rfl (fun _=> ?_) (fun _=> ?_)
  ·
   exact gX hJ1 rfl (by kernel_rfl)
  ·
   refine gA ?_
   refine gK (a3a _ _) rfl rfl rfl fun v11=> ?_
   exact gX hJ1 rfl (by kernel_rfl)
 refine gC rfl (fun _=> ?_) (fun _=> ?_)
 ·
  exact gR rfl rfl rfl
 ·
  refine gC rfl (fun _=> ?_) (fun _=> ?_)
  ·
   exact gR rfl rfl rfl
  ·
   refine gK (c7s _ _ _) rfl rfl rfl fun v3=> ?_
   refine gJ 4 (fun v4=> [.v 44 (.ob v4)]) rfl (fun _=>rfl) (fun J2 hJ2=> ?_) (fun v4=> ?_)
   ·
    refine gD rfl (fun _=> ?_) (fun _=> ?_)
    ·
     exact gX hJ2 rfl (by kernel_rfl)
    ·
     exact gX hJ2 rfl (by kernel_rfl)
   refine gC rfl (fun _=> ?_) (fun _=> ?_)
   ·
    refine gHs [(7,(pL [0,8,10,12,14,16,3,5,7,19,21,23,25,27] .nil)),(8,(pL [0,2,4,6,8,10,14,16,18,13,21,23,25,27] .nil))] rfl (by kernel_rfl) rfl rfl fun Ky=> ?_
    refine gK (c9d _ _ _) rfl rfl rfl fun v5=> ?_
    refine gK (a4b _ _ _) rfl rfl rfl fun v6=> ?_
    refine gK (c2m _ _ _) rfl rfl rfl fun v7=> ?_
    refine gK (a4b _ _ _) rfl rfl rfl fun v8=> ?_
    refine gHe rfl ?_
    exact gR rfl rfl rfl
   ·
    refine gHs [(7,(pL [0,8,10,12,14,16,3,5,7,19,21,23,25,27] .nil)),(8,(pL [0,2,4,6,8,10,14,16,18,13,21,23,25,27] .nil))] rfl (by kernel_rfl) rfl rfl fun Ky=> ?_
    refine gK (a4b _ _ _) rfl rfl rfl fun v9=> ?_
    refine gK (a4b _ _ _) rfl rfl rfl fun v10=> ?_
    refine gHe rfl ?_
    exact gR rfl rfl rfl
theorem c2r(n:Nat)(ax1:Big)(b1:Big):FnC Wt 92 [.agg [.int .i64 ax1.Sign,.sl 2 ax1.Digits],.agg [.int .i64 b1.Sign,.sl 2 b1.Digits]] (b5l n ax1 b1) (fun r=> .tup [.agg [.int .i64 r.1.Sign,.sl 2 r.1.Digits],.int .i64 r.2]):=by
 refine a1l (n:=44) Tryz.func92 rfl rfl rfl (fun _ _=>by kernel_rfl) fun F0 w0 r=> ?_
 unfold b5l
 refine gK (a3a _ _) rfl rfl rfl fun v1=> ?_
 refine gJ 4 (fun v2=> [.v 17 (.ob v2)]) rfl (fun _=>rfl) (fun J1 hJ1=> ?_) (fun v2=> ?_)
 ·
  refine gD rfl (fun _=> ?_) (fun _=> ?_)
  ·
   exact gX hJ1 rfl (by kernel_rfl)
  ·
   refine gA ?_
   refine gK (a3a _ _) rfl rfl rfl fun v9=> ?_
   exact gX hJ1 rfl (by kernel_rfl)
 refine gC rfl (fun _=> ?_) (fun _=> ?_)
 ·
  refine gK (a5q _ _ _) rfl rfl rfl fun v3=> ?_
  exact gR rfl rfl rfl
 ·
  refine gHs [(3,(pL [0,2,6,8,5,11,13] .nil))] rfl (by kernel_rfl) rfl rfl fun Ky=> ?_
  refine gO (a3h _ _) rfl rfl rfl fun v4=> ?_
  refine gHe rfl ?_
  refine gFr 6 rfl ?_
  refine a3m ((fun k0 m(s:(List Int)×(List Int))=>big_Gcd_L1 n k0 m s.1 s.2) _) (fun(s:(List Int)×(List Int))=> [.v 6 (.sl 2 s.1),.v 7 (.sl 2 s.2)]) (fun _=>rfl) (_,_) rfl rfl (fun _=>rfl) rfl fun K2 m2 hK2 z2=> ?_
  obtain⟨x1,y1⟩:=z2;dsimp only
  refine gC rfl (fun _=> ?_) (fun _=> ?_)
  ·
   refine gK (c7s _ _ _) rfl rfl rfl fun v8=> ?_
   exact gE hK2 (_,_) rfl (by kernel_rfl)
  ·
   refine gO (a3h _ _) rfl rfl rfl fun v5=> ?_
   refine gK (a4b _ _ _) rfl rfl rfl fun v6=> ?_
   refine gK (a5q _ _ _) rfl rfl rfl fun v7=> ?_
   exact gR rfl rfl rfl
theorem c1q(n:Nat)(nx1:Int):FnC Wt 72 [.int .i64 nx1] (b5d n nx1) (fun r=> .agg [.int .i64 r.Sign,.sl 2 r.Digits]):=by
 refine a1l (n:=25) Tryz.func72 rfl rfl rfl (fun _ _=>by kernel_rfl) fun F0 w0 r=> ?_
 unfold b5d
 refine gM (fun j1=> [.v 3 (.int .i64 j1.1),.v 4 (.int .u64 j1.2)]) rfl (fun _=>rfl) (fun J1 hJ1=> ?_) (fun j1=> ?_)
 ·
  refine gD rfl (fun _=> ?_) (fun _=> ?_)
  ·
   exact gX hJ1 rfl (by kernel_rfl)
  ·
   exact gX hJ1 rfl (by kernel_rfl)
 obtain⟨sign1,u1⟩:=j1;dsimp only
 refine a3m ((fun k0 m(s:Int×List Int)=>big_Of_L1 n k0 m s.1 s.2) _) (fun(s:Int×List Int)=> [.v 4 (.int .u64 s.1),.r 5 2 s.2]) (fun _=>rfl) (_,_) rfl rfl (fun _=>rfl) rfl fun K2 m2 hK2 z2=> ?_
 obtain⟨u2,l1⟩:=z2;dsimp only
 refine gC rfl (fun _=> ?_) (fun _=> ?_)
 ·
  refine gP rfl fun l3=> ?_
  refine gV rfl fun q1=> ?_
  exact gE hK2 (_,_) rfl (by kernel_rfl)
 ·
  refine gK (a4b _ _ _) rfl rfl rfl fun v1=> ?_
  exact gR rfl rfl rfl
theorem e0e(n:Nat)(ax1:Big):FnC Wt 163 [.agg [.int .i64 ax1.Sign,.sl 2 ax1.Digits]] (c3e n ax1) (fun r=> .tup [.int .i64 r.1,.ob r.2]):=by
 refine a1l (n:=59) Tryz.func163 rfl rfl rfl (fun _ _=>by kernel_rfl) fun F0 w0 r=> ?_
 unfold c3e
 refine gK (a3a _ _) rfl rfl rfl fun v1=> ?_
 refine gJ 5 (fun v2=> [.v 15 (.ob v2)]) rfl (fun _=>rfl) (fun J1 hJ1=> ?_) (fun v2=> ?_)
 ·
  refine gD rfl (fun _=> ?_) (fun _=> ?_)
  ·
   exact gX hJ1 rfl (by kernel_rfl)
  ·
   exact gX hJ1 rfl (by kernel_rfl)
 refine gC rfl (fun _=> ?_) (fun _=> ?_)
 ·
  exact gR rfl rfl rfl
 ·
  refine a3m ((fun k0 m(s:Int×Int)=>big_Int_L1 n ax1 k0 m s.1 s.2) _) (fun(s:Int×Int)=> [.v 4 (.int .u64 s.1),.v 19 (.int .i64 s.2)]) (fun _=>rfl) (_,_) rfl rfl (fun _=>rfl) rfl fun K2 m2 hK2 z2=> ?_
  obtain⟨u1,i1⟩:=z2;dsimp only
  refine gC rfl (fun _=> ?_) (fun _=> ?_)
  ·
   refine gV rfl fun ex1=> ?_
   refine gJ 3 (fun v5=> [.v 29 (.ob v5)]) rfl (fun _=>rfl) (fun J3 hJ3=> ?_) (fun v5=> ?_)
   ·
    refine gD rfl (fun _=> ?_) (fun _=> ?_)
    ·
     exact gX hJ3 rfl (by kernel_rfl)
    ·
     exact gX hJ3 rfl (by kernel_rfl)
   refine gC rfl (fun _=> ?_) (fun _=> ?_)
   ·
    exact gR rfl rfl rfl
   ·
    refine gV rfl fun q1=> ?_
    exact gE hK2 (_,_) rfl (by kernel_rfl)
  ·
   refine gJ 3 (fun v3=> [.v 45 (.ob v3)]) rfl (fun _=>rfl) (fun J4 hJ4=> ?_) (fun v3=> ?_)
   ·
    refine gD rfl (fun _=> ?_) (fun _=> ?_)
    ·
     exact gX hJ4 rfl (by kernel_rfl)
    ·
     exact gX hJ4 rfl (by kernel_rfl)
   refine gC rfl (fun _=> ?_) (fun _=> ?_)
   ·
    exact gR rfl rfl rfl
   ·
    refine gJ 3 (fun v4=> [.v 56 (.ob v4)]) rfl (fun _=>rfl) (fun J5 hJ5=> ?_) (fun v4=> ?_)
    ·
     refine gD rfl (fun _=> ?_) (fun _=> ?_)
     ·
      exact gX hJ5 rfl (by kernel_rfl)
     ·
      exact gX hJ5 rfl (by kernel_rfl)
    refine gC rfl (fun _=> ?_) (fun _=> ?_)
    ·
     exact gR rfl rfl rfl
    ·
     exact gR rfl rfl rfl
end Go.Proofs.YthaegflpecbfgaaGreatDoor.M
namespace Go.Proofs.YthaegflpecbfgaaGreatDoor.M
open Go Go.RowKit Rt
set_option maxRecDepth 1000000
set_option maxHeartbeats 40000000
theorem b5f(n:Nat)(ax1:Big)(b1:Big):FnC Wt 50 [.agg [.int .i64 ax1.Sign,.sl 2 ax1.Digits],.agg [.int .i64 b1.Sign,.sl 2 b1.Digits]] (a7v n ax1 b1) (fun r=> .ob r):=by
 refine a1l (n:=38) Tryz.func50 rfl rfl rfl (fun _ _=>by kernel_rfl) fun F0 w0 r=> ?_
 unfold a7v
 refine gJ 8 (fun v1=> [.v 19 (.ob v1)]) rfl (fun _=>rfl) (fun J1 hJ1=> ?_) (fun v1=> ?_)
 ·
  refine gD rfl (fun _=> ?_) (fun _=> ?_)
  ·
   exact gX hJ1 rfl (by kernel_rfl)
  ·
   exact gX hJ1 rfl (by kernel_rfl)
 refine gC rfl (fun _=> ?_) (fun _=> ?_)
 ·
  exact gR rfl rfl rfl
 ·
  refine a3m ((fun k0 m(s:Int)=>ref05_SameBig_L1 n ax1 b1 k0 m s) _) (fun(s:Int)=> [.v 5 (.int .i64 s)]) (fun _=>rfl) _ rfl rfl (fun _=>rfl) rfl fun K2 m2 hK2 i1=> ?_
  refine gC rfl (fun _=> ?_) (fun _=> ?_)
  ·
   refine gG rfl (by kernel_rfl) ?_
   refine gV rfl fun ex1=> ?_
   refine gV rfl fun ex2=> ?_
   refine gC rfl (fun _=> ?_) (fun _=> ?_)
   ·
    exact gR rfl rfl rfl
   ·
    exact gE hK2 _ rfl (by kernel_rfl)
  ·
   exact gR rfl rfl rfl
theorem b4m(n:Nat)(ax1:Frac)(b1:Frac):FnC Wt 16 [.agg [.int .i64 ax1.P.Sign,.sl 2 ax1.P.Digits,.int .i64 ax1.Q.Sign,.sl 2 ax1.Q.Digits],.agg [.int .i64 b1.P.Sign,.sl 2 b1.P.Digits,.int .i64 b1.Q.Sign,.sl 2 b1.Q.Digits]] (a7b n ax1 b1) (fun r=> .ob r):=by
 refine a1l (n:=17) Tryz.func16 rfl rfl rfl (fun _ _=>by kernel_rfl) fun F0 w0 r=> ?_
 unfold a7b
 refine gK (b5f _ _ _) rfl rfl rfl fun v1=> ?_
 refine gJ 6 (fun v2=> [.v 16 (.ob v2)]) rfl (fun _=>rfl) (fun J1 hJ1=> ?_) (fun v2=> ?_)
 ·
  refine gD rfl (fun _=> ?_) (fun _=> ?_)
  ·
   refine gA ?_
   refine gK (b5f _ _ _) rfl rfl rfl fun v3=> ?_
   exact gX hJ1 rfl (by kernel_rfl)
  ·
   exact gX hJ1 rfl (by kernel_rfl)
 exact gR rfl rfl rfl
theorem c9v(n:Nat)(f1:Frac)(nx1:Int):FnC Wt 20 [.agg [.int .i64 f1.P.Sign,.sl 2 f1.P.Digits,.int .i64 f1.Q.Sign,.sl 2 f1.Q.Digits],.int .i64 nx1] (b1l n f1 nx1) (fun r=> .ob r):=by
 refine a1l (n:=19) Tryz.func20 rfl rfl rfl (fun _ _=>by kernel_rfl) fun F0 w0 r=> ?_
 unfold b1l
 refine gJ 7 (fun v1=> [.v 18 (.ob v1)]) rfl (fun _=>rfl) (fun J1 hJ1=> ?_) (fun v1=> ?_)
 ·
  refine gD rfl (fun _=> ?_) (fun _=> ?_)
  ·
   exact gX hJ1 rfl (by kernel_rfl)
  ·
   exact gX hJ1 rfl (by kernel_rfl)
 exact gR rfl rfl rfl
theorem d4q(n:Nat)(ax1:Big):FnC Wt 93 [.agg [.int .i64 ax1.Sign,.sl 2 ax1.Digits]] (b8u n ax1) (fun r=> .ob r):=by
 refine a1l (n:=15) Tryz.func93 rfl rfl rfl (fun _ _=>by kernel_rfl) fun F0 w0 r=> ?_
 unfold b8u
 refine gK (e0e _ _) rfl rfl rfl fun v1=> ?_
 refine gJ 3 (fun v2=> [.v 14 (.ob v2)]) rfl (fun _=>rfl) (fun J1 hJ1=> ?_) (fun v2=> ?_)
 ·
  refine gD rfl (fun _=> ?_) (fun _=> ?_)
  ·
   exact gX hJ1 rfl (by kernel_rfl)
  ·
   exact gX hJ1 rfl (by kernel_rfl)
 exact gR rfl rfl rfl
theorem a2l(n:Nat)(f1:Frac):FnC Wt 44 [.agg [.int .i64 f1.P.Sign,.sl 2 f1.P.Digits,.int .i64 f1.Q.Sign,.sl 2 f1.Q.Digits]] (a2n n f1) (fun r=> .ob r):=by
 refine a1l (n:=35) Tryz.func44 rfl rfl rfl (fun _ _=>by kernel_rfl) fun F0 w0 r=> ?_
 unfold a2n
 refine gK (a3a _ _) rfl rfl rfl fun v1=> ?_
 refine gJ 5 (fun v2=> [.v 14 (.ob v2)]) rfl (fun _=>rfl) (fun J1 hJ1=> ?_) (fun v2=> ?_)
 ·
  refine gD rfl (fun _=> ?_) (fun _=> ?_)
  ·
   exact gX hJ1 rfl (by kernel_rfl)
  ·
   refine gA ?_
   refine gK (a3a _ _) rfl rfl rfl fun v7=> ?_
   exact gX hJ1 rfl (by kernel_rfl)
 refine gJ 5 (fun v3=> [.v 20 (.ob v3)]) rfl (fun _=>rfl) (fun J2 hJ2=> ?_) (fun v3=> ?_)
 ·
  refine gD rfl (fun _=> ?_) (fun _=> ?_)
  ·
   exact gX hJ2 rfl (by kernel_rfl)
  ·
   exact gX hJ2 rfl (by kernel_rfl)
 refine gC rfl (fun _=> ?_) (fun _=> ?_)
 ·
  exact gR rfl rfl rfl
 ·
  refine gK (c2r _ _ _) rfl rfl rfl fun v4=> ?_
  refine gJ 3 (fun v5=> [.v 34 (.ob v5)]) rfl (fun _=>rfl) (fun J3 hJ3=> ?_) (fun v5=> ?_)
  ·
   refine gD rfl (fun _=> ?_) (fun _=> ?_)
   ·
    refine gA ?_
    refine gK (d4q _ _) rfl rfl rfl fun v6=> ?_
    exact gX hJ3 rfl (by kernel_rfl)
   ·
    exact gX hJ3 rfl (by kernel_rfl)
  exact gR rfl rfl rfl
theorem b5y(n:Nat)(p1:Big)(q1:Big):FnC Wt 141 [.agg [.int .i64 p1.Sign,.sl 2 p1.Digits],.agg [.int .i64 q1.Sign,.sl 2 q1.Digits]] (b2f n p1 q1) (fun r=> .tup [.agg [.int .i64 r.1.P.Sign,.sl 2 r.1.P.Digits,.int .i64 r.1.Q.Sign,.sl 2 r.1.Q.Digits],.int .i64 r.2]):=by
 refine a1l (n:=60) Tryz.func141 rfl rfl rfl (fun _ _=>by kernel_rfl) fun F0 w0 r=> ?_
 unfold b2f
 refine gK (a3a _ _) rfl rfl rfl fun v1=> ?_
 refine gJ 4 (fun v2=> [.v 22 (.ob v2)]) rfl (fun _=>rfl) (fun J1 hJ1=> ?_) (fun v2=> ?_)
 ·
  refine gD rfl (fun _=> ?_) (fun _=> ?_)
  ·
   exact gX hJ1 rfl (by kernel_rfl)
  ·
   refine gA ?_
   refine gK (a3a _ _) rfl rfl rfl fun v11=> ?_
   exact gX hJ1 rfl (by kernel_rfl)
 refine gC rfl (fun _=> ?_) (fun _=> ?_)
 ·
  exact gR rfl rfl rfl
 ·
  refine gC rfl (fun _=> ?_) (fun _=> ?_)
  ·
   exact gR rfl rfl rfl
  ·
   refine gC rfl (fun _=> ?_) (fun _=> ?_)
   ·
    refine gHs [(6,(pL [] (.two 0 2 (pL [] (.two 1 2 (pL [5,7,9,11] .nil) (pL [3,7,9,11] .nil))) (pL [1,3,7,9,11] .nil))))] rfl (by kernel_rfl) rfl rfl fun Ky=> ?_
    refine gH2 rfl ?_ ?_
    all_goals
     try refine gH2 rfl ?_ ?_
     all_goals
      refine gK (b2x _ _) rfl rfl rfl fun v3=> ?_
      refine gK (b2x _ _) rfl rfl rfl fun v4=> ?_
      refine gHe rfl ?_
      refine gK (c2r _ _ _) rfl rfl rfl fun v5=> ?_
      refine gK (b8y _ _ _) rfl rfl rfl fun v6=> ?_
      refine gK (b8y _ _ _) rfl rfl rfl fun v7=> ?_
      exact gR rfl rfl rfl
   ·
    refine gK (c2r _ _ _) rfl rfl rfl fun v8=> ?_
    refine gK (b8y _ _ _) rfl rfl rfl fun v9=> ?_
    refine gK (b8y _ _ _) rfl rfl rfl fun v10=> ?_
    exact gR rfl rfl rfl
theorem d5s(n:Nat)(p1:Int)(q1:Int):FnC Wt 78 [.int .i64 p1,.int .i64 q1] (c4k n p1 q1) (fun r=> .tup [.agg [.int .i64 r.1.P.Sign,.sl 2 r.1.P.Digits,.int .i64 r.1.Q.Sign,.sl 2 r.1.Q.Digits],.int .i64 r.2]):=by
 refine a1l (n:=13) Tryz.func78 rfl rfl rfl (fun _ _=>by kernel_rfl) fun F0 w0 r=> ?_
 unfold c4k
 refine gK (c1q _ _) rfl rfl rfl fun v1=> ?_
 refine gK (c1q _ _) rfl rfl rfl fun v2=> ?_
 refine gK (b5y _ _ _) rfl rfl rfl fun v3=> ?_
 exact gR rfl rfl rfl
theorem a5z(n:Nat)(nx1:Int):FnC Wt 38 [.int .i64 nx1] (a3n n nx1) (fun r=> .agg [.int .i64 r.P.Sign,.sl 2 r.P.Digits,.int .i64 r.Q.Sign,.sl 2 r.Q.Digits]):=by
 refine a1l (n:=7) Tryz.func38 rfl rfl rfl (fun _ _=>by kernel_rfl) fun F0 w0 r=> ?_
 unfold a3n
 refine gK (c1q _ _) rfl rfl rfl fun v1=> ?_
 refine gK (c1q _ _) rfl rfl rfl fun v2=> ?_
 exact gR rfl rfl rfl
theorem a5i(n:Nat)(ax1:Big)(b1:Big):FnC Wt 104 [.agg [.int .i64 ax1.Sign,.sl 2 ax1.Digits],.agg [.int .i64 b1.Sign,.sl 2 b1.Digits]] (a3l n ax1 b1) (fun r=> .agg [.int .i64 r.Sign,.sl 2 r.Digits]):=by
 refine a1l (n:=14) Tryz.func104 rfl rfl rfl (fun _ _=>by kernel_rfl) fun F0 w0 r=> ?_
 unfold a3l
 refine gK (d9i _ _ _) rfl rfl rfl fun v1=> ?_
 exact gR rfl rfl rfl
theorem b6j(n:Nat)(ax1:Frac)(b1:Frac):FnC Wt 101 [.agg [.int .i64 ax1.P.Sign,.sl 2 ax1.P.Digits,.int .i64 ax1.Q.Sign,.sl 2 ax1.Q.Digits],.agg [.int .i64 b1.P.Sign,.sl 2 b1.P.Digits,.int .i64 b1.Q.Sign,.sl 2 b1.Q.Digits]] (b0e n ax1 b1) (fun r=> .tup [.agg [.int .i64 r.1.P.Sign,.sl 2 r.1.P.Digits,.int .i64 r.1.Q.Sign,.sl 2 r.1.Q.Digits],.int .i64 r.2]):=by
 refine a1l (n:=40) Tryz.func101 rfl rfl rfl (fun _ _=>by kernel_rfl) fun F0 w0 r=> ?_
 unfold b0e
 refine gK (a2l _ _) rfl rfl rfl fun v1=> ?_
 refine gJ 4 (fun v2=> [.v 15 (.ob v2)]) rfl (fun _=>rfl) (fun J1 hJ1=> ?_) (fun v2=> ?_)
 ·
  refine gD rfl (fun _=> ?_) (fun _=> ?_)
  ·
   exact gX hJ1 rfl (by kernel_rfl)
  ·
   refine gA ?_
   refine gK (a2l _ _) rfl rfl rfl fun v8=> ?_
   exact gX hJ1 rfl (by kernel_rfl)
 refine gC rfl (fun _=> ?_) (fun _=> ?_)
 ·
  exact gR rfl rfl rfl
 ·
  refine gA ?_
  refine gHs [(3,(pL [0,2,4,6,10,12,14,16] (.two 4 14 (pL [] (.two 9 14 (pL [] (.two 10 14 (pL [22,24,26,29,31,33] .nil) (pL [21,23,24,26,31,33] .nil))) (pL [19,21,23,24,26,31,33] .nil))) (pL [9,19,21,23,24,26,31,33] .nil)))),(4,(pL [0,2,4,6,8,11,13,14,17,19,21] .nil))] rfl (by kernel_rfl) rfl rfl fun Ky=> ?_
  refine gH2 rfl ?_ ?_
  all_goals
   refine gK (a5i _ _ _) rfl rfl rfl fun v5=> ?_
   refine gA ?_
   try refine gH2 rfl ?_ ?_
   all_goals
    refine gK (a5i _ _ _) rfl rfl rfl fun v6=> ?_
    refine gA ?_
    try refine gH2 rfl ?_ ?_
    all_goals
     refine gK (d6e _ _ _) rfl rfl rfl fun v7=> ?_
     refine gB ?_
     refine gHe rfl ?_
     refine gHs [(3,(pL [0,2,4,6,10,12,14,16] (.two 4 14 (pL [] (.two 9 14 (pL [] (.two 10 14 (pL [22,24,26,29,31,33] .nil) (pL [21,23,24,26,31,33] .nil))) (pL [19,21,23,24,26,31,33] .nil))) (pL [9,19,21,23,24,26,31,33] .nil)))),(4,(pL [0,2,4,6,8,11,13,14,17,19,21] .nil))] rfl (by kernel_rfl) rfl rfl fun Ky=> ?_
     refine gK (a5i _ _ _) rfl rfl rfl fun v3=> ?_
     refine gK (b5y _ _ _) rfl rfl rfl fun v4=> ?_
     refine gHe rfl ?_
     exact gR rfl rfl rfl
theorem d4o(n:Nat)(ax1:Frac)(b1:Frac):FnC Wt 172 [.agg [.int .i64 ax1.P.Sign,.sl 2 ax1.P.Digits,.int .i64 ax1.Q.Sign,.sl 2 ax1.Q.Digits],.agg [.int .i64 b1.P.Sign,.sl 2 b1.P.Digits,.int .i64 b1.Q.Sign,.sl 2 b1.Q.Digits]] (b8g n ax1 b1) (fun r=> .tup [.agg [.int .i64 r.1.P.Sign,.sl 2 r.1.P.Digits,.int .i64 r.1.Q.Sign,.sl 2 r.1.Q.Digits],.int .i64 r.2]):=by
 refine a1l (n:=25) Tryz.func172 rfl rfl rfl (fun _ _=>by kernel_rfl) fun F0 w0 r=> ?_
 unfold b8g
 refine gK (a2l _ _) rfl rfl rfl fun v1=> ?_
 refine gJ 4 (fun v2=> [.v 13 (.ob v2)]) rfl (fun _=>rfl) (fun J1 hJ1=> ?_) (fun v2=> ?_)
 ·
  refine gD rfl (fun _=> ?_) (fun _=> ?_)
  ·
   exact gX hJ1 rfl (by kernel_rfl)
  ·
   refine gA ?_
   refine gK (a2l _ _) rfl rfl rfl fun v5=> ?_
   exact gX hJ1 rfl (by kernel_rfl)
 refine gC rfl (fun _=> ?_) (fun _=> ?_)
 ·
  exact gR rfl rfl rfl
 ·
  refine gHs [(3,(pL [0,2,4,8,10,7,13,15,16,19,21,23] .nil))] rfl (by kernel_rfl) rfl rfl fun Ky=> ?_
  refine gK (b2x _ _) rfl rfl rfl fun v3=> ?_
  refine gK (b6j _ _ _) rfl rfl rfl fun v4=> ?_
  refine gHe rfl ?_
  exact gR rfl rfl rfl
theorem c0a(n:Nat)(ax1:Frac)(b1:Frac):FnC Wt 100 [.agg [.int .i64 ax1.P.Sign,.sl 2 ax1.P.Digits,.int .i64 ax1.Q.Sign,.sl 2 ax1.Q.Digits],.agg [.int .i64 b1.P.Sign,.sl 2 b1.P.Digits,.int .i64 b1.Q.Sign,.sl 2 b1.Q.Digits]] (b2g n ax1 b1) (fun r=> .tup [.agg [.int .i64 r.1.P.Sign,.sl 2 r.1.P.Digits,.int .i64 r.1.Q.Sign,.sl 2 r.1.Q.Digits],.int .i64 r.2]):=by
 refine a1l (n:=28) Tryz.func100 rfl rfl rfl (fun _ _=>by kernel_rfl) fun F0 w0 r=> ?_
 unfold b2g
 refine gK (a2l _ _) rfl rfl rfl fun v1=> ?_
 refine gJ 4 (fun v2=> [.v 13 (.ob v2)]) rfl (fun _=>rfl) (fun J1 hJ1=> ?_) (fun v2=> ?_)
 ·
  refine gD rfl (fun _=> ?_) (fun _=> ?_)
  ·
   exact gX hJ1 rfl (by kernel_rfl)
  ·
   refine gA ?_
   refine gK (a2l _ _) rfl rfl rfl fun v6=> ?_
   exact gX hJ1 rfl (by kernel_rfl)
 refine gC rfl (fun _=> ?_) (fun _=> ?_)
 ·
  exact gR rfl rfl rfl
 ·
  refine gHs [(3,(pL [0,2,4,6,10,12,14,16,9,19,21,22,25,27,29] .nil))] rfl (by kernel_rfl) rfl rfl fun Ky=> ?_
  refine gK (a5i _ _ _) rfl rfl rfl fun v3=> ?_
  refine gK (a5i _ _ _) rfl rfl rfl fun v4=> ?_
  refine gK (b5y _ _ _) rfl rfl rfl fun v5=> ?_
  refine gHe rfl ?_
  exact gR rfl rfl rfl
theorem d4d(n:Nat)(ax1:Frac)(b1:Frac):FnC Wt 173 [.agg [.int .i64 ax1.P.Sign,.sl 2 ax1.P.Digits,.int .i64 ax1.Q.Sign,.sl 2 ax1.Q.Digits],.agg [.int .i64 b1.P.Sign,.sl 2 b1.P.Digits,.int .i64 b1.Q.Sign,.sl 2 b1.Q.Digits]] (b8q n ax1 b1) (fun r=> .tup [.agg [.int .i64 r.1.P.Sign,.sl 2 r.1.P.Digits,.int .i64 r.1.Q.Sign,.sl 2 r.1.Q.Digits],.int .i64 r.2]):=by
 refine a1l (n:=35) Tryz.func173 rfl rfl rfl (fun _ _=>by kernel_rfl) fun F0 w0 r=> ?_
 unfold b8q
 refine gK (a2l _ _) rfl rfl rfl fun v1=> ?_
 refine gJ 4 (fun v2=> [.v 14 (.ob v2)]) rfl (fun _=>rfl) (fun J1 hJ1=> ?_) (fun v2=> ?_)
 ·
  refine gD rfl (fun _=> ?_) (fun _=> ?_)
  ·
   exact gX hJ1 rfl (by kernel_rfl)
  ·
   refine gA ?_
   refine gK (a2l _ _) rfl rfl rfl fun v6=> ?_
   exact gX hJ1 rfl (by kernel_rfl)
 refine gC rfl (fun _=> ?_) (fun _=> ?_)
 ·
  exact gR rfl rfl rfl
 ·
  refine gC rfl (fun _=> ?_) (fun _=> ?_)
  ·
   exact gR rfl rfl rfl
  ·
   refine gHs [(5,(pL [0,2,4,6,10,12,14,16,9,19,21,22,25,27,29] .nil))] rfl (by kernel_rfl) rfl rfl fun Ky=> ?_
   refine gK (a5i _ _ _) rfl rfl rfl fun v3=> ?_
   refine gK (a5i _ _ _) rfl rfl rfl fun v4=> ?_
   refine gK (b5y _ _ _) rfl rfl rfl fun v5=> ?_
   refine gHe rfl ?_
   exact gR rfl rfl rfl
theorem b8b(n:Nat)(ax1:Big):FnC Wt 167 [.agg [.int .i64 ax1.Sign,.sl 2 ax1.Digits]] (b1k n ax1) (fun r=> .agg [.int .i64 r.Sign,.sl 2 r.Digits]):=by
 refine a1l (n:=6) Tryz.func167 rfl rfl rfl (fun _ _=>by kernel_rfl) fun F0 w0 r=> ?_
 unfold b1k
 refine gK (b2x _ _) rfl rfl rfl fun v1=> ?_
 refine gK (b2x _ _) rfl rfl rfl fun v2=> ?_
 exact gR rfl rfl rfl
theorem d4m(n:Nat)(f1:Frac):FnC Wt 144 [.agg [.int .i64 f1.P.Sign,.sl 2 f1.P.Digits,.int .i64 f1.Q.Sign,.sl 2 f1.Q.Digits]] (b8p n f1) (fun r=> .agg [.int .i64 r.P.Sign,.sl 2 r.P.Digits,.int .i64 r.Q.Sign,.sl 2 r.Q.Digits]):=by
 refine a1l (n:=14) Tryz.func144 rfl rfl rfl (fun _ _=>by kernel_rfl) fun F0 w0 r=> ?_
 unfold b8p
 refine gK (a2l _ _) rfl rfl rfl fun v1=> ?_
 refine gC rfl (fun _=> ?_) (fun _=> ?_)
 ·
  exact gR rfl rfl rfl
 ·
  refine gHs [(3,(pL [0,2,6,8,5,11,13,15] .nil))] rfl (by kernel_rfl) rfl rfl fun Ky=> ?_
  refine gK (b2x _ _) rfl rfl rfl fun v2=> ?_
  refine gK (b8b _ _) rfl rfl rfl fun v3=> ?_
  refine gHe rfl ?_
  exact gR rfl rfl rfl
theorem b7u(n:Nat)(f1:Frac):FnC Wt 108 [.agg [.int .i64 f1.P.Sign,.sl 2 f1.P.Digits,.int .i64 f1.Q.Sign,.sl 2 f1.Q.Digits]] (b1r n f1) (fun r=> .int .i64 r):=by
 refine a1l (n:=9) Tryz.func108 rfl rfl rfl (fun _ _=>by kernel_rfl) fun F0 w0 r=> ?_
 unfold b1r
 refine gK (a2l _ _) rfl rfl rfl fun v1=> ?_
 refine gC rfl (fun _=> ?_) (fun _=> ?_)
 ·
  exact gR rfl rfl rfl
 ·
  exact gR rfl rfl rfl
theorem b2m(n:Nat)(ax1:Frac)(b1:Frac):FnC Wt 49 [.agg [.int .i64 ax1.P.Sign,.sl 2 ax1.P.Digits,.int .i64 ax1.Q.Sign,.sl 2 ax1.Q.Digits],.agg [.int .i64 b1.P.Sign,.sl 2 b1.P.Digits,.int .i64 b1.Q.Sign,.sl 2 b1.Q.Digits]] (a4d n ax1 b1) (fun r=> .int .i64 r):=by
 refine a1l (n:=24) Tryz.func49 rfl rfl rfl (fun _ _=>by kernel_rfl) fun F0 w0 r=> ?_
 unfold a4d
 refine gK (a2l _ _) rfl rfl rfl fun v1=> ?_
 refine gJ 4 (fun v2=> [.v 12 (.ob v2)]) rfl (fun _=>rfl) (fun J1 hJ1=> ?_) (fun v2=> ?_)
 ·
  refine gD rfl (fun _=> ?_) (fun _=> ?_)
  ·
   exact gX hJ1 rfl (by kernel_rfl)
  ·
   refine gA ?_
   refine gK (a2l _ _) rfl rfl rfl fun v6=> ?_
   exact gX hJ1 rfl (by kernel_rfl)
 refine gC rfl (fun _=> ?_) (fun _=> ?_)
 ·
  exact gR rfl rfl rfl
 ·
  refine gHs [(3,(pL [0,2,4,6,10,12,14,16,9,19,21,23] .nil))] rfl (by kernel_rfl) rfl rfl fun Ky=> ?_
  refine gK (a5i _ _ _) rfl rfl rfl fun v3=> ?_
  refine gK (a5i _ _ _) rfl rfl rfl fun v4=> ?_
  refine gK (c6m _ _ _) rfl rfl rfl fun v5=> ?_
  refine gHe rfl ?_
  exact gR rfl rfl rfl
theorem b9j(n:Nat)(ax1:Frac)(b1:Frac)(sign1:Int):FnC Wt 102 [.agg [.int .i64 ax1.P.Sign,.sl 2 ax1.P.Digits,.int .i64 ax1.Q.Sign,.sl 2 ax1.Q.Digits],.agg [.int .i64 b1.P.Sign,.sl 2 b1.P.Digits,.int .i64 b1.Q.Sign,.sl 2 b1.Q.Digits],.int .i64 sign1] (a9y n ax1 b1 sign1) (fun r=> .tup [.agg [.int .i64 r.1.P.Sign,.sl 2 r.1.P.Digits,.int .i64 r.1.Q.Sign,.sl 2 r.1.Q.Digits],.int .i64 r.2]):=by
 refine a1l (n:=31) Tryz.func102 rfl rfl rfl (fun _ _=>by kernel_rfl) fun F0 w0 r=> ?_
 unfold a9y
 refine gK (a2l _ _) rfl rfl rfl fun v1=> ?_
 refine gJ 4 (fun v2=> [.v 15 (.ob v2)]) rfl (fun _=>rfl) (fun J1 hJ1=> ?_) (fun v2=> ?_)
 ·
  refine gD rfl (fun _=> ?_) (fun _=> ?_)
  ·
   exact gX hJ1 rfl (by kernel_rfl)
  ·
   refine gA ?_
   refine gK (a2l _ _) rfl rfl rfl fun v6=> ?_
   exact gX hJ1 rfl (by kernel_rfl)
 refine gC rfl (fun _=> ?_) (fun _=> ?_)
 ·
  exact gR rfl rfl rfl
 ·
  refine gK (b2m _ _ _) rfl rfl rfl fun v3=> ?_
  refine gM (fun j2=> [.b 3 [.int .i64 j2.1,.sl 2 j2.2.1,.int .i64 j2.2.2.1,.sl 2 j2.2.2.2]]) rfl (fun _=>rfl) (fun J2 hJ2=> ?_) (fun j2=> ?_)
  ·
   refine gD rfl (fun _=> ?_) (fun _=> ?_)
   ·
    exact gX hJ2 rfl (by kernel_rfl)
   ·
    exact gX hJ2 rfl (by kernel_rfl)
  obtain⟨f1,f2,f3,f4⟩:=j2;dsimp only
  refine gHs [(5,(pL [0,2,6,8,5,11,13,15,17] .nil))] rfl (by kernel_rfl) rfl rfl fun Ky=> ?_
  refine gK (b8b _ _) rfl rfl rfl fun v4=> ?_
  refine gK (b8b _ _) rfl rfl rfl fun v5=> ?_
  refine gHe rfl ?_
  exact gR rfl rfl rfl
theorem d4s(n:Nat)(ax1:Frac)(b1:Frac):FnC Wt 174 [.agg [.int .i64 ax1.P.Sign,.sl 2 ax1.P.Digits,.int .i64 ax1.Q.Sign,.sl 2 ax1.Q.Digits],.agg [.int .i64 b1.P.Sign,.sl 2 b1.P.Digits,.int .i64 b1.Q.Sign,.sl 2 b1.Q.Digits]] (b8s n ax1 b1) (fun r=> .tup [.agg [.int .i64 r.1.P.Sign,.sl 2 r.1.P.Digits,.int .i64 r.1.Q.Sign,.sl 2 r.1.Q.Digits],.int .i64 r.2]):=by
 refine a1l (n:=11) Tryz.func174 rfl rfl rfl (fun _ _=>by kernel_rfl) fun F0 w0 r=> ?_
 unfold b8s
 refine gK (b9j _ _ _ _) rfl rfl rfl fun v1=> ?_
 exact gR rfl rfl rfl
theorem c5q(n:Nat)(ax1:Frac)(b1:Frac):FnC Wt 48 [.agg [.int .i64 ax1.P.Sign,.sl 2 ax1.P.Digits,.int .i64 ax1.Q.Sign,.sl 2 ax1.Q.Digits],.agg [.int .i64 b1.P.Sign,.sl 2 b1.P.Digits,.int .i64 b1.Q.Sign,.sl 2 b1.Q.Digits]] (b3f n ax1 b1) (fun r=> .tup [.agg [.int .i64 r.1.P.Sign,.sl 2 r.1.P.Digits,.int .i64 r.1.Q.Sign,.sl 2 r.1.Q.Digits],.int .i64 r.2]):=by
 refine a1l (n:=11) Tryz.func48 rfl rfl rfl (fun _ _=>by kernel_rfl) fun F0 w0 r=> ?_
 unfold b3f
 refine gK (b9j _ _ _ _) rfl rfl rfl fun v1=> ?_
 exact gR rfl rfl rfl
theorem c7z(n:Nat):∀(x1:Expr)(nx1:Int)(levels1:Int),FnC Wt 67 [.agg [.int .i64 x1.Op,.int .i64 x1.N,.str x1.Name,.sl 0 x1.Args],.int .i64 nx1,.int .i64 levels1] (ref35_size n x1 nx1 levels1) (fun r=> .int .i64 r):=by
 induction n with
 |zero=>exact fun _ _ _=>b9q (fun _ _=>by kernel_rfl)
 |succ n ih=>
  intro x1 nx1 levels1
  refine a1l (n:=33) Tryz.func67 rfl rfl rfl (fun _ _=>by kernel_rfl) fun F0 w0 r=> ?_
  rw [ref35_size_s]
  refine gC rfl (fun _=> ?_) (fun _=> ?_)
  ·
   exact gR rfl rfl rfl
  ·
   refine a3m ((fun k0 m(s:Int×Int)=>ref35_size_L1 n (ref35_size n) x1 levels1 k0 m s.1 s.2) _) (fun(s:Int×Int)=> [.v 1 (.int .i64 s.1),.v 7 (.int .i64 s.2)]) (fun _=>rfl) (_,_) rfl rfl (fun _=>rfl) rfl fun K1 m1 hK1 z1=> ?_
   obtain⟨nx2,i1⟩:=z1;dsimp only
   refine gJ 3 (fun v1=> [.v 20 (.ob v1)]) rfl (fun _=>rfl) (fun J2 hJ2=> ?_) (fun v1=> ?_)
   ·
    refine gD rfl (fun _=> ?_) (fun _=> ?_)
    ·
     exact gX hJ2 rfl (by kernel_rfl)
    ·
     exact gX hJ2 rfl (by kernel_rfl)
   refine gC rfl (fun _=> ?_) (fun _=> ?_)
   ·
    refine gV rfl fun ex1=> ?_
    refine gK (ih _ _ _) rfl rfl rfl fun v2=> ?_
    exact gE hK1 (_,_) rfl (by kernel_rfl)
   ·
    exact gR rfl rfl rfl
theorem b3g(n:Nat)(x1:Expr)(nodes1:Int)(levels1:Int):FnC Wt 28 [.agg [.int .i64 x1.Op,.int .i64 x1.N,.str x1.Name,.sl 0 x1.Args],.int .i64 nodes1,.int .i64 levels1] (a5c n x1 nodes1 levels1) (fun r=> .ob r):=by
 refine a1l (n:=12) Tryz.func28 rfl rfl rfl (fun _ _=>by kernel_rfl) fun F0 w0 r=> ?_
 unfold a5c
 refine gK (c7z _ _ _ _) rfl rfl rfl fun v1=> ?_
 exact gR rfl rfl rfl
theorem c4r(n:Nat):∀(x1:Expr)(levels1:Int)(left1:Int),FnL Wt 129 3 [.int .i64 left1] [.agg [.int .i64 x1.Op,.int .i64 x1.N,.str x1.Name,.sl 0 x1.Args],.int .i64 levels1,.bx 0 0] (tariff_sized n x1 levels1 left1) (fun r=> [.int .i64 r.1]) (fun r=> .ob r.2):=by
 induction n with
 |zero=>exact fun _ _ _=>d3v (fun _ _=>by kernel_rfl)
 |succ n ih=>
  intro x1 levels1 left1
  refine b6o (n:=36) Tryz.func129 rfl rfl rfl (fun _ _=>by kernel_rfl) fun F0 w0 b r=> ?_
  rw [tariff_sized_s]
  refine gJ 5 (fun v1=> [.v 21 (.ob v1)]) rfl (fun _=>rfl) (fun J1 hJ1=> ?_) (fun v1=> ?_)
  ·
   refine gD rfl (fun _=> ?_) (fun _=> ?_)
   ·
    exact gX hJ1 rfl (by kernel_rfl)
   ·
    exact gX hJ1 rfl (by kernel_rfl)
  refine gC rfl (fun _=> ?_) (fun _=> ?_)
  ·
   exact gRL rfl rfl rfl rfl rfl
  ·
   refine a3m ((fun k0 m(s:Int×Int)=>tariff_sized_L1 n (tariff_sized n) x1 levels1 k0 m s.1 s.2) _) (fun(s:Int×Int)=> [.b 2 [.int .i64 s.2],.v 25 (.int .i64 s.1)]) (fun _=>rfl) (_,_) rfl rfl (fun _=>rfl) rfl fun K2 m2 hK2 z2=> ?_
   obtain⟨i1,f1⟩:=z2;dsimp only
   refine gC rfl (fun _=> ?_) (fun _=> ?_)
   ·
    refine gV rfl fun ex1=> ?_
    refine gN (ih _ _ _) rfl rfl rfl rfl rfl fun v2=> ?_
    refine gC rfl (fun _=> ?_) (fun _=> ?_)
    ·
     exact gRL rfl rfl rfl rfl rfl
    ·
     exact gE hK2 (_,_) rfl (by kernel_rfl)
   ·
    exact gRL rfl rfl rfl rfl rfl
theorem a4o(n:Nat)(s1:(List Bs))(v1:Bs):FnC Wt 76 [.sl 1 s1,.str v1] (a0r n s1 v1) (fun r=> .int .i64 r):=by
 refine a1l (n:=19) Tryz.func76 rfl rfl rfl (fun _ _=>by kernel_rfl) fun F0 w0 r=> ?_
 unfold a0r
 refine a3m ((fun k0 m(s:Int)=>slices_Index_string_string_L1 n s1 v1 k0 m s) _) (fun(s:Int)=> [.v 8 (.int .i64 s)]) (fun _=>rfl) _ rfl rfl (fun _=>rfl) rfl fun K1 m1 hK1 i1=> ?_
 refine gC rfl (fun _=> ?_) (fun _=> ?_)
 ·
  refine gV rfl fun ex1=> ?_
  refine gC rfl (fun _=> ?_) (fun _=> ?_)
  ·
   exact gR rfl rfl rfl
  ·
   exact gE hK1 _ rfl (by kernel_rfl)
 ·
  exact gR rfl rfl rfl
theorem a3x(n:Nat)(s1:(List Bs))(v1:Bs):FnC Wt 114 [.sl 1 s1,.str v1] (a1b n s1 v1) (fun r=> .ob r):=by
 refine a1l (n:=9) Tryz.func114 rfl rfl rfl (fun _ _=>by kernel_rfl) fun F0 w0 r=> ?_
 unfold a1b
 refine gK (a4o _ _ _) rfl rfl rfl fun v2=> ?_
 exact gR rfl rfl rfl
theorem b6x(n:Nat)(l1:(List Bs)):FnC Wt 54 [.sl 1 l1] (b0m n l1) (fun r=> .ob r):=by
 refine a1l (n:=26) Tryz.func54 rfl rfl rfl (fun _ _=>by kernel_rfl) fun F0 w0 r=> ?_
 unfold b0m
 refine a3m ((fun k0 m(s:Int)=>tariff_named_L1 n l1 k0 m s) _) (fun(s:Int)=> [.v 7 (.int .i64 s)]) (fun _=>rfl) _ rfl rfl (fun _=>rfl) rfl fun K1 m1 hK1 i1=> ?_
 refine gC rfl (fun _=> ?_) (fun _=> ?_)
 ·
  refine gV rfl fun ex1=> ?_
  refine gK (b2a _ _) rfl rfl rfl fun v1=> ?_
  refine gJ 6 (fun v2=> [.v 21 (.ob v2)]) rfl (fun _=>rfl) (fun J2 hJ2=> ?_) (fun v2=> ?_)
  ·
   refine gD rfl (fun _=> ?_) (fun _=> ?_)
   ·
    exact gX hJ2 rfl (by kernel_rfl)
   ·
    refine gA ?_
    refine gV rfl fun l2=> ?_
    refine gA ?_
    refine gK (a3x _ _ _) rfl rfl rfl fun v3=> ?_
    exact gX hJ2 rfl (by kernel_rfl)
  refine gC rfl (fun _=> ?_) (fun _=> ?_)
  ·
   exact gR rfl rfl rfl
  ·
   exact gE hK1 _ rfl (by kernel_rfl)
 ·
  exact gR rfl rfl rfl
theorem b0s(n:Nat)(ax1:Int)(b1:Int):FnC Wt 116 [.int .i64 ax1,.int .i64 b1] (a1n n ax1 b1) (fun r=> .tup [.int .i64 r.1,.int .i64 r.2]):=by
 refine a1l (n:=20) Tryz.func116 rfl rfl rfl (fun _ _=>by kernel_rfl) fun F0 w0 r=> ?_
 unfold a1n
 refine gJ 3 (fun v1=> [.v 12 (.ob v1)]) rfl (fun _=>rfl) (fun J1 hJ1=> ?_) (fun v1=> ?_)
 ·
  refine gD rfl (fun _=> ?_) (fun _=> ?_)
  ·
   exact gX hJ1 rfl (by kernel_rfl)
  ·
   exact gX hJ1 rfl (by kernel_rfl)
 refine gC rfl (fun _=> ?_) (fun _=> ?_)
 ·
  exact gR rfl rfl rfl
 ·
  refine gJ 3 (fun v2=> [.v 19 (.ob v2)]) rfl (fun _=>rfl) (fun J2 hJ2=> ?_) (fun v2=> ?_)
  ·
   refine gD rfl (fun _=> ?_) (fun _=> ?_)
   ·
    exact gX hJ2 rfl (by kernel_rfl)
   ·
    exact gX hJ2 rfl (by kernel_rfl)
  refine gC rfl (fun _=> ?_) (fun _=> ?_)
  ·
   exact gR rfl rfl rfl
  ·
   exact gR rfl rfl rfl
theorem c6x(n:Nat)(op1:Int):FnC Wt 183 [.int .i64 op1] (a9t n op1) (fun r=> .int .i64 r):=by
 refine a1l (n:=12) Tryz.func183 rfl rfl rfl (fun _ _=>by kernel_rfl) fun F0 w0 r=> ?_
 unfold a9t
 refine gC rfl (fun _=> ?_) (fun _=> ?_)
 ·
  exact gR rfl rfl rfl
 ·
  refine gC rfl (fun _=> ?_) (fun _=> ?_)
  ·
   exact gR rfl rfl rfl
  ·
   refine gC rfl (fun _=> ?_) (fun _=> ?_)
   ·
    exact gR rfl rfl rfl
   ·
    exact gR rfl rfl rfl
theorem c4u(n:Nat)(nx1:Int)(cap1:Int):FnC Wt 178 [.int .i64 nx1,.fb [.int .i64 cap1] 0] (b2i n nx1 cap1) (fun r=> .ob r):=by
 refine a1l (n:=7) Tryz.func178 rfl rfl rfl (fun _ _=>by kernel_rfl) fun F0 w0 r=> ?_
 unfold b2i
 exact gR rfl rfl rfl
theorem b1y(n:Nat)(s1:(List Int))(f1:(Int->Option Bool)):FnH Wt 171 [.sl 2 s1] ⟨Int,Bool,fun q=> [.int .i64 q],fun q=>f1 q,fun r=> .ob r⟩ (a4f n s1 f1) (fun r=> .int .i64 r):=by
 refine b2v (n:=19) Tryz.func171 rfl rfl rfl (fun _ _=>by kernel_rfl) fun F0 w0 r u=> ?_
 unfold a4f
 refine a3m ((fun k0 m(s:Int)=>slices_IndexFunc_int_int_L1 n s1 f1 k0 m s) _) (fun(s:Int)=> [.v 8 (.int .i64 s)]) (fun _=>rfl) _ rfl rfl (fun _=>rfl) rfl fun K1 m1 hK1 i1=> ?_
 refine gC rfl (fun _=> ?_) (fun _=> ?_)
 ·
  refine gV rfl fun ex1=> ?_
  refine gKv (T:=Wt) (Φ:=⟨Int,Bool,fun q=> [.int .i64 q],fun q=>f1 q,fun r=> .ob r⟩) (u:=u) ex1 rfl rfl rfl fun v1=> ?_
  refine gC rfl (fun _=> ?_) (fun _=> ?_)
  ·
   exact gR rfl rfl rfl
  ·
   exact gE hK1 _ rfl (by kernel_rfl)
 ·
  exact gR rfl rfl rfl
theorem a6s(n:Nat)(s1:(List Int))(f1:(Int->Option Bool)):FnH Wt 109 [.sl 2 s1] ⟨Int,Bool,fun q=> [.int .i64 q],fun q=>f1 q,fun r=> .ob r⟩ (a2i n s1 f1) (fun r=> .ob r):=by
 refine b2v (n:=9) Tryz.func109 rfl rfl rfl (fun _ _=>by kernel_rfl) fun F0 w0 r u=> ?_
 unfold a2i
 refine gKh (FnH.up (b1y n _ f1)) rfl rfl rfl b6b fun v1=> ?_
 exact gR rfl rfl rfl
theorem b0j(n:Nat)(k1:Int)(l1:(List Int))(want1:Int):FnC Wt 115 [.int .i64 k1,.sl 2 l1,.int .i64 want1] (a3r n k1 l1 want1) (fun r=> .tup [.int .i64 r.1,.int .i64 r.2]):=by
 refine a1l (n:=12) Tryz.func115 rfl rfl rfl (fun _ _=>by kernel_rfl) fun F0 w0 r=> ?_
 unfold a3r
 refine gFc rfl rfl ?_
 refine gKh (a6s n _ (fun(q0:Int)=>b2i n q0 want1)) rfl rfl rfl (fvA rfl rfl (fun q=>c4u n q want1) default) fun v1=> ?_
 refine gC rfl (fun _=> ?_) (fun _=> ?_)
 ·
  exact gR rfl rfl rfl
 ·
  exact gR rfl rfl rfl
theorem b6p(n:Nat):∀(x1:Expr)(names1:(List Bs)),FnC Wt 56 [.agg [.int .i64 x1.Op,.int .i64 x1.N,.str x1.Name,.sl 0 x1.Args],.sl 1 names1] (tariff_typed n x1 names1) (fun r=> .tup [.int .i64 r.1,.int .i64 r.2]):=by
 induction n with
 |zero=>exact fun _ _=>b9q (fun _ _=>by kernel_rfl)
 |succ n ih=>
  intro x1 names1
  refine a1l (n:=113) Tryz.func56 rfl rfl rfl (fun _ _=>by kernel_rfl) fun F0 w0 r=> ?_
  rw [tariff_typed_s]
  refine a3m ((fun k0 m(s:Int×List Int)=>tariff_typed_L1 n (tariff_typed n) x1 names1 k0 m s.1 s.2) _) (fun(s:Int×List Int)=> [.r 6 2 s.2,.v 15 (.int .i64 s.1)]) (fun _=>rfl) (_,_) rfl rfl (fun _=>rfl) rfl fun K1 m1 hK1 z1=> ?_
  obtain⟨i1,l1⟩:=z1;dsimp only
  refine gC rfl (fun _=> ?_) (fun _=> ?_)
  ·
   refine gV rfl fun ex13=> ?_
   refine gK (ih _ _) rfl rfl rfl fun v13=> ?_
   refine gC rfl (fun _=> ?_) (fun _=> ?_)
   ·
    exact gR rfl rfl rfl
   ·
    refine gP rfl fun l3=> ?_
    exact gE hK1 (_,_) rfl (by kernel_rfl)
  ·
   refine gD rfl (fun _=> ?_) (fun _=> ?_)
   ·
    refine gB ?_
    refine gT ?_
    refine gK (a3x _ _ _) rfl rfl rfl fun v2=> ?_
    refine gC rfl (fun _=> ?_) (fun _=> ?_)
    ·
     exact gR rfl rfl rfl
    ·
     refine gC rfl (fun _=> ?_) (fun _=> ?_)
     ·
      exact gR rfl rfl rfl
     ·
      exact gR rfl rfl rfl
   ·
    refine gB ?_
    refine gC rfl (fun _=> ?_) (fun _=> ?_)
    ·
     refine gK (a3x _ _ _) rfl rfl rfl fun v2=> ?_
     refine gC rfl (fun _=> ?_) (fun _=> ?_)
     ·
      exact gR rfl rfl rfl
     ·
      refine gC rfl (fun _=> ?_) (fun _=> ?_)
      ·
       exact gR rfl rfl rfl
      ·
       exact gR rfl rfl rfl
    ·
     refine gD rfl (fun _=> ?_) (fun _=> ?_)
     ·
      refine gB ?_
      refine gT ?_
      exact gR rfl rfl rfl
     ·
      refine gD rfl (fun _=> ?_) (fun _=> ?_)
      ·
       refine gB ?_
       refine gT ?_
       exact gR rfl rfl rfl
      ·
       refine gB ?_
       refine gC rfl (fun _=> ?_) (fun _=> ?_)
       ·
        exact gR rfl rfl rfl
       ·
        refine gD rfl (fun _=> ?_) (fun _=> ?_)
        ·
         refine gB ?_
         refine gT ?_
         refine gK (b0j _ _ _ _) rfl rfl rfl fun v5=> ?_
         exact gR rfl rfl rfl
        ·
         refine gB ?_
         refine gC rfl (fun _=> ?_) (fun _=> ?_)
         ·
          refine gK (b0j _ _ _ _) rfl rfl rfl fun v5=> ?_
          exact gR rfl rfl rfl
         ·
          refine gD rfl (fun _=> ?_) (fun _=> ?_)
          ·
           refine gB ?_
           refine gT ?_
           refine gK (b0j _ _ _ _) rfl rfl rfl fun v7=> ?_
           exact gR rfl rfl rfl
          ·
           refine gD rfl (fun _=> ?_) (fun _=> ?_)
           ·
            refine gB ?_
            refine gT ?_
            refine gK (b0j _ _ _ _) rfl rfl rfl fun v7=> ?_
            exact gR rfl rfl rfl
           ·
            refine gB ?_
            refine gC rfl (fun _=> ?_) (fun _=> ?_)
            ·
             refine gK (b0j _ _ _ _) rfl rfl rfl fun v7=> ?_
             exact gR rfl rfl rfl
            ·
             refine gC rfl (fun _=> ?_) (fun _=> ?_)
             ·
              refine gV rfl fun ex1=> ?_
              refine gC rfl (fun _=> ?_) (fun _=> ?_)
              ·
               exact gR rfl rfl rfl
              ·
               refine gG rfl (by kernel_rfl) ?_
               refine gV rfl fun ex2=> ?_
               refine gV rfl fun ex3=> ?_
               refine gQ (b0s _ _ _) rfl rfl rfl (fun _=>rfl) fun v8=> ?_
               exact gR rfl rfl rfl
             ·
              refine gC rfl (fun _=> ?_) (fun _=> ?_)
              ·
               refine gV rfl fun ex4=> ?_
               refine gJ 5 (fun v9=> [.v 91 (.ob v9)]) rfl (fun _=>rfl) (fun J2 hJ2=> ?_) (fun v9=> ?_)
               ·
                refine gD rfl (fun _=> ?_) (fun _=> ?_)
                ·
                 refine gA ?_
                 refine gV rfl fun ex7=> ?_
                 exact gX hJ2 rfl (by kernel_rfl)
                ·
                 exact gX hJ2 rfl (by kernel_rfl)
               refine gC rfl (fun _=> ?_) (fun _=> ?_)
               ·
                exact gR rfl rfl rfl
               ·
                refine gG rfl (by kernel_rfl) ?_
                refine gV rfl fun ex5=> ?_
                refine gV rfl fun ex6=> ?_
                refine gQ (b0s _ _ _) rfl rfl rfl (fun _=>rfl) fun v10=> ?_
                exact gR rfl rfl rfl
              ·
               refine gC rfl (fun _=> ?_) (fun _=> ?_)
               ·
                refine gV rfl fun ex8=> ?_
                refine gC rfl (fun _=> ?_) (fun _=> ?_)
                ·
                 exact gR rfl rfl rfl
                ·
                 refine gC rfl (fun _=> ?_) (fun _=> ?_)
                 ·
                  exact gR rfl rfl rfl
                 ·
                  refine gG rfl (by kernel_rfl) ?_
                  refine gV rfl fun ex9=> ?_
                  refine gV rfl fun ex10=> ?_
                  refine gQ (b0s _ _ _) rfl rfl rfl (fun _=>rfl) fun v11=> ?_
                  exact gR rfl rfl rfl
               ·
                refine gG rfl (by kernel_rfl) ?_
                refine gV rfl fun ex11=> ?_
                refine gV rfl fun ex12=> ?_
                refine gQ (b0s _ _ _) rfl rfl rfl (fun _=>rfl) fun v12=> ?_
                exact gR rfl rfl rfl
theorem a8h(n:Nat)(s1:(List Expr))(f1:(Expr->Option Bool)):FnH Wt 215 [.sl 0 s1] ⟨Expr,Bool,fun q=> [.agg [.int .i64 q.Op,.int .i64 q.N,.str q.Name,.sl 0 q.Args]],fun q=>f1 q,fun r=> .ob r⟩ (a1m n s1 f1) (fun r=> .int .i64 r):=by
 refine b2v (n:=19) Tryz.func215 rfl rfl rfl (fun _ _=>by kernel_rfl) fun F0 w0 r u=> ?_
 unfold a1m
 refine a3m ((fun k0 m(s:Int)=>slices_IndexFunc_api_Expr_api_Expr_L1 n s1 f1 k0 m s) _) (fun(s:Int)=> [.v 8 (.int .i64 s)]) (fun _=>rfl) _ rfl rfl (fun _=>rfl) rfl fun K1 m1 hK1 i1=> ?_
 refine gC rfl (fun _=> ?_) (fun _=> ?_)
 ·
  refine gV rfl fun ex1=> ?_
  refine gKv (T:=Wt) (Φ:=⟨Expr,Bool,fun q=> [.agg [.int .i64 q.Op,.int .i64 q.N,.str q.Name,.sl 0 q.Args]],fun q=>f1 q,fun r=> .ob r⟩) (u:=u) ex1 rfl rfl rfl fun v1=> ?_
  refine gC rfl (fun _=> ?_) (fun _=> ?_)
  ·
   exact gR rfl rfl rfl
  ·
   exact gE hK1 _ rfl (by kernel_rfl)
 ·
  exact gR rfl rfl rfl
theorem a7j(n:Nat)(s1:(List Expr))(f1:(Expr->Option Bool)):FnH Wt 184 [.sl 0 s1] ⟨Expr,Bool,fun q=> [.agg [.int .i64 q.Op,.int .i64 q.N,.str q.Name,.sl 0 q.Args]],fun q=>f1 q,fun r=> .ob r⟩ (a0o n s1 f1) (fun r=> .ob r):=by
 refine b2v (n:=9) Tryz.func184 rfl rfl rfl (fun _ _=>by kernel_rfl) fun F0 w0 r u=> ?_
 unfold a0o
 refine gKh (FnH.up (a8h n _ f1)) rfl rfl rfl b6b fun v1=> ?_
 exact gR rfl rfl rfl
theorem c0z(n:Nat):(∀(x1:Expr),FnC Wt 130 [.agg [.int .i64 x1.Op,.int .i64 x1.N,.str x1.Name,.sl 0 x1.Args]] (tariff_shaped n x1) (fun r=> .ob r))/\(∀(ax1:Expr),FnC Wt 185 [.agg [.int .i64 ax1.Op,.int .i64 ax1.N,.str ax1.Name,.sl 0 ax1.Args]] (tariff_shaped_1 n ax1) (fun r=> .ob r)):=by
 induction n with
 |zero=>exact⟨fun _=>b9q (fun _ _=>by kernel_rfl),fun _=>b9q (fun _ _=>by kernel_rfl)⟩
 |succ n ih=>
  refine⟨?_,?_⟩
  ·intro x1
   refine a1l (n:=62) Tryz.func130 rfl rfl rfl (fun _ _=>by kernel_rfl) fun F0 w0 r=> ?_
   rw [tariff_shaped_s]
   refine gG rfl (by kernel_rfl) ?_
   refine gD rfl (fun _=> ?_) (fun _=> ?_)
   ·
    refine gB ?_
    refine gTb ?_
    refine gB ?_
    refine gT ?_
    exact gR rfl rfl rfl
   ·
    refine gB ?_
    refine gD rfl (fun _=> ?_) (fun _=> ?_)
    ·
     refine gB ?_
     refine gT ?_
     exact gR rfl rfl rfl
    ·
     refine gA ?_
     refine gQ (c6x _ _) rfl rfl rfl (fun _=>rfl) fun v11=> ?_
     refine gB ?_
     refine gC rfl (fun _=> ?_) (fun _=> ?_)
     ·
      exact gR rfl rfl rfl
     ·
      refine gC rfl (fun _=> ?_) (fun _=> ?_)
      ·
       refine gJ 4 (fun v3=> [.v 31 (.ob v3)]) rfl (fun _=>rfl) (fun J1 hJ1=> ?_) (fun v3=> ?_)
       ·
        refine gD rfl (fun _=> ?_) (fun _=> ?_)
        ·
         exact gX hJ1 rfl (by kernel_rfl)
        ·
         exact gX hJ1 rfl (by kernel_rfl)
       refine gJ 4 (fun v4=> [.v 36 (.ob v4)]) rfl (fun _=>rfl) (fun J2 hJ2=> ?_) (fun v4=> ?_)
       ·
        refine gD rfl (fun _=> ?_) (fun _=> ?_)
        ·
         exact gX hJ2 rfl (by kernel_rfl)
        ·
         exact gX hJ2 rfl (by kernel_rfl)
       exact gR rfl rfl rfl
      ·
       refine gD rfl (fun _=> ?_) (fun _=> ?_)
       ·
        refine gB ?_
        refine gT ?_
        refine gJ 4 (fun v6=> [.v 47 (.ob v6)]) rfl (fun _=>rfl) (fun J3 hJ3=> ?_) (fun v6=> ?_)
        ·
         refine gD rfl (fun _=> ?_) (fun _=> ?_)
         ·
          refine gA ?_
          refine gK (b2a _ _) rfl rfl rfl fun v7=> ?_
          exact gX hJ3 rfl (by kernel_rfl)
         ·
          exact gX hJ3 rfl (by kernel_rfl)
        exact gR rfl rfl rfl
       ·
        refine gB ?_
        refine gC rfl (fun _=> ?_) (fun _=> ?_)
        ·
         refine gJ 4 (fun v6=> [.v 47 (.ob v6)]) rfl (fun _=>rfl) (fun J4 hJ4=> ?_) (fun v6=> ?_)
         ·
          refine gD rfl (fun _=> ?_) (fun _=> ?_)
          ·
           refine gA ?_
           refine gK (b2a _ _) rfl rfl rfl fun v7=> ?_
           exact gX hJ4 rfl (by kernel_rfl)
          ·
           exact gX hJ4 rfl (by kernel_rfl)
         exact gR rfl rfl rfl
        ·
         refine gJ 4 (fun v8=> [.v 55 (.ob v8)]) rfl (fun _=>rfl) (fun J5 hJ5=> ?_) (fun v8=> ?_)
         ·
          refine gD rfl (fun _=> ?_) (fun _=> ?_)
          ·
           exact gX hJ5 rfl (by kernel_rfl)
          ·
           exact gX hJ5 rfl (by kernel_rfl)
         refine gJ 5 (fun v9=> [.v 61 (.ob v9)]) rfl (fun _=>rfl) (fun J6 hJ6=> ?_) (fun v9=> ?_)
         ·
          refine gD rfl (fun _=> ?_) (fun _=> ?_)
          ·
           refine gA ?_
           refine gKh (a7j n _ (tariff_shaped_1 n)) rfl rfl rfl (fvA rfl rfl (fun q=>ih.2 q) default) fun v10=> ?_
           exact gX hJ6 rfl (by kernel_rfl)
          ·
           exact gX hJ6 rfl (by kernel_rfl)
         exact gR rfl rfl rfl
  ·intro ax1
   refine a1l (n:=6) Tryz.func185 rfl rfl rfl (fun _ _=>by kernel_rfl) fun F0 w0 r=> ?_
   rw [a8b]
   refine gK (ih.1 _) rfl rfl rfl fun v1=> ?_
   exact gR rfl rfl rfl
theorem c3z(n:Nat)(x1:Expr):FnC Wt 130 [.agg [.int .i64 x1.Op,.int .i64 x1.N,.str x1.Name,.sl 0 x1.Args]] (tariff_shaped n x1) (fun r=> .ob r):=(c0z n).1 x1
theorem b8h(n:Nat)(x1:Expr):FnC Wt 69 [.agg [.int .i64 x1.Op,.int .i64 x1.N,.str x1.Name,.sl 0 x1.Args]] (a7l n x1) (fun r=> .ob r):=by
 refine a1l (n:=10) Tryz.func69 rfl rfl rfl (fun _ _=>by kernel_rfl) fun F0 w0 r=> ?_
 unfold a7l
 refine gN (c4r _ _ _ _) rfl rfl rfl rfl rfl fun v1=> ?_
 refine gJ 3 (fun v2=> [.v 9 (.ob v2)]) rfl (fun _=>rfl) (fun J1 hJ1=> ?_) (fun v2=> ?_)
 ·
  refine gD rfl (fun _=> ?_) (fun _=> ?_)
  ·
   refine gA ?_
   refine gK (c3z _ _) rfl rfl rfl fun v3=> ?_
   exact gX hJ1 rfl (by kernel_rfl)
  ·
   exact gX hJ1 rfl (by kernel_rfl)
 exact gR rfl rfl rfl
theorem c0c(n:Nat)(t1:Tariff):FnC Wt 55 [.agg [.str t1.Name,.int .i64 t1.Fee.Op,.int .i64 t1.Fee.N,.str t1.Fee.Name,.sl 0 t1.Fee.Args,.int .i64 t1.Cap]] (a5b n t1) (fun r=> .ob r):=by
 refine a1l (n:=21) Tryz.func55 rfl rfl rfl (fun _ _=>by kernel_rfl) fun F0 w0 r=> ?_
 unfold a5b
 refine gK (b2a _ _) rfl rfl rfl fun v1=> ?_
 refine gJ 4 (fun v2=> [.v 10 (.ob v2)]) rfl (fun _=>rfl) (fun J1 hJ1=> ?_) (fun v2=> ?_)
 ·
  refine gD rfl (fun _=> ?_) (fun _=> ?_)
  ·
   refine gA ?_
   refine gK (b8h _ _) rfl rfl rfl fun v5=> ?_
   exact gX hJ1 rfl (by kernel_rfl)
  ·
   exact gX hJ1 rfl (by kernel_rfl)
 refine gJ 4 (fun v3=> [.v 15 (.ob v3)]) rfl (fun _=>rfl) (fun J2 hJ2=> ?_) (fun v3=> ?_)
 ·
  refine gD rfl (fun _=> ?_) (fun _=> ?_)
  ·
   exact gX hJ2 rfl (by kernel_rfl)
  ·
   exact gX hJ2 rfl (by kernel_rfl)
 refine gJ 4 (fun v4=> [.v 20 (.ob v4)]) rfl (fun _=>rfl) (fun J3 hJ3=> ?_) (fun v4=> ?_)
 ·
  refine gD rfl (fun _=> ?_) (fun _=> ?_)
  ·
   exact gX hJ3 rfl (by kernel_rfl)
  ·
   exact gX hJ3 rfl (by kernel_rfl)
 exact gR rfl rfl rfl
theorem b6n(n:Nat)(t1:Tariff)(names1:(List Bs)):FnC Wt 18 [.agg [.str t1.Name,.int .i64 t1.Fee.Op,.int .i64 t1.Fee.N,.str t1.Fee.Name,.sl 0 t1.Fee.Args,.int .i64 t1.Cap],.sl 1 names1] (a5g n t1 names1) (fun r=> .int .i64 r):=by
 refine a1l (n:=29) Tryz.func18 rfl rfl rfl (fun _ _=>by kernel_rfl) fun F0 w0 r=> ?_
 unfold a5g
 refine gK (b6x _ _) rfl rfl rfl fun v1=> ?_
 refine gC rfl (fun _=> ?_) (fun _=> ?_)
 ·
  exact gR rfl rfl rfl
 ·
  refine gK (c0c _ _) rfl rfl rfl fun v2=> ?_
  refine gC rfl (fun _=> ?_) (fun _=> ?_)
  ·
   exact gR rfl rfl rfl
  ·
   refine gK (b6p _ _ _) rfl rfl rfl fun v3=> ?_
   refine gJ 3 (fun v4=> [.v 27 (.ob v4)]) rfl (fun _=>rfl) (fun J1 hJ1=> ?_) (fun v4=> ?_)
   ·
    refine gD rfl (fun _=> ?_) (fun _=> ?_)
    ·
     exact gX hJ1 rfl (by kernel_rfl)
    ·
     exact gX hJ1 rfl (by kernel_rfl)
   refine gC rfl (fun _=> ?_) (fun _=> ?_)
   ·
    exact gR rfl rfl rfl
   ·
    exact gR rfl rfl rfl
theorem b9k(n:Nat)(x1:Expr)(names1:(List Bs)):FnC Wt 32 [.agg [.int .i64 x1.Op,.int .i64 x1.N,.str x1.Name,.sl 0 x1.Args],.sl 1 names1] (a8u n x1 names1) (fun r=> .tup [.int .i64 r.1,.int .i64 r.2]):=by
 refine a1l (n:=19) Tryz.func32 rfl rfl rfl (fun _ _=>by kernel_rfl) fun F0 w0 r=> ?_
 unfold a8u
 refine gK (b6x _ _) rfl rfl rfl fun v1=> ?_
 refine gC rfl (fun _=> ?_) (fun _=> ?_)
 ·
  exact gR rfl rfl rfl
 ·
  refine gK (b8h _ _) rfl rfl rfl fun v2=> ?_
  refine gC rfl (fun _=> ?_) (fun _=> ?_)
  ·
   exact gR rfl rfl rfl
  ·
   refine gK (b6p _ _ _) rfl rfl rfl fun v3=> ?_
   exact gR rfl rfl rfl
end Go.Proofs.YthaegflpecbfgaaGreatDoor.M
namespace Go.Proofs.YthaegflpecbfgaaGreatDoor.M
open Go Go.RowKit Rt
set_option maxRecDepth 1000000
set_option maxHeartbeats 40000000
theorem c8s(n:Nat)(ax1:Big)(b1:Big):FnC Wt 122 [.agg [.int .i64 ax1.Sign,.sl 2 ax1.Digits],.agg [.int .i64 b1.Sign,.sl 2 b1.Digits]] (b0w n ax1 b1) (fun r=> .ob r):=by
 refine a1l (n:=38) Tryz.func122 rfl rfl rfl (fun _ _=>by kernel_rfl) fun F0 w0 r=> ?_
 unfold b0w
 refine gJ 8 (fun v1=> [.v 19 (.ob v1)]) rfl (fun _=>rfl) (fun J1 hJ1=> ?_) (fun v1=> ?_)
 ·
  refine gD rfl (fun _=> ?_) (fun _=> ?_)
  ·
   exact gX hJ1 rfl (by kernel_rfl)
  ·
   exact gX hJ1 rfl (by kernel_rfl)
 refine gC rfl (fun _=> ?_) (fun _=> ?_)
 ·
  exact gR rfl rfl rfl
 ·
  refine a3m ((fun k0 m(s:Int)=>ref04_Same_L1 n ax1 b1 k0 m s) _) (fun(s:Int)=> [.v 5 (.int .i64 s)]) (fun _=>rfl) _ rfl rfl (fun _=>rfl) rfl fun K2 m2 hK2 i1=> ?_
  refine gC rfl (fun _=> ?_) (fun _=> ?_)
  ·
   refine gG rfl (by kernel_rfl) ?_
   refine gV rfl fun ex1=> ?_
   refine gV rfl fun ex2=> ?_
   refine gC rfl (fun _=> ?_) (fun _=> ?_)
   ·
    exact gR rfl rfl rfl
   ·
    exact gE hK2 _ rfl (by kernel_rfl)
  ·
   exact gR rfl rfl rfl
theorem a2h(n:Nat)(ax1:Big):FnC Wt 117 [.agg [.int .i64 ax1.Sign,.sl 2 ax1.Digits]] (a1v n ax1) (fun r=> .ob r):=by
 refine a1l (n:=56) Tryz.func117 rfl rfl rfl (fun _ _=>by kernel_rfl) fun F0 w0 r=> ?_
 unfold a1v
 refine a3m ((fun k0 m(s:Int)=>a6y n ax1 k0 m s) _) (fun(s:Int)=> [.v 3 (.int .i64 s)]) (fun _=>rfl) _ rfl rfl (fun _=>rfl) rfl fun K1 m1 hK1 i1=> ?_
 refine gC rfl (fun _=> ?_) (fun _=> ?_)
 ·
  refine gV rfl fun ex2=> ?_
  refine gJ 7 (fun v4=> [.v 25 (.ob v4)]) rfl (fun _=>rfl) (fun J2 hJ2=> ?_) (fun v4=> ?_)
  ·
   refine gD rfl (fun _=> ?_) (fun _=> ?_)
   ·
    exact gX hJ2 rfl (by kernel_rfl)
   ·
    refine gA ?_
    refine gV rfl fun ex3=> ?_
    exact gX hJ2 rfl (by kernel_rfl)
  refine gC rfl (fun _=> ?_) (fun _=> ?_)
  ·
   exact gR rfl rfl rfl
  ·
   exact gE hK1 _ rfl (by kernel_rfl)
 ·
  refine gJ 4 (fun v1=> [.v 36 (.ob v1)]) rfl (fun _=>rfl) (fun J3 hJ3=> ?_) (fun v1=> ?_)
  ·
   refine gD rfl (fun _=> ?_) (fun _=> ?_)
   ·
    exact gX hJ3 rfl (by kernel_rfl)
   ·
    exact gX hJ3 rfl (by kernel_rfl)
  refine gJ 7 (fun v2=> [.v 44 (.ob v2)]) rfl (fun _=>rfl) (fun J4 hJ4=> ?_) (fun v2=> ?_)
  ·
   refine gD rfl (fun _=> ?_) (fun _=> ?_)
   ·
    exact gX hJ4 rfl (by kernel_rfl)
   ·
    exact gX hJ4 rfl (by kernel_rfl)
  refine gC rfl (fun _=> ?_) (fun _=> ?_)
  ·
   exact gR rfl rfl rfl
  ·
   refine gJ 8 (fun v3=> [.v 55 (.ob v3)]) rfl (fun _=>rfl) (fun J5 hJ5=> ?_) (fun v3=> ?_)
   ·
    refine gD rfl (fun _=> ?_) (fun _=> ?_)
    ·
     exact gX hJ5 rfl (by kernel_rfl)
    ·
     refine gA ?_
     refine gV rfl fun ex1=> ?_
     exact gX hJ5 rfl (by kernel_rfl)
   exact gR rfl rfl rfl
theorem a7k(n:Nat)(l1:(List Int)):FnO Wt 180 [.sl 2 l1] (a2j n l1) 3 1 2 (fun r=>r):=by
 refine b7b (n:=23) Tryz.func180 rfl rfl rfl (fun _ _=>by kernel_rfl) fun F0 w0 r=> ?_
 unfold a2j
 refine a3m ((fun k0 m(s:Int)=>a7p n l1 k0 m s) _) (fun(s:Int)=> [.v 3 (.int .i64 s)]) (fun _=>rfl) _ rfl rfl (fun _=>rfl) rfl fun K1 m1 hK1 nx1=> ?_
 refine gJ 7 (fun v1=> [.v 15 (.ob v1)]) rfl (fun _=>rfl) (fun J2 hJ2=> ?_) (fun v1=> ?_)
 ·
  refine gD rfl (fun _=> ?_) (fun _=> ?_)
  ·
   refine gA ?_
   refine gV rfl fun ex1=> ?_
   exact gX hJ2 rfl (by kernel_rfl)
  ·
   exact gX hJ2 rfl (by kernel_rfl)
 refine gC rfl (fun _=> ?_) (fun _=> ?_)
 ·
  exact gE hK1 _ rfl (by kernel_rfl)
 ·
  refine gV rfl fun l2=> ?_
  refine gP rfl fun l3=> ?_
  exact gRO rfl
theorem a3t(n:Nat)(sign1:Int)(l1:(List Int)):FnC Wt 120 [.int .i64 sign1,.sl 2 l1] (a2c n sign1 l1) (fun r=> .agg [.int .i64 r.Sign,.sl 2 r.Digits]):=by
 refine a1l (n:=15) Tryz.func120 rfl rfl rfl (fun _ _=>by kernel_rfl) fun F0 w0 r=> ?_
 unfold a2c
 refine gO (a7k _ _) rfl rfl rfl fun v1=> ?_
 refine gC rfl (fun _=> ?_) (fun _=> ?_)
 ·
  exact gR rfl rfl rfl
 ·
  exact gR rfl rfl rfl
theorem c0k(n:Nat)(nx1:Int):FnC Wt 119 [.int .i64 nx1] (b2l n nx1) (fun r=> .agg [.int .i64 r.Sign,.sl 2 r.Digits]):=by
 refine a1l (n:=28) Tryz.func119 rfl rfl rfl (fun _ _=>by kernel_rfl) fun F0 w0 r=> ?_
 unfold b2l
 refine gC rfl (fun _=> ?_) (fun _=> ?_)
 ·
  exact gR rfl rfl rfl
 ·
  refine gD rfl (fun _=> ?_) (fun _=> ?_)
  ·
   refine gB ?_
   refine a3m ((fun k0 m(s:Int×List Int)=>a9w n k0 m s.1 s.2) _) (fun(s:Int×List Int)=> [.v 0 (.int .i64 s.1),.r 4 2 s.2]) (fun _=>rfl) (_,_) rfl rfl (fun _=>rfl) rfl fun K1 m1 hK1 z1=> ?_
   obtain⟨nx2,l1⟩:=z1;dsimp only
   refine gC rfl (fun _=> ?_) (fun _=> ?_)
   ·
    refine gV rfl fun q1=> ?_
    refine gD rfl (fun _=> ?_) (fun _=> ?_)
    ·
     refine gB ?_
     refine gP rfl fun l3=> ?_
     refine gV rfl fun q2=> ?_
     exact gE hK1 (_,_) rfl (by kernel_rfl)
    ·
     refine gB ?_
     refine gP rfl fun l3=> ?_
     refine gV rfl fun q2=> ?_
     exact gE hK1 (_,_) rfl (by kernel_rfl)
   ·
    refine gK (a3t _ _ _) rfl rfl rfl fun v1=> ?_
    exact gR rfl rfl rfl
  ·
   refine gB ?_
   refine a3m ((fun k0 m(s:Int×List Int)=>a9w n k0 m s.1 s.2) _) (fun(s:Int×List Int)=> [.v 0 (.int .i64 s.1),.r 4 2 s.2]) (fun _=>rfl) (_,_) rfl rfl (fun _=>rfl) rfl fun K2 m2 hK2 z2=> ?_
   obtain⟨nx2,l1⟩:=z2;dsimp only
   refine gC rfl (fun _=> ?_) (fun _=> ?_)
   ·
    refine gV rfl fun q1=> ?_
    refine gD rfl (fun _=> ?_) (fun _=> ?_)
    ·
     refine gB ?_
     refine gP rfl fun l3=> ?_
     refine gV rfl fun q2=> ?_
     exact gE hK2 (_,_) rfl (by kernel_rfl)
    ·
     refine gB ?_
     refine gP rfl fun l3=> ?_
     refine gV rfl fun q2=> ?_
     exact gE hK2 (_,_) rfl (by kernel_rfl)
   ·
    refine gK (a3t _ _ _) rfl rfl rfl fun v1=> ?_
    exact gR rfl rfl rfl
theorem a5k(n:Nat)(l1:(List Int))(i1:Int):FnC Wt 181 [.sl 2 l1,.int .i64 i1] (a4m n l1 i1) (fun r=> .int .i64 r):=by
 refine a1l (n:=13) Tryz.func181 rfl rfl rfl (fun _ _=>by kernel_rfl) fun F0 w0 r=> ?_
 unfold a4m
 refine gC rfl (fun _=> ?_) (fun _=> ?_)
 ·
  refine gV rfl fun ex1=> ?_
  exact gR rfl rfl rfl
 ·
  exact gR rfl rfl rfl
theorem b4r(n:Nat)(ax1:(List Int))(b1:(List Int)):FnC Wt 123 [.sl 2 ax1,.sl 2 b1] (a6g n ax1 b1) (fun r=> .ob r):=by
 refine a1l (n:=30) Tryz.func123 rfl rfl rfl (fun _ _=>by kernel_rfl) fun F0 w0 r=> ?_
 unfold a6g
 refine a3m ((fun k0 m(s:Int)=>a7y n ax1 b1 k0 m s) _) (fun(s:Int)=> [.v 5 (.int .i64 s)]) (fun _=>rfl) _ rfl rfl (fun _=>rfl) rfl fun K1 m1 hK1 i1=> ?_
 refine gC rfl (fun _=> ?_) (fun _=> ?_)
 ·
  refine gK (a5k _ _ _) rfl rfl rfl fun v1=> ?_
  refine gK (a5k _ _ _) rfl rfl rfl fun v2=> ?_
  refine gC rfl (fun _=> ?_) (fun _=> ?_)
  ·
   refine gK (a5k _ _ _) rfl rfl rfl fun v3=> ?_
   refine gK (a5k _ _ _) rfl rfl rfl fun v4=> ?_
   exact gR rfl rfl rfl
  ·
   exact gE hK1 _ rfl (by kernel_rfl)
 ·
  exact gR rfl rfl rfl
theorem c0o(n:Nat)(ax1:(List Int))(b1:(List Int)):FnO Wt 127 [.sl 2 ax1,.sl 2 b1] (a7w n ax1 b1) 3 1 2 (fun r=>r):=by
 refine b7b (n:=43) Tryz.func127 rfl rfl rfl (fun _ _=>by kernel_rfl) fun F0 w0 r=> ?_
 unfold a7w
 refine a3m ((fun k0 m(s:Int×Int×List Int)=>a9c n ax1 b1 k0 m s.1 s.2.1 s.2.2) _) (fun(s:Int×Int×List Int)=> [.r 5 2 s.2.2,.v 6 (.int .i64 s.1),.v 7 (.int .i64 s.2.1)]) (fun _=>rfl) (_,_,_) rfl rfl (fun _=>rfl) rfl fun K1 m1 hK1 z1=> ?_
 obtain⟨carry1,i1,l1⟩:=z1;dsimp only
 refine gJ 5 (fun v2=> [.v 18 (.ob v2)]) rfl (fun _=>rfl) (fun J2 hJ2=> ?_) (fun v2=> ?_)
 ·
  refine gD rfl (fun _=> ?_) (fun _=> ?_)
  ·
   exact gX hJ2 rfl (by kernel_rfl)
  ·
   exact gX hJ2 rfl (by kernel_rfl)
 refine gJ 3 (fun v3=> [.v 22 (.ob v3)]) rfl (fun _=>rfl) (fun J3 hJ3=> ?_) (fun v3=> ?_)
 ·
  refine gD rfl (fun _=> ?_) (fun _=> ?_)
  ·
   exact gX hJ3 rfl (by kernel_rfl)
  ·
   exact gX hJ3 rfl (by kernel_rfl)
 refine gC rfl (fun _=> ?_) (fun _=> ?_)
 ·
  refine gK (a5k _ _ _) rfl rfl rfl fun v4=> ?_
  refine gK (a5k _ _ _) rfl rfl rfl fun v5=> ?_
  refine gV rfl fun q1=> ?_
  refine gP rfl fun l3=> ?_
  refine gV rfl fun q2=> ?_
  exact gE hK1 (_,_,_) rfl (by kernel_rfl)
 ·
  refine gO (a7k _ _) rfl rfl rfl fun v1=> ?_
  exact gRO rfl
theorem b0t(n:Nat)(ax1:(List Int))(b1:(List Int)):FnO Wt 128 [.sl 2 ax1,.sl 2 b1] (a3c n ax1 b1) 3 1 2 (fun r=>r):=by
 refine b7b (n:=35) Tryz.func128 rfl rfl rfl (fun _ _=>by kernel_rfl) fun F0 w0 r=> ?_
 unfold a3c
 refine a3m ((fun k0 m(s:Int×Int×List Int)=>a5v n ax1 b1 k0 m s.1 s.2.1 s.2.2) _) (fun(s:Int×Int×List Int)=> [.r 5 2 s.2.2,.v 6 (.int .i64 s.1),.v 7 (.int .i64 s.2.1)]) (fun _=>rfl) (_,_,_) rfl rfl (fun _=>rfl) rfl fun K1 m1 hK1 z1=> ?_
 obtain⟨borrow1,i1,l1⟩:=z1;dsimp only
 refine gC rfl (fun _=> ?_) (fun _=> ?_)
 ·
  refine gG rfl (by kernel_rfl) ?_
  refine gV rfl fun ex1=> ?_
  refine gQ (a5k _ _ _) rfl rfl rfl (fun _=>rfl) fun v2=> ?_
  refine gM (fun j2=> [.v 6 (.int .i64 j2.1),.v 8 (.int .i64 j2.2)]) rfl (fun _=>rfl) (fun J2 hJ2=> ?_) (fun j2=> ?_)
  ·
   refine gD rfl (fun _=> ?_) (fun _=> ?_)
   ·
    exact gX hJ2 rfl (by kernel_rfl)
   ·
    exact gX hJ2 rfl (by kernel_rfl)
  obtain⟨borrow2,nx1⟩:=j2;dsimp only
  refine gP rfl fun l3=> ?_
  exact gE hK1 (_,_,_) rfl (by kernel_rfl)
 ·
  refine gO (a7k _ _) rfl rfl rfl fun v1=> ?_
  exact gRO rfl
theorem b4c(n:Nat)(ax1:(List Int))(b1:(List Int)):FnO Wt 121 [.sl 2 ax1,.sl 2 b1] (a4n n ax1 b1) 3 1 2 (fun r=>r):=by
 refine b7b (n:=60) Tryz.func121 rfl rfl rfl (fun _ _=>by kernel_rfl) fun F0 w0 r=> ?_
 unfold a4n
 refine gMk wzOk rfl fun l1=> ?_
 refine a3m ((fun k0 m(s:Int×List Int)=>a4r n ax1 b1 k0 m s.1 s.2) _) (fun(s:Int×List Int)=> [.r 5 2 s.2,.v 6 (.int .i64 s.1)]) (fun _=>rfl) (_,_) rfl rfl (fun _=>rfl) rfl fun K1 m1 hK1 z1=> ?_
 obtain⟨i1,l2⟩:=z1;dsimp only
 refine gC rfl (fun _=> ?_) (fun _=> ?_)
 ·
  refine a3m ((fun k0 m(s:Int×Int×List Int)=>a8j n ax1 b1 i1 k0 m s.1 s.2.1 s.2.2) _) (fun(s:Int×Int×List Int)=> [.r 5 2 s.2.2,.v 7 (.int .i64 s.1),.v 8 (.int .i64 s.2.1)]) (fun _=>rfl) (_,_,_) rfl rfl (fun _=>rfl) rfl fun K2 m2 hK2 z2=> ?_
  obtain⟨carry1,k1,l4⟩:=z2;dsimp only
  refine gJ 3 (fun v2=> [.v 29 (.ob v2)]) rfl (fun _=>rfl) (fun J3 hJ3=> ?_) (fun v2=> ?_)
  ·
   refine gD rfl (fun _=> ?_) (fun _=> ?_)
   ·
    exact gX hJ3 rfl (by kernel_rfl)
   ·
    exact gX hJ3 rfl (by kernel_rfl)
  refine gC rfl (fun _=> ?_) (fun _=> ?_)
  ·
   refine gG rfl (by kernel_rfl) ?_
   refine gV rfl fun ex1=> ?_
   refine gV rfl fun ex2=> ?_
   refine gQ (a5k _ _ _) rfl rfl rfl (fun _=>rfl) fun v3=> ?_
   refine gV rfl fun q1=> ?_
   refine gV rfl fun _=> ?_
   refine gW rfl rfl fun l6=> ?_
   refine gV rfl fun q2=> ?_
   exact gE hK2 (_,_,_) rfl (by kernel_rfl)
  ·
   exact gE hK1 (_,_) rfl (by kernel_rfl)
 ·
  refine gO (a7k _ _) rfl rfl rfl fun v1=> ?_
  exact gRO rfl
theorem c0x(n:Nat)(ax1:(List Int))(b1:(List Int)):FnC Wt 179 [.sl 2 ax1,.sl 2 b1] (a8w n ax1 b1) (fun r=> .tup [.sl 2 r.1,.sl 2 r.2]):=by
 refine a1l (n:=60) Tryz.func179 rfl rfl rfl (fun _ _=>by kernel_rfl) fun F0 w0 r=> ?_
 unfold a8w
 refine gMk wzOk rfl fun l1=> ?_
 refine a3m ((fun k0 m(s:(List Int)×Int×List Int)=>a6n n ax1 b1 k0 m s.1 s.2.1 s.2.2) _) (fun(s:(List Int)×Int×List Int)=> [.r 6 2 s.2.2,.v 7 (.sl 2 s.1),.v 8 (.int .i64 s.2.1)]) (fun _=>rfl) (_,_,_) rfl rfl (fun _=>rfl) rfl fun K1 m1 hK1 z1=> ?_
 obtain⟨rx1,i1,l2⟩:=z1;dsimp only
 refine gC rfl (fun _=> ?_) (fun _=> ?_)
 ·
  refine gV rfl fun ex1=> ?_
  refine gP rfl fun l4=> ?_
  refine gO (a7k _ _) rfl rfl rfl fun v2=> ?_
  refine gFr 7 rfl ?_
  refine a3m ((fun k0 m(s:Int×Int)=>a7r n b1 v2 k0 m s.1 s.2) _) (fun(s:Int×Int)=> [.v 9 (.int .i64 s.1),.v 10 (.int .i64 s.2)]) (fun _=>rfl) (_,_) rfl rfl (fun _=>rfl) rfl fun K2 m2 hK2 z2=> ?_
  obtain⟨lo1,hi1⟩:=z2;dsimp only
  refine gC rfl (fun _=> ?_) (fun _=> ?_)
  ·
   refine gV rfl fun q1=> ?_
   refine gO (b4c _ _ _) rfl rfl rfl fun v6=> ?_
   refine gK (b4r _ _ _) rfl rfl rfl fun v7=> ?_
   refine gC rfl (fun _=> ?_) (fun _=> ?_)
   ·
    exact gE hK2 (_,_) rfl (by kernel_rfl)
   ·
    exact gE hK2 (_,_) rfl (by kernel_rfl)
  ·
   refine gV rfl fun _=> ?_
   refine gW rfl rfl fun l5=> ?_
   refine gO (a7k _ _) rfl rfl rfl fun v3=> ?_
   refine gO (b4c _ _ _) rfl rfl rfl fun v4=> ?_
   refine gO (b0t _ _ _) rfl rfl rfl fun v5=> ?_
   refine gFr 7 rfl ?_
   exact gE hK1 (_,_,_) rfl (by kernel_rfl)
 ·
  refine gO (a7k _ _) rfl rfl rfl fun v1=> ?_
  exact gR rfl rfl rfl
theorem b5b(n:Nat)(ax1:Big)(b1:Big):FnC Wt 63 [.agg [.int .i64 ax1.Sign,.sl 2 ax1.Digits],.agg [.int .i64 b1.Sign,.sl 2 b1.Digits]] (a7x n ax1 b1) (fun r=> .int .i64 r):=by
 refine a1l (n:=37) Tryz.func63 rfl rfl rfl (fun _ _=>by kernel_rfl) fun F0 w0 r=> ?_
 unfold a7x
 refine gK (a2h _ _) rfl rfl rfl fun v1=> ?_
 refine gJ 4 (fun v2=> [.v 12 (.ob v2)]) rfl (fun _=>rfl) (fun J1 hJ1=> ?_) (fun v2=> ?_)
 ·
  refine gD rfl (fun _=> ?_) (fun _=> ?_)
  ·
   exact gX hJ1 rfl (by kernel_rfl)
  ·
   refine gA ?_
   refine gK (a2h _ _) rfl rfl rfl fun v6=> ?_
   exact gX hJ1 rfl (by kernel_rfl)
 refine gJ 4 (fun v3=> [.v 17 (.ob v3)]) rfl (fun _=>rfl) (fun J2 hJ2=> ?_) (fun v3=> ?_)
 ·
  refine gD rfl (fun _=> ?_) (fun _=> ?_)
  ·
   exact gX hJ2 rfl (by kernel_rfl)
  ·
   refine gA ?_
   refine gK (c8s _ _ _) rfl rfl rfl fun v5=> ?_
   exact gX hJ2 rfl (by kernel_rfl)
 refine gC rfl (fun _=> ?_) (fun _=> ?_)
 ·
  exact gR rfl rfl rfl
 ·
  refine gC rfl (fun _=> ?_) (fun _=> ?_)
  ·
   refine gC rfl (fun _=> ?_) (fun _=> ?_)
   ·
    exact gR rfl rfl rfl
   ·
    exact gR rfl rfl rfl
  ·
   refine gG rfl (by kernel_rfl) ?_
   refine gQ (b4r _ _ _) rfl rfl rfl (fun _=>rfl) fun v4=> ?_
   refine gC rfl (fun _=> ?_) (fun _=> ?_)
   ·
    exact gR rfl rfl rfl
   ·
    exact gR rfl rfl rfl
theorem b7e(n:Nat)(ax1:Big):FnC Wt 125 [.agg [.int .i64 ax1.Sign,.sl 2 ax1.Digits]] (b1p n ax1) (fun r=> .agg [.int .i64 r.Sign,.sl 2 r.Digits]):=by
 refine a1l (n:=13) Tryz.func125 rfl rfl rfl (fun _ _=>by kernel_rfl) fun F0 w0 r=> ?_
 unfold b1p
 refine gK (a2h _ _) rfl rfl rfl fun v1=> ?_
 refine gC rfl (fun _=> ?_) (fun _=> ?_)
 ·
  exact gR rfl rfl rfl
 ·
  refine gK (a3t _ _ _) rfl rfl rfl fun v2=> ?_
  exact gR rfl rfl rfl
theorem c4e(n:Nat)(ax1:Big)(b1:Big):FnC Wt 68 [.agg [.int .i64 ax1.Sign,.sl 2 ax1.Digits],.agg [.int .i64 b1.Sign,.sl 2 b1.Digits]] (b3a n ax1 b1) (fun r=> .tup [.agg [.int .i64 r.1.Sign,.sl 2 r.1.Digits],.int .i64 r.2]):=by
 refine a1l (n:=62) Tryz.func68 rfl rfl rfl (fun _ _=>by kernel_rfl) fun F0 w0 r=> ?_
 unfold b3a
 refine gK (a2h _ _) rfl rfl rfl fun v1=> ?_
 refine gJ 4 (fun v2=> [.v 13 (.ob v2)]) rfl (fun _=>rfl) (fun J1 hJ1=> ?_) (fun v2=> ?_)
 ·
  refine gD rfl (fun _=> ?_) (fun _=> ?_)
  ·
   exact gX hJ1 rfl (by kernel_rfl)
  ·
   refine gA ?_
   refine gK (a2h _ _) rfl rfl rfl fun v12=> ?_
   exact gX hJ1 rfl (by kernel_rfl)
 refine gC rfl (fun _=> ?_) (fun _=> ?_)
 ·
  exact gR rfl rfl rfl
 ·
  refine gJ 4 (fun v3=> [.v 22 (.ob v3)]) rfl (fun _=>rfl) (fun J2 hJ2=> ?_) (fun v3=> ?_)
  ·
   refine gD rfl (fun _=> ?_) (fun _=> ?_)
   ·
    exact gX hJ2 rfl (by kernel_rfl)
   ·
    exact gX hJ2 rfl (by kernel_rfl)
  refine gJ 6 (fun v4=> [.v 29 (.ob v4)]) rfl (fun _=>rfl) (fun J3 hJ3=> ?_) (fun v4=> ?_)
  ·
   refine gD rfl (fun _=> ?_) (fun _=> ?_)
   ·
    exact gX hJ3 rfl (by kernel_rfl)
   ·
    exact gX hJ3 rfl (by kernel_rfl)
  refine gC rfl (fun _=> ?_) (fun _=> ?_)
  ·
   refine gHs [(4,(pL [0,2,4,6,8,10,12,14,16,19,21,23,25] .nil)),(6,(pL [0,2,4,6,8,10,13,15,17,19] .nil)),(7,(pL [0,2,4,6,8,10,13,15,17,19] .nil))] rfl (by kernel_rfl) rfl rfl fun Ky=> ?_
   refine gO (c0o _ _ _) rfl rfl rfl fun v5=> ?_
   refine gK (a3t _ _ _) rfl rfl rfl fun v6=> ?_
   refine gHe rfl ?_
   exact gR rfl rfl rfl
  ·
   refine gK (b4r _ _ _) rfl rfl rfl fun v7=> ?_
   refine gC rfl (fun _=> ?_) (fun _=> ?_)
   ·
    refine gHs [(4,(pL [0,2,4,6,8,10,12,14,16,19,21,23,25] .nil)),(6,(pL [0,2,4,6,8,10,13,15,17,19] .nil)),(7,(pL [0,2,4,6,8,10,13,15,17,19] .nil))] rfl (by kernel_rfl) rfl rfl fun Ky=> ?_
    refine gO (b0t _ _ _) rfl rfl rfl fun v8=> ?_
    refine gK (a3t _ _ _) rfl rfl rfl fun v9=> ?_
    refine gHe rfl ?_
    exact gR rfl rfl rfl
   ·
    refine gHs [(4,(pL [0,2,4,6,8,10,12,14,16,19,21,23,25] .nil)),(6,(pL [0,2,4,6,8,10,13,15,17,19] .nil)),(7,(pL [0,2,4,6,8,10,13,15,17,19] .nil))] rfl (by kernel_rfl) rfl rfl fun Ky=> ?_
    refine gO (b0t _ _ _) rfl rfl rfl fun v10=> ?_
    refine gK (a3t _ _ _) rfl rfl rfl fun v11=> ?_
    refine gHe rfl ?_
    exact gR rfl rfl rfl
theorem d0h(n:Nat)(ax1:Big)(b1:Big):FnC Wt 65 [.agg [.int .i64 ax1.Sign,.sl 2 ax1.Digits],.agg [.int .i64 b1.Sign,.sl 2 b1.Digits]] (b5u n ax1 b1) (fun r=> .tup [.agg [.int .i64 r.1.Sign,.sl 2 r.1.Digits],.int .i64 r.2]):=by
 refine a1l (n:=21) Tryz.func65 rfl rfl rfl (fun _ _=>by kernel_rfl) fun F0 w0 r=> ?_
 unfold b5u
 refine gK (a2h _ _) rfl rfl rfl fun v1=> ?_
 refine gC rfl (fun _=> ?_) (fun _=> ?_)
 ·
  exact gR rfl rfl rfl
 ·
  refine gA ?_
  refine gHs [(3,(pL [0,2] (.two 2 7 (pL [] (.two 3 7 (pL [8,10,12,15,17,19] .nil) (pL [7,9,10,12,17,19] .nil))) (pL [5,7,9,10,12,17,19] .nil))))] rfl (by kernel_rfl) rfl rfl fun Ky=> ?_
  refine gH2 rfl ?_ ?_
  all_goals
   refine gK (b7e _ _) rfl rfl rfl fun v2=> ?_
   refine gA ?_
   try refine gH2 rfl ?_ ?_
   all_goals
    refine gK (c4e _ _ _) rfl rfl rfl fun v3=> ?_
    refine gB ?_
    refine gHe rfl ?_
    exact gR rfl rfl rfl
theorem a7n(n:Nat)(ax1:Big)(b1:Big):FnC Wt 62 [.agg [.int .i64 ax1.Sign,.sl 2 ax1.Digits],.agg [.int .i64 b1.Sign,.sl 2 b1.Digits]] (a5o n ax1 b1) (fun r=> .tup [.agg [.int .i64 r.1.Sign,.sl 2 r.1.Digits],.int .i64 r.2]):=by
 refine a1l (n:=26) Tryz.func62 rfl rfl rfl (fun _ _=>by kernel_rfl) fun F0 w0 r=> ?_
 unfold a5o
 refine gK (a2h _ _) rfl rfl rfl fun v1=> ?_
 refine gJ 4 (fun v2=> [.v 13 (.ob v2)]) rfl (fun _=>rfl) (fun J1 hJ1=> ?_) (fun v2=> ?_)
 ·
  refine gD rfl (fun _=> ?_) (fun _=> ?_)
  ·
   exact gX hJ1 rfl (by kernel_rfl)
  ·
   refine gA ?_
   refine gK (a2h _ _) rfl rfl rfl fun v5=> ?_
   exact gX hJ1 rfl (by kernel_rfl)
 refine gC rfl (fun _=> ?_) (fun _=> ?_)
 ·
  exact gR rfl rfl rfl
 ·
  refine gHs [(3,(pL [0,2,4,6,8,10,12,14,16,19,21,23,25] .nil))] rfl (by kernel_rfl) rfl rfl fun Ky=> ?_
  refine gO (b4c _ _ _) rfl rfl rfl fun v3=> ?_
  refine gK (a3t _ _ _) rfl rfl rfl fun v4=> ?_
  refine gHe rfl ?_
  exact gR rfl rfl rfl
theorem c2h(n:Nat)(ax1:Big)(b1:Big):FnC Wt 126 [.agg [.int .i64 ax1.Sign,.sl 2 ax1.Digits],.agg [.int .i64 b1.Sign,.sl 2 b1.Digits]] (b0i n ax1 b1) (fun r=> .tup [.agg [.int .i64 r.1.Sign,.sl 2 r.1.Digits],.agg [.int .i64 r.2.1.Sign,.sl 2 r.2.1.Digits],.int .i64 r.2.2]):=by
 refine a1l (n:=65) Tryz.func126 rfl rfl rfl (fun _ _=>by kernel_rfl) fun F0 w0 r=> ?_
 unfold b0i
 refine gK (a2h _ _) rfl rfl rfl fun v1=> ?_
 refine gJ 4 (fun v2=> [.v 16 (.ob v2)]) rfl (fun _=>rfl) (fun J1 hJ1=> ?_) (fun v2=> ?_)
 ·
  refine gD rfl (fun _=> ?_) (fun _=> ?_)
  ·
   exact gX hJ1 rfl (by kernel_rfl)
  ·
   refine gA ?_
   refine gK (a2h _ _) rfl rfl rfl fun v11=> ?_
   exact gX hJ1 rfl (by kernel_rfl)
 refine gC rfl (fun _=> ?_) (fun _=> ?_)
 ·
  exact gR rfl rfl rfl
 ·
  refine gC rfl (fun _=> ?_) (fun _=> ?_)
  ·
   exact gR rfl rfl rfl
  ·
   refine gK (c0x _ _ _) rfl rfl rfl fun v3=> ?_
   refine gJ 4 (fun v4=> [.v 42 (.ob v4)]) rfl (fun _=>rfl) (fun J2 hJ2=> ?_) (fun v4=> ?_)
   ·
    refine gD rfl (fun _=> ?_) (fun _=> ?_)
    ·
     exact gX hJ2 rfl (by kernel_rfl)
    ·
     exact gX hJ2 rfl (by kernel_rfl)
   refine gC rfl (fun _=> ?_) (fun _=> ?_)
   ·
    refine gHs [(7,(pL [0,2,4,6,8,10,14,16,18,13,21,23,25,27] .nil)),(8,(pL [0,8,10,12,14,16,3,5,7,19,21,23,25,27] .nil))] rfl (by kernel_rfl) rfl rfl fun Ky=> ?_
    refine gK (a3t _ _ _) rfl rfl rfl fun v5=> ?_
    refine gK (a3t _ _ _) rfl rfl rfl fun v6=> ?_
    refine gHe rfl ?_
    exact gR rfl rfl rfl
   ·
    refine gHs [(7,(pL [0,2,4,6,8,10,14,16,18,13,21,23,25,27] .nil)),(8,(pL [0,8,10,12,14,16,3,5,7,19,21,23,25,27] .nil))] rfl (by kernel_rfl) rfl rfl fun Ky=> ?_
    refine gO (c0o _ _ _) rfl rfl rfl fun v7=> ?_
    refine gK (a3t _ _ _) rfl rfl rfl fun v8=> ?_
    refine gO (b0t _ _ _) rfl rfl rfl fun v9=> ?_
    refine gK (a3t _ _ _) rfl rfl rfl fun v10=> ?_
    refine gHe rfl ?_
    exact gR rfl rfl rfl
theorem c3v(n:Nat)(ax1:Big)(b1:Big):FnC Wt 118 [.agg [.int .i64 ax1.Sign,.sl 2 ax1.Digits],.agg [.int .i64 b1.Sign,.sl 2 b1.Digits]] (b1c n ax1 b1) (fun r=> .tup [.agg [.int .i64 r.1.Sign,.sl 2 r.1.Digits],.int .i64 r.2]):=by
 refine a1l (n:=36) Tryz.func118 rfl rfl rfl (fun _ _=>by kernel_rfl) fun F0 w0 r=> ?_
 unfold b1c
 refine gK (a2h _ _) rfl rfl rfl fun v1=> ?_
 refine gJ 4 (fun v2=> [.v 17 (.ob v2)]) rfl (fun _=>rfl) (fun J1 hJ1=> ?_) (fun v2=> ?_)
 ·
  refine gD rfl (fun _=> ?_) (fun _=> ?_)
  ·
   exact gX hJ1 rfl (by kernel_rfl)
  ·
   refine gA ?_
   refine gK (a2h _ _) rfl rfl rfl fun v5=> ?_
   exact gX hJ1 rfl (by kernel_rfl)
 refine gC rfl (fun _=> ?_) (fun _=> ?_)
 ·
  exact gR rfl rfl rfl
 ·
  refine a3m ((fun k0 m(s:(List Int)×(List Int))=>a8v n k0 m s.1 s.2) _) (fun(s:(List Int)×(List Int))=> [.v 6 (.sl 2 s.1),.v 7 (.sl 2 s.2)]) (fun _=>rfl) (_,_) rfl rfl (fun _=>rfl) rfl fun K2 m2 hK2 z2=> ?_
  obtain⟨x1,y1⟩:=z2;dsimp only
  refine gC rfl (fun _=> ?_) (fun _=> ?_)
  ·
   refine gK (c0x _ _ _) rfl rfl rfl fun v4=> ?_
   exact gE hK2 (_,_) rfl (by kernel_rfl)
  ·
   refine gK (a3t _ _ _) rfl rfl rfl fun v3=> ?_
   exact gR rfl rfl rfl
end Go.Proofs.YthaegflpecbfgaaGreatDoor.M
namespace Go.Proofs.YthaegflpecbfgaaGreatDoor.M
open Go Go.RowKit Rt
set_option maxRecDepth 1000000
set_option maxHeartbeats 40000000
theorem a4a(n:Nat)(f1:Frac):FnC Wt 57 [.agg [.int .i64 f1.P.Sign,.sl 2 f1.P.Digits,.int .i64 f1.Q.Sign,.sl 2 f1.Q.Digits]] (a3j n f1) (fun r=> .ob r):=by
 refine a1l (n:=33) Tryz.func57 rfl rfl rfl (fun _ _=>by kernel_rfl) fun F0 w0 r=> ?_
 unfold a3j
 refine gK (a2h _ _) rfl rfl rfl fun v1=> ?_
 refine gJ 5 (fun v2=> [.v 14 (.ob v2)]) rfl (fun _=>rfl) (fun J1 hJ1=> ?_) (fun v2=> ?_)
 ·
  refine gD rfl (fun _=> ?_) (fun _=> ?_)
  ·
   exact gX hJ1 rfl (by kernel_rfl)
  ·
   refine gA ?_
   refine gK (a2h _ _) rfl rfl rfl fun v7=> ?_
   exact gX hJ1 rfl (by kernel_rfl)
 refine gJ 5 (fun v3=> [.v 20 (.ob v3)]) rfl (fun _=>rfl) (fun J2 hJ2=> ?_) (fun v3=> ?_)
 ·
  refine gD rfl (fun _=> ?_) (fun _=> ?_)
  ·
   exact gX hJ2 rfl (by kernel_rfl)
  ·
   exact gX hJ2 rfl (by kernel_rfl)
 refine gC rfl (fun _=> ?_) (fun _=> ?_)
 ·
  exact gR rfl rfl rfl
 ·
  refine gK (c3v _ _ _) rfl rfl rfl fun v4=> ?_
  refine gHs [(4,(pL [0,3,5,7,9] .nil))] rfl (by kernel_rfl) rfl rfl fun Ky=> ?_
  refine gK (c0k _ _) rfl rfl rfl fun v5=> ?_
  refine gK (b5b _ _ _) rfl rfl rfl fun v6=> ?_
  refine gHe rfl ?_
  exact gR rfl rfl rfl
theorem b7x(n:Nat)(p1:Big)(q1:Big):FnC Wt 66 [.agg [.int .i64 p1.Sign,.sl 2 p1.Digits],.agg [.int .i64 q1.Sign,.sl 2 q1.Digits]] (b1d n p1 q1) (fun r=> .tup [.agg [.int .i64 r.1.P.Sign,.sl 2 r.1.P.Digits,.int .i64 r.1.Q.Sign,.sl 2 r.1.Q.Digits],.int .i64 r.2]):=by
 refine a1l (n:=57) Tryz.func66 rfl rfl rfl (fun _ _=>by kernel_rfl) fun F0 w0 r=> ?_
 unfold b1d
 refine gK (a2h _ _) rfl rfl rfl fun v1=> ?_
 refine gJ 4 (fun v2=> [.v 21 (.ob v2)]) rfl (fun _=>rfl) (fun J1 hJ1=> ?_) (fun v2=> ?_)
 ·
  refine gD rfl (fun _=> ?_) (fun _=> ?_)
  ·
   exact gX hJ1 rfl (by kernel_rfl)
  ·
   refine gA ?_
   refine gK (a2h _ _) rfl rfl rfl fun v8=> ?_
   exact gX hJ1 rfl (by kernel_rfl)
 refine gC rfl (fun _=> ?_) (fun _=> ?_)
 ·
  exact gR rfl rfl rfl
 ·
  refine gC rfl (fun _=> ?_) (fun _=> ?_)
  ·
   exact gR rfl rfl rfl
  ·
   refine gM (fun j2=> [.b 2 [.int .i64 j2.2.2.1,.sl 2 j2.2.2.2],.b 3 [.int .i64 j2.1,.sl 2 j2.2.1]]) rfl (fun _=>rfl) (fun J2 hJ2=> ?_) (fun j2=> ?_)
   ·
    refine gD rfl (fun _=> ?_) (fun _=> ?_)
    ·
     refine gA ?_
     refine gK (b7e _ _) rfl rfl rfl fun v6=> ?_
     refine gA ?_
     refine gK (b7e _ _) rfl rfl rfl fun v7=> ?_
     exact gX hJ2 rfl (by kernel_rfl)
    ·
     exact gX hJ2 rfl (by kernel_rfl)
   obtain⟨f1,f2,f3,f4⟩:=j2;dsimp only
   refine gK (c3v _ _ _) rfl rfl rfl fun v3=> ?_
   refine gK (c2h _ _ _) rfl rfl rfl fun v4=> ?_
   refine gK (c2h _ _ _) rfl rfl rfl fun v5=> ?_
   exact gR rfl rfl rfl
theorem d4z(n:Nat)(p1:Int)(q1:Int):FnC Wt 59 [.int .i64 p1,.int .i64 q1] (c7r n p1 q1) (fun r=> .tup [.agg [.int .i64 r.1.P.Sign,.sl 2 r.1.P.Digits,.int .i64 r.1.Q.Sign,.sl 2 r.1.Q.Digits],.int .i64 r.2]):=by
 refine a1l (n:=13) Tryz.func59 rfl rfl rfl (fun _ _=>by kernel_rfl) fun F0 w0 r=> ?_
 unfold c7r
 refine gK (c0k _ _) rfl rfl rfl fun v1=> ?_
 refine gK (c0k _ _) rfl rfl rfl fun v2=> ?_
 refine gK (b7x _ _ _) rfl rfl rfl fun v3=> ?_
 exact gR rfl rfl rfl
theorem d0p(n:Nat)(ax1:Frac)(b1:Frac):FnC Wt 31 [.agg [.int .i64 ax1.P.Sign,.sl 2 ax1.P.Digits,.int .i64 ax1.Q.Sign,.sl 2 ax1.Q.Digits],.agg [.int .i64 b1.P.Sign,.sl 2 b1.P.Digits,.int .i64 b1.Q.Sign,.sl 2 b1.Q.Digits]] (b4q n ax1 b1) (fun r=> .tup [.agg [.int .i64 r.1.P.Sign,.sl 2 r.1.P.Digits,.int .i64 r.1.Q.Sign,.sl 2 r.1.Q.Digits],.int .i64 r.2]):=by
 refine a1l (n:=58) Tryz.func31 rfl rfl rfl (fun _ _=>by kernel_rfl) fun F0 w0 r=> ?_
 unfold b4q
 refine gK (a4a _ _) rfl rfl rfl fun v1=> ?_
 refine gJ 4 (fun v2=> [.v 21 (.ob v2)]) rfl (fun _=>rfl) (fun J1 hJ1=> ?_) (fun v2=> ?_)
 ·
  refine gD rfl (fun _=> ?_) (fun _=> ?_)
  ·
   exact gX hJ1 rfl (by kernel_rfl)
  ·
   refine gA ?_
   refine gK (a4a _ _) rfl rfl rfl fun v8=> ?_
   exact gX hJ1 rfl (by kernel_rfl)
 refine gC rfl (fun _=> ?_) (fun _=> ?_)
 ·
  exact gR rfl rfl rfl
 ·
  refine gK (a7n _ _ _) rfl rfl rfl fun v3=> ?_
  refine gK (a7n _ _ _) rfl rfl rfl fun v4=> ?_
  refine gK (a7n _ _ _) rfl rfl rfl fun v5=> ?_
  refine gK (c4e _ _ _) rfl rfl rfl fun v6=> ?_
  refine gK (b7x _ _ _) rfl rfl rfl fun v7=> ?_
  exact gR rfl rfl rfl
theorem c9y(n:Nat)(ax1:Frac)(b1:Frac):FnC Wt 27 [.agg [.int .i64 ax1.P.Sign,.sl 2 ax1.P.Digits,.int .i64 ax1.Q.Sign,.sl 2 ax1.Q.Digits],.agg [.int .i64 b1.P.Sign,.sl 2 b1.P.Digits,.int .i64 b1.Q.Sign,.sl 2 b1.Q.Digits]] (b4o n ax1 b1) (fun r=> .tup [.agg [.int .i64 r.1.P.Sign,.sl 2 r.1.P.Digits,.int .i64 r.1.Q.Sign,.sl 2 r.1.Q.Digits],.int .i64 r.2]):=by
 refine a1l (n:=58) Tryz.func27 rfl rfl rfl (fun _ _=>by kernel_rfl) fun F0 w0 r=> ?_
 unfold b4o
 refine gK (a4a _ _) rfl rfl rfl fun v1=> ?_
 refine gJ 4 (fun v2=> [.v 21 (.ob v2)]) rfl (fun _=>rfl) (fun J1 hJ1=> ?_) (fun v2=> ?_)
 ·
  refine gD rfl (fun _=> ?_) (fun _=> ?_)
  ·
   exact gX hJ1 rfl (by kernel_rfl)
  ·
   refine gA ?_
   refine gK (a4a _ _) rfl rfl rfl fun v8=> ?_
   exact gX hJ1 rfl (by kernel_rfl)
 refine gC rfl (fun _=> ?_) (fun _=> ?_)
 ·
  exact gR rfl rfl rfl
 ·
  refine gK (a7n _ _ _) rfl rfl rfl fun v3=> ?_
  refine gK (a7n _ _ _) rfl rfl rfl fun v4=> ?_
  refine gK (a7n _ _ _) rfl rfl rfl fun v5=> ?_
  refine gK (d0h _ _ _) rfl rfl rfl fun v6=> ?_
  refine gK (b7x _ _ _) rfl rfl rfl fun v7=> ?_
  exact gR rfl rfl rfl
theorem b7y(n:Nat)(nx1:Int):FnC Wt 26 [.int .i64 nx1] (b1g n nx1) (fun r=> .agg [.int .i64 r.P.Sign,.sl 2 r.P.Digits,.int .i64 r.Q.Sign,.sl 2 r.Q.Digits]):=by
 refine a1l (n:=11) Tryz.func26 rfl rfl rfl (fun _ _=>by kernel_rfl) fun F0 w0 r=> ?_
 unfold b1g
 refine gK (d4z _ _ _) rfl rfl rfl fun v1=> ?_
 exact gR rfl rfl rfl
theorem b4j(n:Nat)(ax1:Frac)(b1:Frac):FnC Wt 23 [.agg [.int .i64 ax1.P.Sign,.sl 2 ax1.P.Digits,.int .i64 ax1.Q.Sign,.sl 2 ax1.Q.Digits],.agg [.int .i64 b1.P.Sign,.sl 2 b1.P.Digits,.int .i64 b1.Q.Sign,.sl 2 b1.Q.Digits]] (a7t n ax1 b1) (fun r=> .int .i64 r):=by
 refine a1l (n:=36) Tryz.func23 rfl rfl rfl (fun _ _=>by kernel_rfl) fun F0 w0 r=> ?_
 unfold a7t
 refine gK (a4a _ _) rfl rfl rfl fun v1=> ?_
 refine gJ 4 (fun v2=> [.v 16 (.ob v2)]) rfl (fun _=>rfl) (fun J1 hJ1=> ?_) (fun v2=> ?_)
 ·
  refine gD rfl (fun _=> ?_) (fun _=> ?_)
  ·
   exact gX hJ1 rfl (by kernel_rfl)
  ·
   refine gA ?_
   refine gK (a4a _ _) rfl rfl rfl fun v6=> ?_
   exact gX hJ1 rfl (by kernel_rfl)
 refine gC rfl (fun _=> ?_) (fun _=> ?_)
 ·
  exact gR rfl rfl rfl
 ·
  refine gK (a7n _ _ _) rfl rfl rfl fun v3=> ?_
  refine gK (a7n _ _ _) rfl rfl rfl fun v4=> ?_
  refine gK (b5b _ _ _) rfl rfl rfl fun v5=> ?_
  exact gR rfl rfl rfl
theorem d0b(n:Nat)(ax1:Frac)(b1:Frac):FnC Wt 29 [.agg [.int .i64 ax1.P.Sign,.sl 2 ax1.P.Digits,.int .i64 ax1.Q.Sign,.sl 2 ax1.Q.Digits],.agg [.int .i64 b1.P.Sign,.sl 2 b1.P.Digits,.int .i64 b1.Q.Sign,.sl 2 b1.Q.Digits]] (b4x n ax1 b1) (fun r=> .tup [.agg [.int .i64 r.1.P.Sign,.sl 2 r.1.P.Digits,.int .i64 r.1.Q.Sign,.sl 2 r.1.Q.Digits],.int .i64 r.2]):=by
 refine a1l (n:=21) Tryz.func29 rfl rfl rfl (fun _ _=>by kernel_rfl) fun F0 w0 r=> ?_
 unfold b4x
 refine gK (a4a _ _) rfl rfl rfl fun v1=> ?_
 refine gJ 4 (fun v2=> [.v 13 (.ob v2)]) rfl (fun _=>rfl) (fun J1 hJ1=> ?_) (fun v2=> ?_)
 ·
  refine gD rfl (fun _=> ?_) (fun _=> ?_)
  ·
   exact gX hJ1 rfl (by kernel_rfl)
  ·
   refine gA ?_
   refine gK (a4a _ _) rfl rfl rfl fun v4=> ?_
   exact gX hJ1 rfl (by kernel_rfl)
 refine gC rfl (fun _=> ?_) (fun _=> ?_)
 ·
  exact gR rfl rfl rfl
 ·
  refine gK (b4j _ _ _) rfl rfl rfl fun v3=> ?_
  refine gC rfl (fun _=> ?_) (fun _=> ?_)
  ·
   exact gR rfl rfl rfl
  ·
   exact gR rfl rfl rfl
theorem d0y(n:Nat)(ax1:Frac)(b1:Frac):FnC Wt 30 [.agg [.int .i64 ax1.P.Sign,.sl 2 ax1.P.Digits,.int .i64 ax1.Q.Sign,.sl 2 ax1.Q.Digits],.agg [.int .i64 b1.P.Sign,.sl 2 b1.P.Digits,.int .i64 b1.Q.Sign,.sl 2 b1.Q.Digits]] (b5e n ax1 b1) (fun r=> .tup [.agg [.int .i64 r.1.P.Sign,.sl 2 r.1.P.Digits,.int .i64 r.1.Q.Sign,.sl 2 r.1.Q.Digits],.int .i64 r.2]):=by
 refine a1l (n:=21) Tryz.func30 rfl rfl rfl (fun _ _=>by kernel_rfl) fun F0 w0 r=> ?_
 unfold b5e
 refine gK (a4a _ _) rfl rfl rfl fun v1=> ?_
 refine gJ 4 (fun v2=> [.v 13 (.ob v2)]) rfl (fun _=>rfl) (fun J1 hJ1=> ?_) (fun v2=> ?_)
 ·
  refine gD rfl (fun _=> ?_) (fun _=> ?_)
  ·
   exact gX hJ1 rfl (by kernel_rfl)
  ·
   refine gA ?_
   refine gK (a4a _ _) rfl rfl rfl fun v4=> ?_
   exact gX hJ1 rfl (by kernel_rfl)
 refine gC rfl (fun _=> ?_) (fun _=> ?_)
 ·
  exact gR rfl rfl rfl
 ·
  refine gK (b4j _ _ _) rfl rfl rfl fun v3=> ?_
  refine gC rfl (fun _=> ?_) (fun _=> ?_)
  ·
   exact gR rfl rfl rfl
  ·
   exact gR rfl rfl rfl
end Go.Proofs.YthaegflpecbfgaaGreatDoor.M
namespace Go.Proofs.YthaegflpecbfgaaGreatDoor.M
open Go Go.RowKit Rt
set_option maxRecDepth 1000000
set_option maxHeartbeats 40000000
theorem c7f(n:Nat)(nx1:Int)(high1:Int):FnC Wt 106 [.int .i64 nx1,.int .i64 high1] (c0v n nx1 high1) (fun r=> .ob r):=by
 refine a1l (n:=12) Tryz.func106 rfl rfl rfl (fun _ _=>by kernel_rfl) fun F0 w0 r=> ?_
 unfold c0v
 refine gJ 4 (fun v1=> [.v 11 (.ob v1)]) rfl (fun _=>rfl) (fun J1 hJ1=> ?_) (fun v1=> ?_)
 ·
  refine gD rfl (fun _=> ?_) (fun _=> ?_)
  ·
   exact gX hJ1 rfl (by kernel_rfl)
  ·
   exact gX hJ1 rfl (by kernel_rfl)
 exact gR rfl rfl rfl
theorem c6k(n:Nat)(k1:Int):FnC Wt 105 [.int .i64 k1] (a8t n k1) (fun r=> .ob r):=by
 refine a1l (n:=6) Tryz.func105 rfl rfl rfl (fun _ _=>by kernel_rfl) fun F0 w0 r=> ?_
 unfold a8t
 refine gK (c7f _ _ _) rfl rfl rfl fun v1=> ?_
 exact gR rfl rfl rfl
theorem c6n(n:Nat)(wx1:Frac):FnC Wt 107 [.agg [.int .i64 wx1.P.Sign,.sl 2 wx1.P.Digits,.int .i64 wx1.Q.Sign,.sl 2 wx1.Q.Digits]] (a8q n wx1) (fun r=> .ob r):=by
 refine a1l (n:=11) Tryz.func107 rfl rfl rfl (fun _ _=>by kernel_rfl) fun F0 w0 r=> ?_
 unfold a8q
 refine gK (a2l _ _) rfl rfl rfl fun v1=> ?_
 refine gJ 4 (fun v2=> [.v 10 (.ob v2)]) rfl (fun _=>rfl) (fun J1 hJ1=> ?_) (fun v2=> ?_)
 ·
  refine gD rfl (fun _=> ?_) (fun _=> ?_)
  ·
   exact gX hJ1 rfl (by kernel_rfl)
  ·
   refine gA ?_
   refine gK (b7u _ _) rfl rfl rfl fun v3=> ?_
   exact gX hJ1 rfl (by kernel_rfl)
 exact gR rfl rfl rfl
theorem a8m(n:Nat)(s1:(List Frac))(f1:(Frac->Option Bool)):FnH Wt 94 [.sl 3 s1] ⟨Frac,Bool,fun q=> [.agg [.int .i64 q.P.Sign,.sl 2 q.P.Digits,.int .i64 q.Q.Sign,.sl 2 q.Q.Digits]],fun q=>f1 q,fun r=> .ob r⟩ (a2p n s1 f1) (fun r=> .int .i64 r):=by
 refine b2v (n:=19) Tryz.func94 rfl rfl rfl (fun _ _=>by kernel_rfl) fun F0 w0 r u=> ?_
 unfold a2p
 refine a3m ((fun k0 m(s:Int)=>slices_IndexFunc_api_Frac_api_Frac_L1 n s1 f1 k0 m s) _) (fun(s:Int)=> [.v 8 (.int .i64 s)]) (fun _=>rfl) _ rfl rfl (fun _=>rfl) rfl fun K1 m1 hK1 i1=> ?_
 refine gC rfl (fun _=> ?_) (fun _=> ?_)
 ·
  refine gV rfl fun ex1=> ?_
  refine gKv (T:=Wt) (Φ:=⟨Frac,Bool,fun q=> [.agg [.int .i64 q.P.Sign,.sl 2 q.P.Digits,.int .i64 q.Q.Sign,.sl 2 q.Q.Digits]],fun q=>f1 q,fun r=> .ob r⟩) (u:=u) ex1 rfl rfl rfl fun v1=> ?_
  refine gC rfl (fun _=> ?_) (fun _=> ?_)
  ·
   exact gR rfl rfl rfl
  ·
   exact gE hK1 _ rfl (by kernel_rfl)
 ·
  exact gR rfl rfl rfl
theorem a2v(n:Nat)(s1:(List Frac))(f1:(Frac->Option Bool)):FnH Wt 45 [.sl 3 s1] ⟨Frac,Bool,fun q=> [.agg [.int .i64 q.P.Sign,.sl 2 q.P.Digits,.int .i64 q.Q.Sign,.sl 2 q.Q.Digits]],fun q=>f1 q,fun r=> .ob r⟩ (a0v n s1 f1) (fun r=> .ob r):=by
 refine b2v (n:=9) Tryz.func45 rfl rfl rfl (fun _ _=>by kernel_rfl) fun F0 w0 r u=> ?_
 unfold a0v
 refine gKh (FnH.up (a8m n _ f1)) rfl rfl rfl b6b fun v1=> ?_
 exact gR rfl rfl rfl
theorem d0x(n:Nat)(f1:Facts)(weights1:(List Frac))(nx1:Int):FnC Wt 51 [.agg [.sl 2 f1.Lifts,.int .i64 f1.Persons,.int .i64 f1.Flats],.sl 3 weights1,.int .i64 nx1] (b5r n f1 weights1 nx1) (fun r=> .ob r):=by
 refine a1l (n:=43) Tryz.func51 rfl rfl rfl (fun _ _=>by kernel_rfl) fun F0 w0 r=> ?_
 unfold b5r
 refine gJ 5 (fun v1=> [.v 19 (.ob v1)]) rfl (fun _=>rfl) (fun J1 hJ1=> ?_) (fun v1=> ?_)
 ·
  refine gD rfl (fun _=> ?_) (fun _=> ?_)
  ·
   exact gX hJ1 rfl (by kernel_rfl)
  ·
   exact gX hJ1 rfl (by kernel_rfl)
 refine gJ 4 (fun v2=> [.v 24 (.ob v2)]) rfl (fun _=>rfl) (fun J2 hJ2=> ?_) (fun v2=> ?_)
 ·
  refine gD rfl (fun _=> ?_) (fun _=> ?_)
  ·
   refine gA ?_
   refine gK (c7f _ _ _) rfl rfl rfl fun v9=> ?_
   exact gX hJ2 rfl (by kernel_rfl)
  ·
   exact gX hJ2 rfl (by kernel_rfl)
 refine gJ 4 (fun v3=> [.v 29 (.ob v3)]) rfl (fun _=>rfl) (fun J3 hJ3=> ?_) (fun v3=> ?_)
 ·
  refine gD rfl (fun _=> ?_) (fun _=> ?_)
  ·
   refine gA ?_
   refine gK (c7f _ _ _) rfl rfl rfl fun v8=> ?_
   exact gX hJ3 rfl (by kernel_rfl)
  ·
   exact gX hJ3 rfl (by kernel_rfl)
 refine gJ 6 (fun v4=> [.v 36 (.ob v4)]) rfl (fun _=>rfl) (fun J4 hJ4=> ?_) (fun v4=> ?_)
 ·
  refine gD rfl (fun _=> ?_) (fun _=> ?_)
  ·
   refine gA ?_
   refine gKh (a6s n _ (a8t n)) rfl rfl rfl (fvA rfl rfl (fun q=>c6k n q) default) fun v7=> ?_
   exact gX hJ4 rfl (by kernel_rfl)
  ·
   exact gX hJ4 rfl (by kernel_rfl)
 refine gJ 5 (fun v5=> [.v 42 (.ob v5)]) rfl (fun _=>rfl) (fun J5 hJ5=> ?_) (fun v5=> ?_)
 ·
  refine gD rfl (fun _=> ?_) (fun _=> ?_)
  ·
   refine gA ?_
   refine gKh (a2v n _ (a8q n)) rfl rfl rfl (fvA rfl rfl (fun q=>c6n n q) default) fun v6=> ?_
   exact gX hJ5 rfl (by kernel_rfl)
  ·
   exact gX hJ5 rfl (by kernel_rfl)
 exact gR rfl rfl rfl
theorem d0z(n:Nat)(f1:Frac):FnC Wt 52 [.agg [.int .i64 f1.P.Sign,.sl 2 f1.P.Digits,.int .i64 f1.Q.Sign,.sl 2 f1.Q.Digits]] (b5c n f1) (fun r=> .agg [.int .i64 r.P.Sign,.sl 2 r.P.Digits,.int .i64 r.Q.Sign,.sl 2 r.Q.Digits]):=by
 refine a1l (n:=16) Tryz.func52 rfl rfl rfl (fun _ _=>by kernel_rfl) fun F0 w0 r=> ?_
 unfold b5c
 refine gA ?_
 refine gHs [(1,(pL [0,2,8,10] (.two 2 6 (pL [] (.two 3 6 (pL [13,16,18,15,21,23,25,27] .nil) (pL [7,16,18,15,21,23,25,27] .nil))) (pL [5,7,16,18,15,21,23,25,27] .nil))))] rfl (by kernel_rfl) rfl rfl fun Ky=> ?_
 refine gH2 rfl ?_ ?_
 all_goals
  try refine gH2 rfl ?_ ?_
  all_goals
   refine gO (a3h _ _) rfl rfl rfl fun v1=> ?_
   refine gA ?_
   refine gO (a3h _ _) rfl rfl rfl fun v2=> ?_
   refine gB ?_
   refine gHe rfl ?_
   exact gR rfl rfl rfl
theorem c3i(n:Nat)(op1:Int)(ax1:Frac)(b1:Frac):FnC Wt 112 [.int .i64 op1,.agg [.int .i64 ax1.P.Sign,.sl 2 ax1.P.Digits,.int .i64 ax1.Q.Sign,.sl 2 ax1.Q.Digits],.agg [.int .i64 b1.P.Sign,.sl 2 b1.P.Digits,.int .i64 b1.Q.Sign,.sl 2 b1.Q.Digits]] (a9n n op1 ax1 b1) (fun r=> .agg [.int .i64 r.P.Sign,.sl 2 r.P.Digits,.int .i64 r.Q.Sign,.sl 2 r.Q.Digits]):=by
 refine a1l (n:=58) Tryz.func112 rfl rfl rfl (fun _ _=>by kernel_rfl) fun F0 w0 r=> ?_
 unfold a9n
 refine gC rfl (fun _=> ?_) (fun _=> ?_)
 ·
  refine gK (b6j _ _ _) rfl rfl rfl fun v1=> ?_
  exact gR rfl rfl rfl
 ·
  refine gC rfl (fun _=> ?_) (fun _=> ?_)
  ·
   refine gK (d4o _ _ _) rfl rfl rfl fun v2=> ?_
   exact gR rfl rfl rfl
  ·
   refine gC rfl (fun _=> ?_) (fun _=> ?_)
   ·
    refine gK (c0a _ _ _) rfl rfl rfl fun v3=> ?_
    exact gR rfl rfl rfl
   ·
    refine gC rfl (fun _=> ?_) (fun _=> ?_)
    ·
     refine gK (d4d _ _ _) rfl rfl rfl fun v4=> ?_
     exact gR rfl rfl rfl
    ·
     refine gC rfl (fun _=> ?_) (fun _=> ?_)
     ·
      refine gK (d4s _ _ _) rfl rfl rfl fun v5=> ?_
      exact gR rfl rfl rfl
     ·
      refine gC rfl (fun _=> ?_) (fun _=> ?_)
      ·
       refine gK (c5q _ _ _) rfl rfl rfl fun v6=> ?_
       exact gR rfl rfl rfl
      ·
       exact gR rfl rfl rfl
theorem b7i(n:Nat):(∀(k1:known)(x1:Expr),FnC Wt 53 [.agg [.sl 1 k1.names,.sl 2 k1.facts.Lifts,.int .i64 k1.facts.Persons,.int .i64 k1.facts.Flats,.sl 3 k1.weights],.agg [.int .i64 x1.Op,.int .i64 x1.N,.str x1.Name,.sl 0 x1.Args]] (fee_known_number n k1 x1) (fun r=> .agg [.int .i64 r.P.Sign,.sl 2 r.P.Digits,.int .i64 r.Q.Sign,.sl 2 r.Q.Digits]))/\(∀(k1:known)(x1:Expr),FnC Wt 111 [.agg [.sl 1 k1.names,.sl 2 k1.facts.Lifts,.int .i64 k1.facts.Persons,.int .i64 k1.facts.Flats,.sl 3 k1.weights],.agg [.int .i64 x1.Op,.int .i64 x1.N,.str x1.Name,.sl 0 x1.Args]] (fee_known_truth n k1 x1) (fun r=> .ob r)):=by
 induction n with
 |zero=>exact⟨fun _ _=>b9q (fun _ _=>by kernel_rfl),fun _ _=>b9q (fun _ _=>by kernel_rfl)⟩
 |succ n ih=>
  refine⟨?_,?_⟩
  ·intro k1 x1
   refine a1l (n:=81) Tryz.func53 rfl rfl rfl (fun _ _=>by kernel_rfl) fun F0 w0 r=> ?_
   rw [fee_known_number_s]
   refine gK (a4o _ _ _) rfl rfl rfl fun v1=> ?_
   refine gC rfl (fun _=> ?_) (fun _=> ?_)
   ·
    refine gK (a5z _ _) rfl rfl rfl fun v2=> ?_
    exact gR rfl rfl rfl
   ·
    refine gC rfl (fun _=> ?_) (fun _=> ?_)
    ·
     refine gV rfl fun ex1=> ?_
     refine gK (a5z _ _) rfl rfl rfl fun v3=> ?_
     exact gR rfl rfl rfl
    ·
     refine gC rfl (fun _=> ?_) (fun _=> ?_)
     ·
      refine gK (a5z _ _) rfl rfl rfl fun v4=> ?_
      exact gR rfl rfl rfl
     ·
      refine gC rfl (fun _=> ?_) (fun _=> ?_)
      ·
       refine gK (a5z _ _) rfl rfl rfl fun v5=> ?_
       exact gR rfl rfl rfl
      ·
       refine gC rfl (fun _=> ?_) (fun _=> ?_)
       ·
        refine gV rfl fun ex2=> ?_
        exact gR rfl rfl rfl
       ·
        refine gC rfl (fun _=> ?_) (fun _=> ?_)
        ·
         refine gHs [(0,(pL [0,2,5] .nil)),(1,(pL [0,4,2,6,9,11] .nil)),(6,(pL [0,2,6,4,8,10,13,15] .nil)),(12,(pL [0,4,2,6,8,11] .nil)),(14,(pL [2,0,4,6,8,11] .nil)),(15,(pL [0,2,4,6,8,11,13] .nil)),(16,(pL [0,2,4,6,8,11,13] .nil)),(17,(pL [0,2,4,6,8,10,12,16,18,20,22,24,15,27,29,31] .nil))] rfl (by kernel_rfl) rfl rfl fun Ky=> ?_
         refine gV rfl fun ex3=> ?_
         refine gK (ih.2 _ _) rfl rfl rfl fun v6=> ?_
         refine gHe rfl ?_
         refine gC rfl (fun _=> ?_) (fun _=> ?_)
         ·
          refine gHs [(0,(pL [0,2,5] .nil)),(1,(pL [0,4,2,6,9,11] .nil)),(6,(pL [0,2,6,4,8,10,13,15] .nil)),(12,(pL [0,4,2,6,8,11] .nil)),(14,(pL [2,0,4,6,8,11] .nil)),(15,(pL [0,2,4,6,8,11,13] .nil)),(16,(pL [0,2,4,6,8,11,13] .nil)),(17,(pL [0,2,4,6,8,10,12,16,18,20,22,24,15,27,29,31] .nil))] rfl (by kernel_rfl) rfl rfl fun Ky=> ?_
          refine gV rfl fun ex4=> ?_
          refine gK (ih.1 _ _) rfl rfl rfl fun v7=> ?_
          refine gHe rfl ?_
          exact gR rfl rfl rfl
         ·
          refine gHs [(0,(pL [0,2,5] .nil)),(1,(pL [0,4,2,6,9,11] .nil)),(6,(pL [0,2,6,4,8,10,13,15] .nil)),(12,(pL [0,4,2,6,8,11] .nil)),(14,(pL [2,0,4,6,8,11] .nil)),(15,(pL [0,2,4,6,8,11,13] .nil)),(16,(pL [0,2,4,6,8,11,13] .nil)),(17,(pL [0,2,4,6,8,10,12,16,18,20,22,24,15,27,29,31] .nil))] rfl (by kernel_rfl) rfl rfl fun Ky=> ?_
          refine gV rfl fun ex5=> ?_
          refine gK (ih.1 _ _) rfl rfl rfl fun v8=> ?_
          refine gHe rfl ?_
          exact gR rfl rfl rfl
        ·
         refine gHs [(0,(pL [0,2,5] .nil)),(1,(pL [0,4,2,6,9,11] .nil)),(6,(pL [0,2,6,4,8,10,13,15] .nil)),(12,(pL [0,4,2,6,8,11] .nil)),(14,(pL [2,0,4,6,8,11] .nil)),(15,(pL [0,2,4,6,8,11,13] .nil)),(16,(pL [0,2,4,6,8,11,13] .nil)),(17,(pL [0,2,4,6,8,10,12,16,18,20,22,24,15,27,29,31] .nil))] rfl (by kernel_rfl) rfl rfl fun Ky=> ?_
         refine gV rfl fun ex6=> ?_
         refine gV rfl fun ex7=> ?_
         refine gK (ih.1 _ _) rfl rfl rfl fun v9=> ?_
         refine gK (ih.1 _ _) rfl rfl rfl fun v10=> ?_
         refine gK (c3i _ _ _ _) rfl rfl rfl fun v11=> ?_
         refine gHe rfl ?_
         exact gR rfl rfl rfl
  ·intro k1 x1
   refine a1l (n:=69) Tryz.func111 rfl rfl rfl (fun _ _=>by kernel_rfl) fun F0 w0 r=> ?_
   rw [fee_known_truth_s]
   refine gC rfl (fun _=> ?_) (fun _=> ?_)
   ·
    refine gHs [(0,(pL [0,2,5] .nil)),(3,(pL [2,0,4,6,8,11,13,15] .nil)),(5,(pL [2,0,4,6,8,11,13,16,14,19,21,23,25,27,29] .nil)),(7,(pL [2,0,4,6,8,11,13,16,14,19,21,23,25,27,29] .nil)),(8,(pL [0,2,4,6,8,12,14,16,18,20,11,23,25,27] .nil))] rfl (by kernel_rfl) rfl rfl fun Ky=> ?_
    refine gV rfl fun ex1=> ?_
    refine gK (ih.2 _ _) rfl rfl rfl fun v1=> ?_
    refine gHe rfl ?_
    exact gR rfl rfl rfl
   ·
    refine gC rfl (fun _=> ?_) (fun _=> ?_)
    ·
     refine gHs [(0,(pL [0,2,5] .nil)),(3,(pL [2,0,4,6,8,11,13,15] .nil)),(5,(pL [2,0,4,6,8,11,13,16,14,19,21,23,25,27,29] .nil)),(7,(pL [2,0,4,6,8,11,13,16,14,19,21,23,25,27,29] .nil)),(8,(pL [0,2,4,6,8,12,14,16,18,20,11,23,25,27] .nil))] rfl (by kernel_rfl) rfl rfl fun Ky=> ?_
     refine gV rfl fun ex2=> ?_
     refine gK (ih.2 _ _) rfl rfl rfl fun v2=> ?_
     refine gD rfl (fun _=> ?_) (fun _=> ?_)
     ·
      refine gA ?_
      refine gV rfl fun ex3=> ?_
      refine gA ?_
      refine gK (ih.2 _ _) rfl rfl rfl fun v4=> ?_
      refine gB ?_
      refine gHe rfl ?_
      exact gR rfl rfl rfl
     ·
      refine gB ?_
      refine gHe rfl ?_
      exact gR rfl rfl rfl
    ·
     refine gC rfl (fun _=> ?_) (fun _=> ?_)
     ·
      refine gHs [(0,(pL [0,2,5] .nil)),(3,(pL [2,0,4,6,8,11,13,15] .nil)),(5,(pL [2,0,4,6,8,11,13,16,14,19,21,23,25,27,29] .nil)),(7,(pL [2,0,4,6,8,11,13,16,14,19,21,23,25,27,29] .nil)),(8,(pL [0,2,4,6,8,12,14,16,18,20,11,23,25,27] .nil))] rfl (by kernel_rfl) rfl rfl fun Ky=> ?_
      refine gV rfl fun ex4=> ?_
      refine gK (ih.2 _ _) rfl rfl rfl fun v5=> ?_
      refine gD rfl (fun _=> ?_) (fun _=> ?_)
      ·
       refine gB ?_
       refine gHe rfl ?_
       exact gR rfl rfl rfl
      ·
       refine gA ?_
       refine gV rfl fun ex5=> ?_
       refine gA ?_
       refine gK (ih.2 _ _) rfl rfl rfl fun v7=> ?_
       refine gB ?_
       refine gHe rfl ?_
       exact gR rfl rfl rfl
     ·
      refine gHs [(0,(pL [0,2,5] .nil)),(3,(pL [2,0,4,6,8,11,13,15] .nil)),(5,(pL [2,0,4,6,8,11,13,16,14,19,21,23,25,27,29] .nil)),(7,(pL [2,0,4,6,8,11,13,16,14,19,21,23,25,27,29] .nil)),(8,(pL [0,2,4,6,8,12,14,16,18,20,11,23,25,27] .nil))] rfl (by kernel_rfl) rfl rfl fun Ky=> ?_
      refine gV rfl fun ex6=> ?_
      refine gV rfl fun ex7=> ?_
      refine gK (ih.1 _ _) rfl rfl rfl fun v8=> ?_
      refine gK (ih.1 _ _) rfl rfl rfl fun v9=> ?_
      refine gK (b2m _ _ _) rfl rfl rfl fun v10=> ?_
      refine gHe rfl ?_
      refine gC rfl (fun _=> ?_) (fun _=> ?_)
      ·
       exact gR rfl rfl rfl
      ·
       exact gR rfl rfl rfl
theorem b9e(n:Nat)(k1:known)(x1:Expr):FnC Wt 53 [.agg [.sl 1 k1.names,.sl 2 k1.facts.Lifts,.int .i64 k1.facts.Persons,.int .i64 k1.facts.Flats,.sl 3 k1.weights],.agg [.int .i64 x1.Op,.int .i64 x1.N,.str x1.Name,.sl 0 x1.Args]] (fee_known_number n k1 x1) (fun r=> .agg [.int .i64 r.P.Sign,.sl 2 r.P.Digits,.int .i64 r.Q.Sign,.sl 2 r.Q.Digits]):=(b7i n).1 k1 x1
theorem c1z(n:Nat)(t1:Tariff)(names1:(List Bs))(f1:Facts)(weights1:(List Frac)):FnC Wt 17 [.agg [.str t1.Name,.int .i64 t1.Fee.Op,.int .i64 t1.Fee.N,.str t1.Fee.Name,.sl 0 t1.Fee.Args,.int .i64 t1.Cap],.sl 1 names1,.agg [.sl 2 f1.Lifts,.int .i64 f1.Persons,.int .i64 f1.Flats],.sl 3 weights1] (a6b n t1 names1 f1 weights1) (fun r=> .tup [.agg [.int .i64 r.1.P.Sign,.sl 2 r.1.P.Digits,.int .i64 r.1.Q.Sign,.sl 2 r.1.Q.Digits],.int .i64 r.2]):=by
 refine a1l (n:=33) Tryz.func17 rfl rfl rfl (fun _ _=>by kernel_rfl) fun F0 w0 r=> ?_
 unfold a6b
 refine gK (b6n _ _ _) rfl rfl rfl fun v1=> ?_
 refine gC rfl (fun _=> ?_) (fun _=> ?_)
 ·
  exact gR rfl rfl rfl
 ·
  refine gK (d0x _ _ _ _) rfl rfl rfl fun v2=> ?_
  refine gC rfl (fun _=> ?_) (fun _=> ?_)
  ·
   exact gR rfl rfl rfl
  ·
   refine gK (b9e _ _ _) rfl rfl rfl fun v3=> ?_
   refine gK (d0z _ _) rfl rfl rfl fun v4=> ?_
   exact gR rfl rfl rfl
theorem d0f(n:Nat)(t1:Tariff)(names1:(List Bs))(f1:Facts)(weights1:(List Frac)):FnC Wt 35 [.agg [.str t1.Name,.int .i64 t1.Fee.Op,.int .i64 t1.Fee.N,.str t1.Fee.Name,.sl 0 t1.Fee.Args,.int .i64 t1.Cap],.sl 1 names1,.agg [.sl 2 f1.Lifts,.int .i64 f1.Persons,.int .i64 f1.Flats],.sl 3 weights1] (b5w n t1 names1 f1 weights1) (fun r=> .ob r):=by
 refine a1l (n:=68) Tryz.func35 rfl rfl rfl (fun _ _=>by kernel_rfl) fun F0 w0 r=> ?_
 unfold b5w
 refine a3m ((fun k0 m(s:Int)=>ref36_Few_L1 n names1 k0 m s) _) (fun(s:Int)=> [.v 9 (.int .i64 s)]) (fun _=>rfl) _ rfl rfl (fun _=>rfl) rfl fun K1 m1 hK1 i1=> ?_
 refine gJ 3 (fun v8=> [.v 18 (.ob v8)]) rfl (fun _=>rfl) (fun J2 hJ2=> ?_) (fun v8=> ?_)
 ·
  refine gD rfl (fun _=> ?_) (fun _=> ?_)
  ·
   exact gX hJ2 rfl (by kernel_rfl)
  ·
   exact gX hJ2 rfl (by kernel_rfl)
 refine gC rfl (fun _=> ?_) (fun _=> ?_)
 ·
  refine gV rfl fun ex2=> ?_
  refine gC rfl (fun _=> ?_) (fun _=> ?_)
  ·
   exact gR rfl rfl rfl
  ·
   exact gE hK1 _ rfl (by kernel_rfl)
 ·
  refine a3m ((fun k0 m(s:Int)=>ref36_Few_L2 n weights1 k0 m s) _) (fun(s:Int)=> [.v 10 (.int .i64 s)]) (fun _=>rfl) _ rfl rfl (fun _=>rfl) rfl fun K3 m3 hK3 i2=> ?_
  refine gJ 3 (fun v6=> [.v 34 (.ob v6)]) rfl (fun _=>rfl) (fun J4 hJ4=> ?_) (fun v6=> ?_)
  ·
   refine gD rfl (fun _=> ?_) (fun _=> ?_)
   ·
    exact gX hJ4 rfl (by kernel_rfl)
   ·
    exact gX hJ4 rfl (by kernel_rfl)
  refine gC rfl (fun _=> ?_) (fun _=> ?_)
  ·
   refine gV rfl fun ex1=> ?_
   refine gK (c9v _ _ _) rfl rfl rfl fun v7=> ?_
   refine gC rfl (fun _=> ?_) (fun _=> ?_)
   ·
    exact gR rfl rfl rfl
   ·
    exact gE hK3 _ rfl (by kernel_rfl)
  ·
   refine gK (b3g _ _ _ _) rfl rfl rfl fun v1=> ?_
   refine gJ 5 (fun v2=> [.v 51 (.ob v2)]) rfl (fun _=>rfl) (fun J5 hJ5=> ?_) (fun v2=> ?_)
   ·
    refine gD rfl (fun _=> ?_) (fun _=> ?_)
    ·
     exact gX hJ5 rfl (by kernel_rfl)
    ·
     exact gX hJ5 rfl (by kernel_rfl)
   refine gJ 4 (fun v3=> [.v 56 (.ob v3)]) rfl (fun _=>rfl) (fun J6 hJ6=> ?_) (fun v3=> ?_)
   ·
    refine gD rfl (fun _=> ?_) (fun _=> ?_)
    ·
     exact gX hJ6 rfl (by kernel_rfl)
    ·
     exact gX hJ6 rfl (by kernel_rfl)
   refine gJ 5 (fun v4=> [.v 62 (.ob v4)]) rfl (fun _=>rfl) (fun J7 hJ7=> ?_) (fun v4=> ?_)
   ·
    refine gD rfl (fun _=> ?_) (fun _=> ?_)
    ·
     exact gX hJ7 rfl (by kernel_rfl)
    ·
     exact gX hJ7 rfl (by kernel_rfl)
   refine gJ 4 (fun v5=> [.v 67 (.ob v5)]) rfl (fun _=>rfl) (fun J8 hJ8=> ?_) (fun v5=> ?_)
   ·
    refine gD rfl (fun _=> ?_) (fun _=> ?_)
    ·
     exact gX hJ8 rfl (by kernel_rfl)
    ·
     exact gX hJ8 rfl (by kernel_rfl)
   exact gR rfl rfl rfl
end Go.Proofs.YthaegflpecbfgaaGreatDoor.M
namespace Go.Proofs.YthaegflpecbfgaaGreatDoor.M
open Go Go.RowKit Rt
set_option maxRecDepth 1000000
set_option maxHeartbeats 40000000
theorem c4y(n:Nat)(s1:Bs):FnC Wt 70 [.str s1] (b2h n s1) (fun r=> .tup [.agg [.str r.1.Name,.int .i64 r.1.Fee.Op,.int .i64 r.1.Fee.N,.str r.1.Fee.Name,.sl 0 r.1.Fee.Args,.int .i64 r.1.Cap],.int .i64 r.2.1,.int .i64 r.2.2]):=⟨fun _ _=>by kernel_rfl,fun r hm w F hs hg us hu=>by
 obtain⟨_,_,rfl,rfl,rfl⟩:=hu
 exact(c2g n s1 r hm hs (hg)).mono fun e w'⟨v,F',O',e1,e2,e3⟩=>by
  obtain⟨a0_4,n0_4,c0_4,rfl,rfl,g0⟩:=e3
  exact⟨_,F',e1,e2,⟨_,rfl,⟨_,_,rfl,⟨_,rfl,⟨_,_,rfl,rfl,⟨_,_,rfl,rfl,⟨_,_,rfl,rfl,⟨_,_,rfl,rfl,⟨_,_,rfl,⟨_,_,_,rfl,g0⟩,⟨_,_,rfl,rfl,rfl⟩⟩⟩⟩⟩⟩⟩,⟨_,_,rfl,rfl,⟨_,_,rfl,rfl,rfl⟩⟩⟩⟩⟩⟩
end Go.Proofs.YthaegflpecbfgaaGreatDoor.M
namespace Go.Proofs.YthaegflpecbfgaaGreatDoor.Rt
open Go Go.RowKit
set_option linter.unusedVariables false
set_option linter.unusedSimpArgs false
mutual
def AV.ren{ty:Nat->Type}(g:Nat->Nat):AV ty->AV ty
 | .agg l=> .agg (AV.renL g l)
 | .tup l=> .tup (AV.renL g l)
 | .clo f l=> .clo f (AV.renL g l)
 | .fb l o=> .fb (AV.renL g l) o
 | .bx j o=> .bx (g j) o
 | .sb j c k=> .sb (g j) c k
 | .row j=> .row (g j)
 | .rel j c x p o=> .rel (g j) c x p o
 | .rw j lo hi=> .rw (g j) lo hi
 | .int k x=> .int k x
 | .bool b=> .bool b
 | .ob b=> .ob b
 | .lb c b=> .lb c b
 | .str l=> .str l
 | .val v=> .val v
 | .sl c xs=> .sl c xs
 | .el c x o=> .el c x o
 | .any=> .any
def AV.renL{ty:Nat->Type}(g:Nat->Nat):List (AV ty)->List (AV ty)
 | []=> []
 |x::l=>AV.ren g x::AV.renL g l
 end
def AO.ren{ty:Nat->Type}(g:Nat->Nat):AO ty->AO ty
 | .box T cs=> .box T (AV.renL g cs)
 | .row e q c xs=> .row e q c xs
 |_=> .gone
def renH{ty:Nat->Type}(g:Nat->Nat):List (AO ty)->List (AO ty)
 | []=> []
 |o::l=>o.ren g::renH g l
section
variable{ty:Nat->Type}{rp:∀c,Rp (ty c)}{S S2:List OE}{F:Frz}{g:Nat->Nat}
mutual
theorem Conc.ren(h:∀(j:Nat)(e:OE),S[j]?=some e->S2[g j]?=some e):∀{x:AV ty}{v:Value},Conc rp S F x v->Conc rp S2 F (AV.ren g x) v
 | .int k x,v,h1=>h1
 | .bool b,v,h1=>h1
 | .ob b,v,h1=>h1
 | .lb c b,v,h1=>h1
 | .str l,v,h1=>h1
 | .val u,v,h1=>h1
 | .agg l,v,⟨cs,h1,h2⟩=>⟨cs,h1,ConcL.ren h h2⟩
 | .tup l,v,⟨cs,h1,h2⟩=>⟨cs,h1,ConcL.ren h h2⟩
 | .clo f l,v,⟨cs,h1,h2⟩=>⟨cs,h1,ConcL.ren h h2⟩
 | .fb l o,v,⟨b,cs,h1,h2,h3⟩=>⟨b,cs,h1,h2,ConcL.ren h h3⟩
 | .sl c xs,v,h1=>h1
 | .bx j o,v,⟨b,T,cs,h1,h2⟩=>⟨b,T,cs,h _ _ h1,h2⟩
 | .sb j c k,v,⟨b,T,cs,h1,h2⟩=>⟨b,T,cs,h _ _ h1,h2⟩
 | .el c x o,v,h1=>h1
 | .row j,v,⟨e,q,a,m,n,xs,h1,h2⟩=>⟨e,q,a,m,n,xs,h _ _ h1,h2⟩
 | .rel j c x p o,v,⟨e,b,m,n,us,cs,h1,h2⟩=>⟨e,b,m,n,us,cs,h _ _ h1,h2⟩
 | .rw j lo hi,v,⟨e,q,b,m,n,xs,h1,h2⟩=>⟨e,q,b,m,n,xs,h _ _ h1,h2⟩
 | .any,v,_=>trivial
theorem ConcL.ren(h:∀(j:Nat)(e:OE),S[j]?=some e->S2[g j]?=some e):∀{l:List (AV ty)}{cs:List Value},ConcL rp S F l cs->ConcL rp S2 F (AV.renL g l) cs
 | [],_,h1=>h1
 |_::_,_,⟨v,k,h1,h2,h3⟩=>⟨v,k,h1,Conc.ren h h2,ConcL.ren h h3⟩
 end
theorem RelO.ren{K K2:Snap}(h:∀(j:Nat)(e:OE),S[j]?=some e->S2[g j]?=some e){o:AO ty}{e:OE}(h1:RelO rp K S F o e):RelO rp K2 S2 F (o.ren g) e:=by
 cases o with
 |box T cs=>obtain⟨b,us,e1,e2⟩:=h1;exact⟨b,us,e1,e2.ren h⟩
 |row el q c xs=>exact h1
 |_=>trivial
theorem d2i(g:Nat->Nat):∀H:List (AO ty),renH g H=H.map (AO.ren g)
 | []=>rfl
 |o::l=>by rw [renH,d2i g l];rfl
theorem RelH.append{K:Snap}{R:List OE}{H H2:List (AO ty)}{A B:List OE}(h:RelH rp K R F H A)(h2:RelH rp K R F H2 B):RelH rp K R F (H++H2) (A++B):=by
 refine⟨by rw [List.length_append,List.length_append,h.1,h2.1],fun i o ho=> ?_⟩
 rcases Nat.lt_or_ge i H.length with hi|hi
 ·rw [List.getElem?_append_left hi]at ho
  obtain⟨e,h3,h4⟩:=h.2 i o ho
  exact⟨e,by rw [List.getElem?_append_left (by rw [<-h.1];exact hi)];exact h3,h4⟩
 ·rw [List.getElem?_append_right hi]at ho
  obtain⟨e,h3,h4⟩:=h2.2 _ o ho
  exact⟨e,by rw [List.getElem?_append_right (by rw [<-h.1];exact hi),<-h.1];exact h3,h4⟩
theorem RelH.renAt{K K2:Snap}{H:List (AO ty)}{B:List OE}(h:∀(j:Nat)(e:OE),S[j]?=some e->S2[g j]?=some e)(h1:RelH rp K S F H B):RelH rp K2 S2 F (renH g H) B:=by
 rw [d2i]
 refine⟨by rw [List.length_map];exact h1.1,fun i o ho=> ?_⟩
 rw [List.getElem?_map]at ho
 obtain⟨o',e1,rfl⟩:=Option.map_eq_some_iff.1 ho
 obtain⟨e,h3,h4⟩:=h1.2 i o' e1
 exact⟨e,h3,h4.ren h⟩
end
def addN(k j:Nat):Nat:=k+j
def e1u(i k j:Nat):Nat:=match Nat.beq j 0 with
 |true=>i
 |false=>k+(j-1)
section
variable{P:Program}(T:Tbl P)
def FnLG(f:FuncId){ρ:Type}(t:TypeId)(cs az:List (AV T.ty))(m:Option ρ)(cs':ρ->List (AV T.ty))(Hs:ρ->List (AO T.ty))(res:ρ->AV T.ty):Prop:=
 Ent P f/\∀r,m=some r->∀w F,Sat F w->T.gl F->∀b ws us,w.heap[b]?=some (.cells ws.toArray t (0,0))->F b=none->ConcL T.rp [] F cs ws->ConcL T.rp [.box b t ws] F az us->
  Calls P f us.toArray w fun e w'=>∃v F' ws' S,e= .returned v/\HS F w [b] F' (.box b t ws'::S) w'/\RelH T.rp Snap.nil (.box b t ws'::S) F' (.box t (cs' r)::Hs r) (.box b t ws'::S)/\Conc T.rp (.box b t ws'::S) F' (res r) v
def evGc(n:Nat)(s:St T.ty):Option (FuncId×List (AV T.ty)×(List (AO T.ty)->AV T.ty->St T.ty)):=match s with
 |⟨.ops all (o::l),k,e,H⟩=>match a9i all e o.guard,o.dst,o.op with
  |true,some d,.call ⟨.value c,args,_⟩=>match Nat.blt d n,opA e c,opL e args.toList with
   |true,some (.val (.func (.func f) fi ca)),some az=>match fi.toList,ca.toList,frzW T (H.length+1) az e H with
    | [],[],some (as',e',H')=>some (f,as',fun Hs v=>⟨.ops all l,k,(d,v.ren (addN H'.length))::e',H'++renH (addN H'.length) Hs⟩)
    |_,_,_=>none
   |_,_,_=>none
  |_,_,_=>none
 |_=>none
structure LVG(ty:Nat->Type)where
 f:FuncId
 t:TypeId
 cs:List (AV ty)
 az:List (AV ty)
 nx:List (AV ty)->List (AO ty)->AV ty->St ty
def e5o(n:Nat)(s:St T.ty):Option (LVG T.ty):=match s with
 |⟨.ops all (o::l),k,e,H⟩=>match a9i all e o.guard,o.dst,o.op with
  |true,some d,.call ⟨.value c,args,_⟩=>match Nat.blt d n,opA e c,opL e args.toList with
   |true,some (.val (.func (.func f) fi ca)),some az=>match fi.toList,ca.toList,lentOf T az with
    | [],[],some i=>match H[i]? with
      |some (.box _ cs0)=>match frzW T (H.length+1) (.agg cs0::az) e H with
       |some (_::as',e',H')=>match H'[i]? with
        |some (.box t cs)=>some ⟨f,t,cs,b4g T i as',fun cs' Hs v=>⟨.ops all l,k,(d,v.ren (e1u i H'.length))::e',H'.set i (.box t (AV.renL (e1u i H'.length) cs'))++renH (e1u i H'.length) Hs⟩⟩
        |_=>none
       |_=>none
      |_=>none
    |_,_,_=>none
   |_,_,_=>none
  |_,_,_=>none
 |_=>none
def evRX(fn:Func)(s:St T.ty):Option (List (AO T.ty)×AV T.ty):=match s with
 |⟨.out .ret,[],e,H⟩=>match resA T e H fn.results.toList with
  |some [x]=>some (H,x)
  |_=>none
 |_=>none
def evBs(n:Nat)(s:St T.ty):Option (St T.ty):=match s with
 |⟨.ops all (o::l),k,e,H⟩=>match a9i all e o.guard,o.dst,o.op with
  |true,some d,.buildSlice t kk ps=>match Nat.blt d n,T.und t with
   |true,some (.slice el)=>match T.size el,T.zero el with
    |some q,some _=>match Nat.ble (kk*q) 16777216,bldA T (fun i=>some (i*q,q)) e ps.toList (anys (kk*q))with
     |true,some cs=>some ⟨.ops all l,k,(d,.sb H.length (T.cod t) kk)::e,snoc (.box el cs) H⟩
     |_,_=>none
    |_,_=>none
   |_,_=>none
  |_,_,_=>none
 |_=>none
def evFi(i:Nat)(s:St T.ty):Option (St T.ty):=match s with
 |⟨c,k,e,H⟩=>match calm c,H[i]? with
  |true,some (.row _ _ _ _)=>match frzW T (H.length+1) [.row i] e H with
   |some (_,e',H')=>some ⟨c,k,e',H'⟩
   |none=>none
  |_,_=>none
def sbS{ty:Nat->Type}(c k:Nat)(xs:List (ty c))(c' k':Nat):AV ty:=match Nat.beq c' c,Nat.beq k' k with
 |true,true=> .sl c xs
 |_,_=> .any
def evFs(i c q k:Nat)(s:St T.ty):Option (St T.ty):=match s with
 |⟨ct,ks,e,H⟩=>match calm ct,H[i]? with
  |true,some (.box _ cs)=>match a9h cs,Nat.ble k maxLen,decL T c q k cs with
   |true,true,some xs=>match putA i .gone (d1j i (fun _=> .any) (sbS c k xs) H)with
    |some H'=>some ⟨ct,ks,e2g i (fun _=> .any) (sbS c k xs) e,H'⟩
    |none=>none
   |_,_,_=>none
  |_,_=>none
end
section
variable{P:Program}{T:Tbl P}{Q:Exit->Act->World->Prop}{n:Nat}{F0:Frz}{w0:World}{X:List Nat}{Kz:Snap}{ρ:Type}
theorem e7p{s s':St T.ty}(h:evBs T n s=some s')(k:Sm T Q n F0 w0 X Kz s'):Sm T Q n F0 w0 X Kz s:=by
 unfold evBs at h
 split at h
 ·rename_i all o l its e H
  split at h
  ·rename_i d t kk ps hg hd ho
   split at h
   ·rename_i el hn hu
    split at h
    ·rename_i q z hS hz
     split at h
     ·rename_i cs hk1 hb
      cases h
      obtain⟨dst,op,type,pos,after,guard⟩:=o
      dsimp only at hg hd ho
      subst hd;subst ho
      intro R F m w h1 h2 h3 hX
      have hzl:=e0h z (kk*q)
      obtain⟨vl,us,g1,g2,g3,g4⟩:=c3b (us:=zws z (kk*q)) h1 hb (by
       have:=anys_ok (T:=T) (R:=R) (F:=F) (us:=zws z (kk*q))
       rwa [hzl]at this)
      obtain⟨ps⟩:=ps
      have hrun:=fun w=>b6w (P:=P) (T.undOk hu) (T.sizeOk hS) (T.zeroOk hz) (Nat.le_of_ble_eq_true hk1) g3 w
      have h4:HS F0 w0 X F (R++ [.box w.heap.size el us]) (w.alloc (.cells us.toArray el)):=
       (h3.add (World.grownBy_alloc w _ none) (e':= .box w.heap.size el us) (by show(w.alloc _).heap[w.heap.size]?=_;rw [heap_alloc_new]) (by simp [OE.blk])).addEnd
      have hk:Keep R F (R++ [.box w.heap.size el us]) F:=Keep.more (Frz.refl F)
      refine b3c rfl (by simpa using hn) (a3e h1 hg) (v:= .slice (some ⟨w.heap.size,0,none⟩) kk kk) (fun a ha=> ?_) (k _ F _ _ ((h1.mono hk).put ⟨w.heap.size,el,us,?_,rfl⟩) ?_ h4 (hX.keep hk))
      ·simp only [execOp]
       rw [b0b ha g1]
       simp [hrun w]
      ·rw [h2.1];simp
      ·show RelH _ _ _ _ (snoc _ H) _
       rw [b3k]
       exact(h2.mono hk).add ⟨_,us,rfl,g2.mono hk⟩
     ·cases h
    ·cases h
   ·cases h
  ·cases h
 ·cases h
theorem gEq{r:ρ}{m m':Option ρ}{s:St T.ty}(e:m=m')(g:G T Q n F0 w0 X Kz r m' s):G T Q n F0 w0 X Kz r m s:=e▸g
theorem gBs{r:ρ}{m:Option ρ}{s s':St T.ty}(h:evBs T n (rn T n s)=some s')(g:G T Q n F0 w0 X Kz r m s'):G T Q n F0 w0 X Kz r m s:=fun hm=>a8a (e7p h (g hm))
theorem e2q{s:St T.ty}{q:LVG T.ty}(h:e5o T n s=some q){α:Type}{cs az:List (AV T.ty)}{mr:Option α}{cs':α->List (AV T.ty)}{Hs:α->List (AO T.ty)}{res:α->AV T.ty}(hF:FnLG T q.f q.t cs az mr cs' Hs res)(hc:cnvL q.cs cs=cs)(hcp:a9h cs=true)(ha:cnvL q.az az=az)(hp:pureL1 T q.az=true){r:α}(hr:mr=some r)
 (k:Sm T Q n F0 w0 X Kz (q.nx (cs' r) (Hs r) (res r))):Sm T Q n F0 w0 X Kz s:=by
 unfold e5o at h
 split at h
 ·rename_i all o l its e H
  split at h
  ·rename_i d cc args ts hg hd ho
   split at h
   ·rename_i f0 fi ca as1 hn hf hl
    split at h
    ·rename_i i hfi hca hlent
     split at h
     ·rename_i t0 cs0 hi0
      split at h
      ·rename_i x1 as' e' H' hz
       split at h
       ·rename_i t csx hi
        cases h
        dsimp only at hF hc ha hp k
        intro R F m w h1 h2 h3 hX
        obtain⟨us,g1,g2⟩:=c0p h1 hl
        obtain⟨en,b1,b0,ws0,rfl,b2⟩:=h2.2 i _ hi0
        obtain⟨R',F',k1,k2,k3,k4,k5,v0,r0,k6,k7,k9⟩:=b0p (us:= .agg ws0.toArray::us) hz h1 h2 h3 hX ⟨_,_,rfl,⟨ws0,rfl,b2⟩,g2⟩
        obtain⟨rfl,rfl⟩:=List.cons.inj k6
        obtain⟨en,c1,b,ws,rfl,c2⟩:=k3.2 i _ hi
        have c3:=c2.cnv cs
        rw [hc]at c3
        have k10:=(b8x c1 hp k9).cnv az
        rw [ha]at k10
        obtain⟨u,g3,g4⟩:=a1e h1 hf
        simp only [Conc]at g4
        subst g4
        have hfi:fi= #[]:=Array.toList_eq_nil_iff.1 hfi
        have hca:ca= #[]:=Array.toList_eq_nil_iff.1 hca
        subst hfi;subst hca
        obtain⟨dst,op,type,pos,after,guard⟩:=o
        dsimp only at hg hd ho
        subst hd;subst ho
        obtain⟨args⟩:=args
        refine a1s (R:=fun v F2 ws' S=>RelH T.rp Snap.nil (.box b t ws'::S) F2 (.box t (cs' r)::Hs r) (.box b t ws'::S)/\Conc T.rp (.box b t ws'::S) F2 (res r) v) hF.1 (a3e h1 hg) hn g3 g1 k4 c1
         ((hF.2 r hr w F' k4.sat k5.2 b ws us (k4.get c1) (k4.lendable c1) (c3.pure hcp) k10).mono fun _ _⟨v,F2,ws',S,e1,e2,e3,e4⟩=>⟨v,F2,ws',S,e1,e2,e3,e4⟩)
         (fun v F2 ws' S w' hle hS⟨e2,e3⟩=> ?_)
        have hlt:=(List.getElem?_eq_some_iff.1 c1).1
        have hk:Keep R' F' (R'.set i (.box b t ws')++S) F2:=by
         refine⟨hle,fun j b' t' us' hj=> ?_,fun j e2 q a m' n' xs hj=> ?_⟩
         ·rw [List.getElem?_append_left (by rw [List.length_set];exact(List.getElem?_eq_some_iff.1 hj).1),List.getElem?_set]
          by_cases hij:i=j
          ·subst hij
           rw [c1]at hj;cases hj
           rw [if_pos rfl,if_pos hlt]
           exact⟨_,rfl⟩
          ·rw [if_neg hij];exact⟨_,hj⟩
         ·rw [List.getElem?_append_left (by rw [List.length_set];exact(List.getElem?_eq_some_iff.1 hj).1),List.getElem?_set]
          by_cases hij:i=j
          ·subst hij;rw [c1]at hj;cases hj
          ·rw [if_neg hij];exact hj
        have hre:∀(j:Nat)(en:OE),(OE.box b t ws'::S)[j]?=some en->(R'.set i (.box b t ws')++S)[e1u i H'.length j]?=some en:=by
         intro j en hj
         cases j with
         |zero=>
          show(R'.set i (.box b t ws')++S)[i]?=some en
          rw [List.getElem?_append_left (by rw [List.length_set];exact hlt),List.getElem?_set,if_pos rfl,if_pos hlt];exact hj
         |succ j=>
          show(R'.set i (.box b t ws')++S)[H'.length+j]?=some en
          rw [k3.1,List.getElem?_append_right (by rw [List.length_set];omega),List.length_set,Nat.add_sub_cancel_left];exact hj
        obtain⟨en,d1,d2⟩:=e2.2 0 _ rfl
        simp only [List.getElem?_cons_zero,Option.some.injEq]at d1
        subst d1
        have d3:RelH T.rp Snap.nil (.box b t ws'::S) F2 (Hs r) S:=⟨by simpa using e2.1,fun j o hj=>by simpa using e2.2 (j+1) o (by simpa using hj)⟩
        exact k (R'.set i (.box b t ws')++S) F2 _ w' ((k2.mono hk).put (e3.ren hre)) (((k3.mono hk).set i (RelO.ren (K:=Snap.nil) hre d2)).append (d3.renAt hre)) (hS.perm List.perm_append_comm) (k5.keep hk)
       ·cases h
      ·cases h
     ·cases h
    ·cases h
   ·cases h
  ·cases h
 ·cases h
theorem gLGc{r:ρ}{α:Type}{x:Option α}{g:α->Option ρ}{f:FuncId}{t:TypeId}{cs0 cs as0 az:List (AV T.ty)}{cs':α->List (AV T.ty)}{Hs:α->List (AO T.ty)}{res:α->AV T.ty}{nx:List (AV T.ty)->List (AO T.ty)->AV T.ty->St T.ty}{s:St T.ty}(hF:FnLG T f t cs az x cs' Hs res)(h:e5o T n (rn T n s)=some ⟨f,t,cs0,as0,nx⟩)(hc:cnvL cs0 cs=cs)(hcp:a9h cs=true)(ha:cnvL as0 az=az)(hp:pureL1 T as0=true)
 (k:∀v,G T Q n F0 w0 X Kz r (g v) (nx (cs' v) (Hs v) (res v))):G T Q n F0 w0 X Kz r (x.bind g) s:=fun hm=>by
 obtain⟨v,hv,hm⟩:=bind_some hm
 exact a8a (e2q h hF hc hcp ha hp hv (k v hm))
def f0r(T:Tbl P)(fn:Func)(F0:Frz)(w0:World)(b:Nat)(t:TypeId)(cs':ρ->List (AV T.ty))(Hs:ρ->List (AO T.ty))(res:ρ->AV T.ty)(r:ρ):Exit->Act->World->Prop:=bodyPost P fn fun e w'=>∃v F' ws' S,e= .returned v/\HS F0 w0 [b] F' (.box b t ws'::S) w'/\RelH T.rp Snap.nil (.box b t ws'::S) F' (.box t (cs' r)::Hs r) (.box b t ws'::S)/\Conc T.rp (.box b t ws'::S) F' (res r) v
theorem e7c{fn:Func}{s:St T.ty}{H:List (AO T.ty)}{x:AV T.ty}(h:evRX T fn s=some (H,x)){A:Ending->World->Prop}(hA:∀R F w v,RelH T.rp Kz R F H R->HS F0 w0 X F R w->LG T X R F->Conc T.rp R F x v->A (.returned v) w):Sm T (bodyPost P fn A) n F0 w0 X Kz s:=by
 unfold evRX at h
 split at h
 ·rename_i e H
  split at h
  ·rename_i x hl
   cases h
   intro R F m w h1 h2 h3 hX
   obtain⟨us,g1,g2⟩:=c0b (n:=n) h1 h2 h3 hl
   obtain⟨v,us',rfl,g3,g4⟩:=g1
   simp only [ConcL]at g4
   subst g4
   refine d0l (v:=v) (fun a' ha=> ?_) (hA R F w v h2 h3 hX g3)
   have g7:=g2 a' ha
   rw [b6k,Array.mapM_eq_mapM_toList]
   simp [g7]
  ·cases h
 ·cases h
theorem gRLG{fn:Func}{b:Nat}{t:TypeId}{cs':ρ->List (AV T.ty)}{Hs:ρ->List (AO T.ty)}{res:ρ->AV T.ty}{r a:ρ}{s:St T.ty}(h:evRX T fn (rn T n s)=some (.box t (cs' a)::Hs a,res a)):G T (f0r T fn F0 w0 b t cs' Hs res r) n F0 w0 [b] Snap.nil r (some a) s:=fun hm=>by
 cases hm
 refine a8a (e7c h fun R F w v h2 h3 hX hc=> ?_)
 obtain⟨en,c1,b',ws,rfl,c2⟩:=h2.2 0 _ rfl
 obtain⟨t2,cs2,c3⟩:=hX.1 0 b rfl
 rw [c1]at c3;cases c3
 obtain⟨S,rfl⟩:∃S,R= .box b t ws::S:=by
  cases R with
  |nil=>cases c1
  |cons y S=>simp only [List.getElem?_cons_zero,Option.some.injEq]at c1;subst c1;exact⟨S,rfl⟩
 exact⟨v,F,ws,S,rfl,h3,h2,hc⟩
theorem e4q{f:FuncId}{fn:Func}{co:Code}(hf:P.funcs[f]?=some fn)(hb:fn.body=some co)(hn:fn.ntmps=n){cs az:List (AV T.ty)}(hle:Nat.ble az.length n=true)(he:Ent P f){m:Option ρ}{t:TypeId}{cs':ρ->List (AV T.ty)}{Hs:ρ->List (AO T.ty)}{res:ρ->AV T.ty}
 (h:∀F0 w0 b r,G T (f0r T fn F0 w0 b t cs' Hs res r) n F0 w0 [b] Snap.nil r m ⟨.code co,[],argE 0 az,[.box t cs]⟩):FnLG T f t cs az m cs' Hs res:=by
 refine⟨he,fun r hr w F hs hg b ws us hbx hfb hcs hus=> ?_⟩
 refine a2a n hf hb hn (by rw [hus.len];exact hle) ?_
 refine h F w b r hr [.box b t ws] F _ w (b9v 0 hus) ⟨rfl,fun i o hi=> ?_⟩ (HS.lend hs hbx hfb) ⟨fun j b' hb=> ?_,hg⟩
 ·cases i with
  |zero=>cases hi;exact⟨_,rfl,b,ws,rfl,hcs.mono (c8k (Frz.refl F))⟩
  |succ i=>simp at hi
 ·cases j with
  |zero=>cases hb;exact⟨t,ws,rfl⟩
  |succ j=>simp at hb
theorem gFi(i:Nat){r:ρ}{m:Option ρ}{s s':St T.ty}(h:evFi T i (rn T n s)=some s')(g:G T Q n F0 w0 X Kz r m s'):G T Q n F0 w0 X Kz r m s:=fun hm=>by
 refine a8a ?_
 revert h
 generalize rn T n s=s2
 intro h
 unfold evFi at h
 split at h
 rename_i c k e H
 split at h
 ·rename_i el q cc xs hc hi
  split at h
  ·rename_i as' e' H' hz
   cases h
   intro R F mm w h1 h2 h3 hX
   obtain⟨en,u1,a,m',n',us,rfl,u2⟩:=h2.2 i _ hi
   obtain⟨R',F',k1,k2,k3,k4,k5,k6⟩:=b0p (us:= [.slice a m' n']) hz h1 h2 h3 hX ⟨_,[],rfl,⟨_,_,_,_,_,_,u1,rfl⟩,rfl⟩
   exact d0g hc (g hm R' F' mm w k2 k3 k4 k5)
  ·cases h
 ·cases h
theorem gFs(i c q k:Nat){r:ρ}{m:Option ρ}{s s':St T.ty}(h:evFs T i c q k (rn T n s)=some s')(hx:Nat.ble X.length i=true)(g:G T Q n F0 w0 X Kz r m s'):G T Q n F0 w0 X Kz r m s:=fun hm=>by
 refine a8a ?_
 revert h
 generalize rn T n s=s2
 intro h
 unfold evFs at h
 split at h
 rename_i ct ks e H
 split at h
 ·rename_i t cs hct hi
  split at h
  ·rename_i xs hp hk hdec
   split at h
   ·rename_i H' hput
    cases h
    intro R F mm w h1 h2 h3 hX
    obtain⟨R',F',hT,g1,g2,g3⟩:=e9n (r:=fun _=> .any) (s:=sbS c k xs) h2 h3 hX hi hp (Nat.le_of_ble_eq_true hx) (fun R' F' b us hc hl=>⟨fun o=>trivial,fun c' k'=>by
     unfold sbS
     split
     ·rename_i e1 e2
      obtain rfl:=Nat.eq_of_beq_eq_true e1
      obtain rfl:=Nat.eq_of_beq_eq_true e2
      obtain⟨d1,d2⟩:=d0r hdec hl
      exact⟨_,_,_,rfl,d1.1,Nat.le_of_eq d1.1,Nat.le_of_ble_eq_true hk,.inr ⟨b,0,us,rfl,hc,d1.2⟩⟩
     ·trivial⟩)
    rw [<-b7o hput]at g1
    exact d0g hct (g hm R' F' mm w (h1.subB hT) g1 g2 g3)
   ·cases h
  ·cases h
 ·cases h
end
end Go.Proofs.YthaegflpecbfgaaGreatDoor.Rt
namespace Go.Proofs.YthaegflpecbfgaaGreatDoor.Rt
open Go Go.RowKit
set_option linter.unusedVariables false
set_option linter.unusedSimpArgs false
def wsl(len:Nat)(a b:Int):Option Unit:=if 0<=a/\a<=b/\b<=(len:Int)/\a<(len:Int)then some ()else none
def cpy{α:Type}(xs:List α)(lo:Nat)(ys:List α):List α:=xs.take lo++ys++xs.drop (lo+ys.length)
section
variable{P:Program}{Q:Exit->Act->World->Prop}{n d:Nat}{env:Env}{w w0:World}{opr:Array Oper}{rest:List Oper}{ty:TypeId}{pos:String}{es:Array Edge}{g:Option (Nat×Bool)}{F F0:Frz}{X:List Nat}{O:List OE}
theorem d9h{α:Type}{r:Rp α}{x y:Operand}{dT sT el e:TypeId}{m c p lo sl sc dl dc:Nat}{a da sa:Option Addr}{us cs:List Value}{xs ys:List α}(hu:P.underlying dT=some (.slice el))(hS:SizeIs P el r.k)(hg:isOn opr env g=true)(hn:Nat.blt d n=true)(h:HS F0 w0 X F O w)
 (hx:opv env x=some (.slice da dl dc)) (hy:opv env y=some (.slice sa sl sc)) (hp:O[p]?=some (.row e r.k a m c us)) (hl:RowN r F m us xs) (hd:0<Nat.min sl dl->∃b,a=some ⟨b,0,none⟩/\da=some ⟨b,lo*r.k,none⟩) (hfit:lo+dl<=m)
 (hs:0<Nat.min sl dl->∃b o,sa=some ⟨b,o,none⟩/\∀(j:Nat)v,cs[j]?=some v->w.cell? ⟨b,o+j,none⟩=some v) (hcl:cs.length=Nat.min sl dl*r.k) (hys:ys.length=Nat.min sl dl) (hR:RowR r F cs ys)
 (k:∀w' us',HS F0 w0 X F (O.set p (.row e r.k a m c us')) w'->RowN r F m us' (cpy xs lo ys)->RW P opr Q rest n ((d,.int .i64 (Nat.min sl dl:Nat))::env) w'):
 RW P opr Q (⟨some d,.call ⟨.builtin .copy, #[x,y], #[dT,sT]⟩,ty,pos,es,g⟩::rest) n env w:=by
 have hmin:Nat.min sl dl<=dl:=Nat.min_le_right ..
 rcases Nat.eq_zero_or_pos (Nat.min sl dl)with h0|hpos
 ·have hy0:ys= []:=List.length_eq_zero_iff.1 (by omega)
  subst hy0
  have hcp:cpy xs lo ([]:List α)=xs:=by unfold cpy;simp
  have hset:O.set p (.row e r.k a m c us)=O:=by
   obtain⟨hlt,hget⟩:=List.getElem?_eq_some_iff.1 hp
   rw [<-hget];exact List.set_getElem_self ..
  refine b3c (w':=w) rfl (by simpa using hn) hg (v:= .int .i64 (Nat.min sl dl:Nat)) (fun a' ha=> ?_) (k w us (by rw [hset];exact h) (by rw [hcp];exact hl))
  have e1:∀a:Addr,(loadCells a 0).run P w= .ok #[] w:=fun a=>run_loadCells_list (P:=P) w a [] (fun j v hj=>by simp at hj)
  have h0':min sl dl=0:=h0
  cases sa<;>cases da<;>simp [execOp,resolve,invoke,builtin,ha.op hx,ha.op hy,Builtin.copy_,underlying,hu,Builtin.lenOf,Builtin.firstCells,hS w,h0,h0',e1,storeCells,goInt]
 ·obtain⟨b,rfl,rfl⟩:=hd hpos
  obtain⟨b2,o2,rfl,hsrc⟩:=hs hpos
  have hm:0<m:=by omega
  obtain⟨b',cur,ha',hb',hblk,hcur,⟨hxl,hbound⟩,hst⟩:=OE.access (h.get hp) (e:=e) (k:=r.k) (a:=some ⟨b,0,none⟩) (m:=m) (c:=c) (xs:=us) (base:=0) rfl hm
  cases ha'
  have hle:lo*r.k+cs.length<=us.length:=by
   rw [hxl,hcl,<-Nat.add_mul]
   exact Nat.mul_le_mul_right _ (by omega)
  have h1:=hR.one
  have hrun:=run_storeCells_at P b (lo*r.k) e cs 0 cur w hb' (by omega) h1
  have hok:=hst (lo*r.k) cs hle
  have hload:=run_loadCells_list (P:=P) w ⟨b2,o2,none⟩ cs (fun j v hj=>by rw [a7u];exact hsrc j v hj)
  rw [hcl]at hload
  simp only [Nat.zero_add]at hok
  simp only [Nat.add_zero]at hrun
  have hnew:RowN r F m (us.take (lo*r.k)++cs++us.drop (lo*r.k+cs.length)) (cpy xs lo ys):=by
   obtain⟨hl1,hl2⟩:=hl
   refine⟨?_,?_⟩
   ·unfold cpy
    simp only [List.length_append,List.length_take,List.length_drop]
    omega
   ·unfold cpy
    have e1:lo*r.k+cs.length=(lo+ys.length)*r.k:=by rw [hcl,hys,Nat.add_mul]
    rw [e1]
    exact RowR.append (hl2.drop _) (RowR.append hR (hl2.take lo))
  refine b3c (w':=w.setRow b (cur.toList.take (lo*r.k)++cs++cur.toList.drop (lo*r.k+cs.length)).toArray) rfl (by simpa using hn) hg (v:= .int .i64 (Nat.min sl dl:Nat)) (fun a' ha=> ?_) (k _ _ (h.upd hp (by rw [hblk];exact b5g w b _) hok (fun b1 hb1=> .inl hb1)) hnew)
  have hload':(loadCells ⟨b2,o2,none⟩ (min sl dl*r.k)).run P w= .ok cs.toArray w:=hload
  simp [execOp,resolve,invoke,builtin,ha.op hx,ha.op hy,Builtin.copy_,underlying,hu,Builtin.lenOf,Builtin.firstCells,hS w,hload,hload',hrun,goInt]
end
section
variable{P:Program}(T:Tbl P)
def e2w(e:AE T.ty)(H:List (AO T.ty)):Op->Option (QV T.ty)
 | .slice t x lo hi none=>match opA e x,T.und t with
   |some (.row i),some (.slice el)=>match T.size el,H[i]? with
    |some q,some (.row _ q' c xs)=>match Nat.beq q q',Nat.beq q' (T.rp c).k,bndA e 0 lo,bndA e xs.length hi with
     |true,true,some a,some b=>some ⟨Unit,wsl xs.length a b,fun _=> .rw i a.toNat b.toNat⟩
     |_,_,_,_=>none
    |_,_=>none
   |_,_=>none
 |_=>none
def evSw(n:Nat)(s:St T.ty):Option (EV T.ty):=match s with
 |⟨.ops all (o::l),k,e,H⟩=>match a9i all e o.guard,o.dst with
  |true,some d=>match Nat.blt d n,e2w T e H o.op with
   |true,some q=>some ⟨q.α,q.x,fun v=>⟨.ops all l,k,(d,q.v v)::e,H⟩⟩
   |_,_=>none
  |_,_=>none
 |⟨.mix all (.tk i p) ks el,k,e,H⟩=>match all[i]?,c6l ks H with
  |some o,true=>match a9i all e o.guard,o.dst with
   |true,some d=>match Nat.blt d n,e2w T e H o.op with
    |true,some q=>some ⟨q.α,q.x,fun v=>⟨.mix all p ks el,k,(d,q.v v)::e,H⟩⟩
    |_,_=>none
   |_,_=>none
  |_,_=>none
 |_=>none
structure CV(ty:Nat->Type)where
 α:Type
 xs:List α
 lo:Nat
 ys:List α
 nx:List α->St ty
def evCp(n:Nat)(s:St T.ty):Option (CV T.ty):=match s with
 |⟨.ops all (o::l),k,e,H⟩=>match a9i all e o.guard,o.dst,o.op with
  |true,some d,.call ⟨.builtin .copy,args,ts⟩=>match Nat.blt d n,args.toList,ts.toList with
   |true,[x,y],[dT,_]=>match T.und dT with
    |some (.slice el)=>match T.size el,opA e x,opA e y with
     |some q,some (.row i),some (.sl c ys)=>match H[i]? with
      |some (.row e2 q' c' xs)=>match d0w c' c xs,Nat.beq q (T.rp c).k,Nat.beq q' (T.rp c).k with
       |some xs',true,true=>some ⟨T.ty c,xs',0,ys.take xs'.length,fun v=>⟨.ops all l,k,(d,.int .i64 (Nat.min ys.length xs'.length:Nat))::d5m i e,(d0n i H).set i (.row e2 q c v)⟩⟩
       |_,_,_=>none
      |_=>none
     |some q,some (.rw i lo hi),some (.rw i2 lo2 hi2)=>match Nat.beq i2 i,H[i]? with
      |true,some (.row e2 q' c xs)=>match Nat.beq q (T.rp c).k,Nat.beq q' (T.rp c).k with
       |true,true=>some ⟨T.ty c,xs,lo,(xs.drop lo2).take (Nat.min (hi2-lo2) (hi-lo)),fun v=>⟨.ops all l,k,(d,.int .i64 (Nat.min (hi2-lo2) (hi-lo):Nat))::d5m i e,(d0n i H).set i (.row e2 q c v)⟩⟩
       |_,_=>none
      |_,_=>none
     |_,_,_=>none
    |_=>none
   |_,_,_=>none
  |_,_,_=>none
 |_=>none
end
section
variable{P:Program}{T:Tbl P}{n:Nat}{F0:Frz}{w0:World}{X:List Nat}{ρ:Type}{Q:Exit->Act->World->Prop}{Kz:Snap}
theorem d3e{R:List OE}{F:Frz}{e:AE T.ty}{m:Env}{H:List (AO T.ty)}{K:Snap}{W:World->Prop}(hE:ConcE T.rp R F e m)(hH:RelH T.rp K R F H R)(hR:c5h R)(hC:∀(i:Nat)e q a m n xs,R[i]?=some (OE.row e q a m n xs)->m<=n){o:Oper}{q:QV T.ty}(h:e2w T e H o.op=some q)(v:q.α)(hv:q.x=some v):∃u,Conc T.rp R F (q.v v) u/\c3w P W m o u:=by
 obtain⟨dst,op,type,pos,after,guard⟩:=o
 dsimp only at h
 unfold e2w at h
 split at h
 ·rename_i t x lo hi
  split at h
  ·rename_i i el hx hu
   split at h
   ·rename_i q0 el' q' c xs hS hi'
    split at h
    ·rename_i a b hk hk2 ha0 hb0
     cases h
     dsimp only at hv
     unfold wsl at hv
     split at hv
     ·rename_i hc
      obtain⟨c1,c2,c3,c4⟩:=hc
      obtain⟨p,rfl⟩:=Int.eq_ofNat_of_zero_le c1
      obtain⟨z,rfl⟩:=Int.eq_ofNat_of_zero_le (show 0<=b by omega)
      have hk:=Nat.eq_of_beq_eq_true hk
      obtain⟨u,h1,e2,q2,a2,m2,n2,us,g1,g2⟩:=a1e hE hx
      subst g2
      obtain⟨en,k1,a3,m3,n3,us3,rfl,k2⟩:=hH.2 i _ hi'
      rw [g1]at k1;cases k1
      have hml:=k2.1
      obtain⟨bb,rfl⟩:=hR i _ _ _ _ _ _ g1 (by omega)
      have hcap:=hC i _ _ _ _ _ _ g1
      have hS:=T.sizeOk hS
      subst hk
      have hne:¬n2=p:=by omega
      have h1':p<=z:=by omega
      have hq:z<=n2:=by omega
      have f1:∀(w:World)(c:BoundsCode)(y:Nat),z<=y->(Instr.sliceBound (.int .i64 (z:Int)) y c).run P w= .ok z w:=fun w c y hy=>by simp [Instr.sliceBound,asIntOf,hy]
      have f2:∀(w:World)(c:BoundsCode)(y:Nat),p<=y->(Instr.sliceBound (.int .i64 (p:Int)) y c).run P w= .ok p w:=fun w c y hy=>by simp [Instr.sliceBound,asIntOf,hy]
      have hu:=T.undOk hu
      have hadd:∀d:Nat,(⟨bb,0,none⟩:Addr).add d=⟨bb,d,none⟩:=fun d=>by rw [a7u,Nat.zero_add]
      refine⟨.slice (some ⟨bb,p*q0,none⟩) (z-p) (n2-p),⟨el',q0,bb,m2,n2,us,g1,by simp;omega,by simp;omega,by simp;omega,by simp⟩,fun w _ _ _ ha=> ?_⟩
      rcases b9w hE ha0 with⟨rfl,hp0⟩|⟨xl,rfl,h5⟩<;>rcases b9w hE hb0 with⟨rfl,hz0⟩|⟨xh,rfl,h6⟩
      ·obtain rfl:p=0:=by omega
       obtain rfl:z=m2:=by omega
       simp [execOp,ha.op h1,Instr.sliceAt,Instr.slice,Instr.sliceBounds,underlying,hu,f1,f2,h1',hq,hne,hadd,hS w]
      ·obtain rfl:p=0:=by omega
       simp [execOp,ha.op h1,ha.op h6,Instr.sliceAt,Instr.slice,Instr.sliceBounds,underlying,hu,f1,f2,h1',hq,hne,hadd,hS w]
      ·obtain rfl:z=m2:=by omega
       simp [execOp,ha.op h1,ha.op h5,Instr.sliceAt,Instr.slice,Instr.sliceBounds,underlying,hu,f1,f2,h1',hq,hne,hadd,hS w]
      ·simp [execOp,ha.op h1,ha.op h5,ha.op h6,Instr.sliceAt,Instr.slice,Instr.sliceBounds,underlying,hu,f1,f2,h1',hq,hne,hadd,hS w]
     ·cases hv
    ·cases h
   ·cases h
  ·cases h
 ·cases h
theorem d7x{R:List OE}{F:Frz}{w:World}(h:HS F0 w0 X F R w):∀(i:Nat)e q a m n xs,R[i]?=some (OE.row e q a m n xs)->m<=n:=by
 intro i e q a m n xs hi
 have:=h.own _ (List.mem_of_getElem? hi)
 rcases this.2 with⟨h1,h2⟩|⟨g,cap,cur,h1,h2,h3,h4,h5,h6⟩
 ·omega
 ·cases h1;exact h4
theorem gSw{r:ρ}{α:Type}{x:Option α}{g:α->Option ρ}{nx:α->St T.ty}{s:St T.ty}(h:evSw T n (rn T n s)=some ⟨α,x,nx⟩)(k:∀v,G T Q n F0 w0 X Kz r (g v) (nx v)):G T Q n F0 w0 X Kz r (x.bind g) s:=fun hm=>by
 obtain⟨v,hv,hm⟩:=bind_some hm
 refine a8a ?_
 have k:=k v hm
 revert h
 generalize rn T n s=s2
 intro h
 unfold evSw at h
 split at h
 ·rename_i all o l its e H
  split at h
  ·rename_i d hg hd
   split at h
   ·rename_i q' hn hq
    cases h
    intro R F m w h1 h2 h3 hX
    obtain⟨u,hu,hr⟩:=d3e (P:=P) (W:=CH F0 w0 X F R) h1 h2 h3.rows (d7x h3) hq v hv
    exact a6t hd (by simpa using hn) (a3e h1 hg) (fun a ha=>hr w ⟨F,Frz.refl F,h3⟩ n a ha) (k R F ((d,u)::m) w (h1.put hu) h2 h3 hX)
   ·cases h
  ·cases h
 ·rename_i all i p ks el its e H
  split at h
  ·rename_i o hi hk
   split at h
   ·rename_i d hg hd
    split at h
    ·rename_i q' hn hq
     cases h
     intro R F m w h1 h2 h3 hX hF listed hp
     have hp:=d8d hp
     obtain⟨u,hu,hr⟩:=d3e (P:=P) (W:=SK Kz ks) h1 h2 h3.rows (d7x h3) hq v hv
     exact c2p i hi (a8o hp.1).1 (a8o hp.1).2.1 (a8o hp.1).2.2 hd hn (a3e h1 hg) (e0w hk h2 h3) (fun w' hw' a ha=>hr w' hw' n a ha) (k R F ((d,u)::m) w (h1.put hu) h2 h3 hX hF _ hp.2)
    ·cases h
   ·cases h
  ·cases h
 ·cases h
theorem e7y{s:St T.ty}{q:CV T.ty}(h:evCp T n s=some q)(k:Sm T Q n F0 w0 X Kz (q.nx (cpy q.xs q.lo q.ys))):Sm T Q n F0 w0 X Kz s:=by
 unfold evCp at h
 split at h
 ·rename_i all o l its e H
  split at h
  ·rename_i d args ts hg hd ho
   split at h
   ·rename_i x y dT sT hn hargs hts
    split at h
    ·rename_i el hu
     obtain⟨dst,op,type,pos,after,guard⟩:=o
     dsimp only at hg hd ho
     subst hd;subst ho
     obtain⟨args⟩:=args
     obtain⟨ts⟩:=ts
     simp only at hargs hts
     subst hargs;subst hts
     split at h
     ·rename_i q0 i c ys hS hx hy
      split at h
      ·rename_i e2 q' c' xs hi
       split at h
       ·rename_i xs' hcast hk1 hk2
        cases h
        dsimp only at k
        obtain⟨e1,e3⟩:=b8o hcast
        subst e1
        have e3:xs'=xs:=e3
        subst e3
        have hk1:=Nat.eq_of_beq_eq_true hk1
        have hk2:=Nat.eq_of_beq_eq_true hk2
        subst hk2
        have hS:=T.sizeOk hS
        subst hk1
        intro R F mm w h1 h2 h3 hX
        obtain⟨ux,g1,e4,q4,a4,m4,n4,us,g2,rfl⟩:=a1e h1 hx
        obtain⟨uy,y1,sa,sl,sc,rfl,y2⟩:=a1e h1 hy
        obtain⟨en,k1,a2,m2,n2,us2,rfl,k2⟩:=h2.2 i _ hi
        rw [g2]at k1;cases k1
        have hml:=k2.1
        have hsl:=y2.1
        have hcs:0<Nat.min sl m4->∃b o l,sa=some ⟨b,o,none⟩/\FC F b o l/\RowR (T.rp c') F l ys:=by
         intro hpos
         have:Nat.min sl m4<=sl:=Nat.min_le_left ..
         rcases y2.2.2.2 with h0|h0
         ·subst h0;simp at hsl;omega
         ·exact h0
        have hlt:=(List.getElem?_eq_some_iff.1 g2).1
        have fin:∀w' us',HS F0 w0 X F (R.set i (.row e2 (T.rp c').k a4 m4 n4 us')) w'->RowN (T.rp c') F m4 us' (cpy xs' 0 (ys.take xs'.length))->RW P all (kq P Kz Q its) l n ((d,.int .i64 (Nat.min sl m4:Nat))::mm) w':=by
         intro w' us' hS' hR'
         have hT:TurnR i R F (R.set i (.row e2 (T.rp c').k a4 m4 n4 us')) F:=by
          refine⟨Frz.refl F,fun j2 b2 t2 cs2 hj=>⟨cs2,?_⟩,fun j2 e5 q2 a2 m2 n2 ys hj=> ?_,fun j2 e5 q2 a2 m2 n2 ys hne hj=> ?_⟩
          ·rw [List.getElem?_set,if_neg (fun e=>by subst e;rw [g2]at hj;cases hj)];exact hj
          ·rw [List.getElem?_set]
           by_cases hij:i=j2
           ·subst hij;rw [g2]at hj;cases hj
            rw [if_pos rfl,if_pos hlt];exact⟨us',rfl⟩
           ·rw [if_neg hij];exact⟨ys,hj⟩
          ·rw [List.getElem?_set,if_neg (fun e=>hne e.symm)];exact hj
         have k3:=k _ F _ w' ((h1.subR hT).put (t:=d) (x:= .int .i64 (Nat.min ys.length xs'.length:Nat)) (v:= .int .i64 (Nat.min sl m4:Nat)) (by show Value.int _ _=Value.int _ _;rw [hsl,hml])) ((h2.subR hT).set i ⟨_,_,_,us',rfl,hR'⟩) hS' ⟨fun j2 b2 hb=> ?_,hX.2⟩
         ·exact k3
         ·obtain⟨t2,cs2,h5⟩:=hX.1 j2 b2 hb
          obtain⟨cs3,h6⟩:=hT.box j2 b2 t2 cs2 h5
          exact⟨t2,cs3,h6⟩
        rcases Nat.eq_zero_or_pos (Nat.min sl m4)with h0|hpos
        ·refine d9h (r:=T.rp c') (lo:=0) (cs:= []) (ys:=ys.take xs'.length) (T.undOk hu) hS (a3e h1 hg) hn h3 g1 y1 g2 k2 (fun h=>by omega) (by omega) (fun h=>by omega) (by rw [h0];simp) (by rw [List.length_take,hsl,hml];show Nat.min m4 sl=_;exact Nat.min_comm ..) ?_ fin
         have:ys.take xs'.length= []:=List.length_eq_zero_iff.1 (by rw [List.length_take,hsl,hml];exact(Nat.min_comm m4 sl).trans h0)
         rw [this];rfl
        ·obtain⟨b,o,lv,rfl,hfc,hrr⟩:=hcs hpos
         have hlen:=hrr.len
         have hmle:Nat.min sl m4<=sl:=Nat.min_le_left ..
         have hmle2:Nat.min sl m4<=m4:=Nat.min_le_right ..
         obtain⟨bb,rfl⟩:=h3.rows i _ _ _ _ _ _ g2 (by omega)
         have htk:ys.take xs'.length=ys.take (Nat.min sl m4):=by
          rw [hml]
          apply List.ext_getElem?
          intro j
          rw [List.getElem?_take,List.getElem?_take]
          by_cases h5:j<m4
          ·by_cases h6:j<sl
           ·rw [if_pos h5,if_pos (by show j<min sl m4;omega)]
           ·rw [if_pos h5,List.getElem?_eq_none (by omega)];split<;>rfl
          ·rw [if_neg h5,if_neg (by show¬j<min sl m4;omega)]
         refine d9h (r:=T.rp c') (lo:=0) (cs:=lv.take (Nat.min sl m4*(T.rp c').k)) (ys:=ys.take xs'.length) (T.undOk hu) hS (a3e h1 hg) hn h3 g1 y1 g2 k2 (fun _=>⟨bb,rfl,by rw [Nat.zero_mul]⟩) (by omega) (fun _=>⟨b,o,rfl,fun j v hj=> ?_⟩) ?_ ?_ ?_ fin
         ·rw [List.getElem?_take]at hj
          split at hj
          ·exact hfc.cell h3.sat hj
          ·cases hj
         ·rw [List.length_take,hlen,hsl]
          exact Nat.min_eq_left (Nat.mul_le_mul_right _ hmle)
         ·rw [List.length_take,hsl,hml];show Nat.min m4 sl=_;exact Nat.min_comm ..
         ·rw [htk];exact hrr.take _
       ·cases h
      ·cases h
     ·rename_i q0 i lo hi i2 lo2 hi2 hS hx hy
      split at h
      ·rename_i e2 q' c xs hb hi'
       split at h
       ·rename_i hk1 hk2
        cases h
        dsimp only at k
        have hb:=Nat.eq_of_beq_eq_true hb
        subst hb
        have hk1:=Nat.eq_of_beq_eq_true hk1
        have hk2:=Nat.eq_of_beq_eq_true hk2
        subst hk2
        have hS:=T.sizeOk hS
        subst hk1
        intro R F mm w h1 h2 h3 hX
        obtain⟨ux,g1,e4,q4,b4,m4,n4,us,g2,p1,p2,p3,rfl⟩:=a1e h1 hx
        obtain⟨uy,y1,e5,q5,b5,m5,n5,us5,g5,r1,r2,r3,rfl⟩:=a1e h1 hy
        rw [g2]at g5;cases g5
        obtain⟨en,k1,a2,m2,n2,us2,rfl,k2⟩:=h2.2 i2 _ hi'
        rw [g2]at k1;cases k1
        have hml:=k2.1
        have hlt:=(List.getElem?_eq_some_iff.1 g2).1
        have hmle:Nat.min (hi2-lo2) (hi-lo)<=hi2-lo2:=Nat.min_le_left ..
        have hul:=k2.2.len
        have hcell:=World.ownsRow.cells (h3.own _ (List.mem_of_getElem? g2)) (g:=b4) rfl
        refine d9h (r:=T.rp c) (lo:=lo) (cs:=(us.drop (lo2*(T.rp c).k)).take (Nat.min (hi2-lo2) (hi-lo)*(T.rp c).k)) (ys:=(xs.drop lo2).take (Nat.min (hi2-lo2) (hi-lo))) (T.undOk hu) hS (a3e h1 hg) hn h3 g1 y1 g2 k2 (fun _=>⟨b4,rfl,rfl⟩) (by omega) (fun _=>⟨b4,lo2*(T.rp c).k,rfl,fun j v hj=> ?_⟩) ?_ ?_ ((k2.2.drop lo2).take _) fun w' us' hS' hR'=> ?_
        ·rw [List.getElem?_take]at hj
         split at hj
         ·rw [List.getElem?_drop]at hj
          have:=hcell _ v hj
          rw [a7u]at this
          simpa using this
         ·cases hj
        ·rw [List.length_take,List.length_drop,hul,hml,<-Nat.sub_mul]
         exact Nat.min_eq_left (Nat.mul_le_mul_right _ (by omega))
        ·rw [List.length_take,List.length_drop,hml]
         exact Nat.min_eq_left (by omega)
        ·have hT:TurnR i2 R F (R.set i2 (.row e2 (T.rp c).k (some ⟨b4,0,none⟩) m4 n4 us')) F:=by
          refine⟨Frz.refl F,fun j2 b2 t2 cs2 hj=>⟨cs2,?_⟩,fun j2 e5 q2 a2 m2 n2 ys hj=> ?_,fun j2 e5 q2 a2 m2 n2 ys hne hj=> ?_⟩
          ·rw [List.getElem?_set,if_neg (fun e=>by subst e;rw [g2]at hj;cases hj)];exact hj
          ·rw [List.getElem?_set]
           by_cases hij:i2=j2
           ·subst hij;rw [g2]at hj;cases hj
            rw [if_pos rfl,if_pos hlt];exact⟨us',rfl⟩
           ·rw [if_neg hij];exact⟨ys,hj⟩
          ·rw [List.getElem?_set,if_neg (fun e=>hne e.symm)];exact hj
         have k3:=k _ F _ w' ((h1.subR hT).put (t:=d) (x:= .int .i64 (Nat.min (hi2-lo2) (hi-lo):Nat)) (v:= .int .i64 (Nat.min (hi2-lo2) (hi-lo):Nat)) rfl) ((h2.subR hT).set i2 ⟨_,_,_,us',rfl,hR'⟩) hS' ⟨fun j2 b2 hb=> ?_,hX.2⟩
         ·exact k3
         ·obtain⟨t2,cs2,h5⟩:=hX.1 j2 b2 hb
          obtain⟨cs3,h6⟩:=hT.box j2 b2 t2 cs2 h5
          exact⟨t2,cs3,h6⟩
       ·cases h
      ·cases h
     ·cases h
    ·cases h
   ·cases h
  ·cases h
 ·cases h
theorem gCp{r:ρ}{α:Type}{xs ys:List α}{lo:Nat}{m:Option ρ}{nx:List α->St T.ty}{s:St T.ty}(h:evCp T n (rn T n s)=some ⟨α,xs,lo,ys,nx⟩)(k:G T Q n F0 w0 X Kz r m (nx (cpy xs lo ys))):G T Q n F0 w0 X Kz r m s:=fun hm=>a8a (e7y h (k hm))
end
end Go.Proofs.YthaegflpecbfgaaGreatDoor.Rt
namespace Go.Proofs.YthaegflpecbfgaaGreatDoor.Rt
open Go
def Ev{α:Type}(f:Nat->Option α)(r:α):Prop:=∃N,∀n,N<=n->f n=some r
section
variable{α β:Type}
theorem Ev.pure(a:α):Ev (fun _=>some a) a:=⟨0,fun _ _=>rfl⟩
theorem Ev.all{f:Nat->Option α}{r:α}(h:∀n,f n=some r):Ev f r:=⟨0,fun n _=>h n⟩
theorem Ev.bind{x:Nat->Option α}{f:Nat->α->Option β}{a:α}{b:β}(hx:Ev x a)(hf:Ev (fun n=>f n a) b):Ev (fun n=>(x n).bind (f n)) b:=by
 obtain⟨N,hN⟩:=hx
 obtain⟨M,hM⟩:=hf
 refine⟨max N M,fun n hn=> ?_⟩
 show(x n).bind (f n)=some b
 rw [hN n (by omega)]
 exact hM n (by omega)
theorem Ev.step{x:Option α}{f:Nat->α->Option β}{a:α}{b:β}(hx:x=some a)(hf:Ev (fun n=>f n a) b):Ev (fun n=>x.bind (f n)) b:=by
 subst hx;exact hf
theorem Ev.then{x:Nat->Option α}{b:α}{c:Bool}{y:Nat->Option α}(hc:c=true)(h:Ev x b):Ev (fun n=>bif c then x n else y n) b:=by subst hc;exact h
theorem Ev.else{x:Nat->Option α}{b:α}{c:Bool}{y:Nat->Option α}(hc:c=false)(h:Ev y b):Ev (fun n=>bif c then x n else y n) b:=by subst hc;exact h
theorem Ev.from{f g:Nat->Option α}{r:α}(N:Nat)(h:∀n,N<=n->f n=g n)(hg:Ev g r):Ev f r:=by
 obtain⟨M,hM⟩:=hg
 exact⟨max N M,fun n hn=>by rw [h n (by omega)];exact hM n (by omega)⟩
theorem Ev.eq{f:Nat->Option α}{r s:α}(h:Ev f r)(e:r=s):Ev f s:=e▸h
theorem Ev.uniq{f:Nat->Option α}{r s:α}(h:Ev f r)(k:Ev f s):r=s:=by
 obtain⟨N,hN⟩:=h
 obtain⟨M,hM⟩:=k
 have h1:=hN (max N M) (by omega)
 rw [hM (max N M) (by omega)]at h1
 exact(Option.some.inj h1).symm
end
theorem e4b(x:Int):IntKind.i64.wrap x=if x %18446744073709551616≥9223372036854775808 then x %18446744073709551616-18446744073709551616 else x %18446744073709551616:=by
 simp [IntKind.wrap,IntKind.bits,IntKind.signed]
theorem a5j{x:Int}(h1:-9223372036854775808<=x)(h2:x<=9223372036854775807):IntKind.i64.wrap x=x:=by
 rw [e4b];split<;>omega
theorem b5x(x:Int):IntKind.u64.wrap x=x %18446744073709551616:=by
 simp [IntKind.wrap,IntKind.bits,IntKind.signed]
theorem a2d{x y:Int}(h1:-9223372036854775808<=x+y)(h2:x+y<=9223372036854775807):iadd .i64 x y=x+y:=a5j h1 h2
theorem a1i{x y:Int}(h1:-9223372036854775808<=x-y)(h2:x-y<=9223372036854775807):isub .i64 x y=x-y:=a5j h1 h2
theorem a7d{x y:Int}(h1:-9223372036854775808<=x*y)(h2:x*y<=9223372036854775807):imul .i64 x y=x*y:=a5j h1 h2
theorem c6j(k:IntKind)(x:Int)(m:Nat)(hk:k.bits=64)(hm:m<64):(BitVec.ofInt k.bits x&&&BitVec.ofInt k.bits ((2^m-1:Nat):Int)).toNat=(x %18446744073709551616).toNat %2^m:=by
 rw [BitVec.toNat_and,BitVec.toNat_ofInt,BitVec.toNat_ofInt,hk]
 have h2:(((2^m-1:Nat):Int) %((2^64:Nat):Int)).toNat=2^m-1:=by
  have:2^m<2^64:=Nat.pow_lt_pow_right (by omega) hm
  rw [<-Int.natCast_emod,Int.toNat_natCast,Nat.mod_eq_of_lt (by omega)]
 rw [h2,Nat.and_two_pow_sub_one_eq_mod]
 rfl
theorem b5i(x:Int):iand .i64 x 1048575=x %1048576:=by
 have h:=c6j .i64 x 20 rfl (by omega)
 have e:((2^20-1:Nat):Int)=1048575:=by decide
 rw [e]at h
 unfold iand
 rw [h,a5j (by omega) (by omega)]
 omega
theorem d4r{x:Int}(h0:0<=x)(h1:x<18446744073709551616):iand .u64 x 1048575=x %1048576:=by
 have h:=c6j .u64 x 20 rfl (by omega)
 have e:((2^20-1:Nat):Int)=1048575:=by decide
 rw [e]at h
 unfold iand
 rw [h,b5x]
 omega
theorem e2l(x:Int):iand .i64 x 1=x %2:=by
 have h:=c6j .i64 x 1 rfl (by omega)
 have e:((2^1-1:Nat):Int)=1:=by decide
 rw [e]at h
 unfold iand
 rw [h,a5j (by omega) (by omega)]
 omega
theorem c1y(x:Int):shr .i64 x 20=some (x/1048576):=by
 unfold shr
 rw [if_neg (by omega),Int.fdiv_eq_ediv_of_nonneg _ (by decide)]
 rfl
theorem e7l(x:Int):shr .u64 x 20=some (x/1048576):=by
 unfold shr
 rw [if_neg (by omega),Int.fdiv_eq_ediv_of_nonneg _ (by decide)]
 rfl
theorem c4d{x:Int}(h0:-8796093022208<=x)(h1:x<8796093022208):shl .i64 x 20=some (x*1048576):=by
 unfold shl
 rw [if_neg (by omega),show(2:Int)^(min (20:Int).toNat IntKind.i64.bits)=1048576 from by decide,a5j (by omega) (by omega)]
theorem c4c{x y:Int}(h0:0<=x)(h1:x<8796093022208)(h2:0<=y)(h3:y<1048576):ior .i64 (x*1048576) y=x*1048576+y:=by
 obtain⟨p,rfl⟩:=Int.eq_ofNat_of_zero_le h0
 obtain⟨q,rfl⟩:=Int.eq_ofNat_of_zero_le h2
 unfold ior
 rw [BitVec.toNat_or,BitVec.toNat_ofInt,BitVec.toNat_ofInt,show IntKind.i64.bits=64 from rfl]
 have e1:(((p:Int)*1048576) %((2^64:Nat):Int)).toNat=2^20*p:=by omega
 have e2:((q:Int) %((2^64:Nat):Int)).toNat=q:=by omega
 rw [e1,e2,<-Nat.two_pow_add_eq_or_of_lt (by omega),a5j (by omega) (by omega)]
 omega
theorem c2c{x y:Int}(h0:0<=x)(h1:x<=9223372036854775807)(h2:0<y):quo .i64 x y=some (x/y):=by
 unfold quo
 have h3:=Int.ediv_nonneg h0 (Int.le_of_lt h2)
 have h4:=Int.ediv_le_self y h0
 rw [if_neg (by omega),Int.tdiv_eq_ediv_of_nonneg h0,a5j (by omega) (by omega)]
theorem c4f{x y:Int}(h0:0<=x)(h2:0<y):rem x y=some (x %y):=by
 unfold rem
 rw [if_neg (by omega),Int.tmod_eq_emod_of_nonneg h0]
section
variable{α:Type}
theorem b1s(l:List α)(i:Nat):ix l (i:Int)=l[i]?:=by simp [ix]
theorem a6i(p:List α)(x:α)(s:List α){i:Int}(hi:i=p.length):ix (p++x::s) i=some x:=by
 subst hi;rw [b1s];simp
theorem a9g(p:List α)(x y:α)(s:List α){i:Int}(hi:i=p.length):lset (p++x::s) i y=some (p++y::s):=by
 subst hi
 unfold lset
 rw [if_pos ⟨by omega,by simp;omega⟩]
 simp
theorem c5s{b:Nat}{z:α}{n:Nat}(h:n*b<=140737488355328):mks b z (n:Int)=some (List.replicate n z):=by
 unfold mks;rw [if_pos ⟨by omega,by simpa using h⟩];simp
theorem b8n{b:Nat}{l m:List α}(h:(l.length+m.length)*b<=140737488355328):app b l m=some (l++m):=by unfold app;rw [if_pos h]
theorem c8x{l:List α}{p q:Nat}(h:p<=q)(h2:q<=l.length):lsl l (p:Int) (q:Int)=some ((l.take q).drop p):=by
 unfold lsl;rw [if_pos ⟨by omega,by omega,by omega⟩];simp
end
end Go.Proofs.YthaegflpecbfgaaGreatDoor.Rt
namespace Go.Proofs.YthaegflpecbfgaaGreatDoor.M
open Go Go.RowKit Go.Shelf Rt
set_option linter.unusedVariables false
def growA_ren:Go.Shelf.Ren:=⟨fun|4=>219|n=>n,fun|22=>57|25=>62|n=>n,fun n=>n⟩
theorem growA:Lays8.n4 Tryz.prog growA_ren:={
 mixed:=by kernel_rfl
 f4:=⟨Tryz.f219.name,by kernel_rfl,Tryz.func219.trans (congrArg some (by kernel_rfl))⟩
 t0:=by kernel_rfl
 a0:=fun _=>by kernel_rfl
 z0:=fun _=>by kernel_rfl
 v0:=fun _=>by kernel_rfl
 t3:=by kernel_rfl
 a3:=fun _=>by kernel_rfl
 z3:=fun _=>by kernel_rfl
 v3:=fun _=>by kernel_rfl
 t4:=by kernel_rfl
 a4:=fun _=>by kernel_rfl
 z4:=fun _=>by kernel_rfl
 v4:=fun _=>by kernel_rfl
 t9:=by kernel_rfl
 a9:=fun _=>by kernel_rfl
 z9:=fun _=>by kernel_rfl
 v9:=fun _=>by kernel_rfl
 t20:=by kernel_rfl
 a20:=fun _=>by kernel_rfl
 z20:=fun _=>by kernel_rfl
 v20:=fun _=>by kernel_rfl
 t22:=by kernel_rfl
 a22:=fun _=>by kernel_rfl
 z22:=fun _=>by kernel_rfl
 v22:=fun _=>by kernel_rfl}
def growB_ren:Go.Shelf.Ren:=⟨fun|4=>197|n=>n,fun|22=>32|25=>57|n=>n,fun n=>n⟩
theorem growB:Lays8.n4 Tryz.prog growB_ren:={
 mixed:=by kernel_rfl
 f4:=⟨Tryz.f197.name,by kernel_rfl,Tryz.func197.trans (congrArg some (by kernel_rfl))⟩
 t0:=by kernel_rfl
 a0:=fun _=>by kernel_rfl
 z0:=fun _=>by kernel_rfl
 v0:=fun _=>by kernel_rfl
 t3:=by kernel_rfl
 a3:=fun _=>by kernel_rfl
 z3:=fun _=>by kernel_rfl
 v3:=fun _=>by kernel_rfl
 t4:=by kernel_rfl
 a4:=fun _=>by kernel_rfl
 z4:=fun _=>by kernel_rfl
 v4:=fun _=>by kernel_rfl
 t9:=by kernel_rfl
 a9:=fun _=>by kernel_rfl
 z9:=fun _=>by kernel_rfl
 v9:=fun _=>by kernel_rfl
 t20:=by kernel_rfl
 a20:=fun _=>by kernel_rfl
 z20:=fun _=>by kernel_rfl
 v20:=fun _=>by kernel_rfl
 t22:=by kernel_rfl
 a22:=fun _=>by kernel_rfl
 z22:=fun _=>by kernel_rfl
 v22:=fun _=>by kernel_rfl}
theorem e4i{ρ:Ren}(L:Lays8.n4 Tryz.prog ρ)(hE:Ent Tryz.prog (ρ.f 4)){α:Type}{c q:Nat}(x:List α)(k:Int)(r:List α)(hm:b3w 0 x k=some r){i0:TypeInfo}{z:Value}(hi:Tryz.prog.info? (ρ.t 25)=some i0)(hz:i0.zero=some z)(hs:i0.size=q)(hq:0<q)(hq2:q<=16)(hb:i0.bytes<=128)(hzc:z.cells.size=q)
 {w:World} {F:Frz} (hF:Sat F w) {rp:Rp α} (hrp:rp.k=q):Calls Tryz.prog (ρ.f 4) #[.slice none 0 0,.int .i64 k] w fun e w'=>∃v F' a m n xs,e= .returned v/\HS F w [] F' [.row (ρ.t 25) q a m n xs] w'/\RowN rp F' m xs r/\v= .slice a m n:=by
 unfold b3w at hm
 split at hm
 ·split at hm
  ·rename_i h0
   cases hm
   obtain⟨p,rfl⟩:=Int.eq_ofNat_of_zero_le h0.1
   rcases Nat.eq_zero_or_pos p with rfl|hp
   ·refine(Any8.slices_Grow_room L none 0 0 0 w (Nat.le_refl _) (by decide) (by decide) (Nat.le_refl _)).mono ?_
    rintro e w' ⟨rfl,rfl⟩
    exact⟨_,F,none,0,0,[],rfl,(HS.init hF).nilRow _ _,⟨rfl,rfl⟩,rfl⟩
   ·have hp1:p<=1000000:=by omega
    have hmul:(0+p)*i0.bytes<=140737488355328:=by
     have:=Nat.mul_le_mul hp1 hb
     rw [Nat.zero_add];omega
    refine(Any8.slices_Grow_grow L i0 z hi hz (by omega) none 0 0 p [] w (Nat.le_refl _) (by omega) hmul (by omega) (by simp) (fun _=>rfl) (fun a ha=>by cases ha)).mono ?_
    rintro e w' ⟨rfl,rfl⟩
    have hG:=grownCap_ge w (0+p) 0 (ρ.t 25)
    have hG2:=grownCap_le_maxLen w (0+p) 0 (ρ.t 25) (by unfold maxLen;omega)
    refine⟨_,F,some ⟨w.heap.size,0,none⟩,0,_,[],rfl,?_,⟨rfl,rfl⟩,rfl⟩
    refine((HS.init hF).drew).add (e':= .row (ρ.t 25) q (some ⟨w.heap.size,0,none⟩) 0 _ []) (World.grownBy_alloc _ _ none) ?_ (by intro b hb;simp only [OE.blk,Value.ownBlock,Option.some.injEq]at hb;subst hb;exact Nat.le_refl _)
    refine⟨by simp,.inr ⟨w.heap.size,_,_,rfl,Nat.zero_le _,heap_alloc_new _ _,Nat.zero_le _,hG2,?_,by simp⟩⟩
    simp only [Array.size_append,List.size_toArray,List.length_nil,size_zeroCells,hzc,Nat.zero_add,Nat.sub_zero]at hG⊢
    rw [<-Nat.add_mul,Nat.add_sub_cancel' hG]
  ·cases hm
 ·cases hm
theorem f0g{t el:TypeId}{q b:Nat}(h:Wt.app t=some (el,q,b)):AppIs Tryz.prog t el q b:=Wt.appOk h
def b1a(_n:Nat)(x1:Int)(y1:Int):Option (Int×Int):=
 (shr .u64 x1 32).bind fun q1=>
 (shr .u64 y1 32).bind fun q2=>
 (shr .u64 (imul .u64 (iand .u64 x1 4294967295) (iand .u64 y1 4294967295)) 32).bind fun q3=>
 (shr .u64 (iadd .u64 (imul .u64 q1 (iand .u64 y1 4294967295)) q3) 32).bind fun q4=>
 (shr .u64 (iadd .u64 (iand .u64 (iadd .u64 (imul .u64 q1 (iand .u64 y1 4294967295)) q3) 4294967295) (imul .u64 (iand .u64 x1 4294967295) q2)) 32).bind fun q5=>
 some (iadd .u64 (iadd .u64 (imul .u64 q1 q2) q4) q5,imul .u64 x1 y1)
theorem c0d(n:Nat)(x1:Int)(y1:Int):FnC Wt 139 [.int .u64 x1,.int .u64 y1] (b1a n x1 y1) (fun r=> .tup [.int .u64 r.1,.int .u64 r.2]):=by
 refine a1l (n:=51) Tryz.func139 rfl rfl rfl (fun _ _=>by kernel_rfl) fun F0 w0 r=> ?_
 unfold b1a
 refine gV rfl fun q1=> ?_
 refine gV rfl fun q2=> ?_
 refine gV rfl fun q3=> ?_
 refine gV rfl fun q4=> ?_
 refine gV rfl fun q5=> ?_
 exact gR rfl rfl rfl
def a9j(n:Nat)(x1:Int)(y1:Int):Option (Int×Int):=(b1a n x1 y1).bind fun v1=>some (v1.1,v1.2)
theorem c3q(n:Nat)(x1:Int)(y1:Int):FnC Wt 71 [.int .u64 x1,.int .u64 y1] (a9j n x1 y1) (fun r=> .tup [.int .u64 r.1,.int .u64 r.2]):=by
 refine a1l (n:=30) Tryz.func71 rfl rfl rfl (fun _ _=>by kernel_rfl) fun F0 w0 r=> ?_
 unfold a9j
 refine gK (c0d _ _ _) rfl rfl rfl fun v1=> ?_
 exact gR rfl rfl rfl
def c8c(kont:List Frac->Option (List Frac)):Nat->List Frac->Int->Option (List Frac)
 |0,_,_=>none
 |m+1,row,j=>
  bif decide (j<(row.length:Int))then
   (wsl row.length j row.length).bind fun _=>
   (wsl row.length 0 j).bind fun _=>
   c8c kont m (cpy row j.toNat ((row.drop 0).take (Nat.min (j.toNat-0) (row.length-j.toNat)))) (iadd .i64 j (Nat.min (j.toNat-0) (row.length-j.toNat):Nat))
  else
   kont row
def repM(x:List Frac)(k:Int):Option (List Frac):=
 bif decide (k<0)then none else
 (a9j 0 (IntKind.u64.wrap (x.length:Int)) (IntKind.u64.wrap k)).bind fun v=>
 (bif decide (0<v.1)then some true else some (decide (9223372036854775807<v.2))).bind fun b=>
 bif b then none else
 (mks 64 (⟨⟨0,[]⟩,⟨0,[]⟩⟩:Frac) (IntKind.i64.wrap v.2)).bind fun row=>
 c8c some 1001 (cpy row 0 (x.take row.length)) (Nat.min x.length row.length:Nat)
theorem d6i(x:List Frac)(k:Int):FnO Wt 37 [.sl 3 x,.int .i64 k] (repM x k) 44 4 3 (fun r=>r):=by
 refine b7b (n:=48) Tryz.func37 rfl rfl rfl (fun _ _=>by kernel_rfl) fun F0 w0 r=> ?_
 unfold repM
 refine gC rfl (fun _=> ?_) (fun _=> ?_)
 ·exact gNo
 refine gK (c3q _ _ _) rfl rfl rfl fun v=> ?_
 refine gD rfl (fun _=> ?_) (fun _=> ?_)
 ·refine gB ?_
  refine gT ?_
  exact gNo
 ·refine gB ?_
  refine gC rfl (fun _=> ?_) (fun _=> ?_)
  ·exact gNo
  ·refine gMk wzOk rfl fun row=> ?_
   refine gCp rfl ?_
   refine a3m ((fun k0 m(s:List Frac×Int)=>c8c k0 m s.1 s.2) _) (fun s=> [.r 7 3 s.1,.v 8 (.int .i64 s.2)]) (fun _=>rfl) (_,_) rfl rfl (fun _=>rfl) rfl fun K1 m1 hK1 z1=> ?_
   obtain⟨row2,j⟩:=z1;dsimp only
   refine gC rfl (fun _=> ?_) (fun _=> ?_)
   ·refine gHs [(9,pL [0,2,4,6,8,10,12,15,17,19] .nil)] rfl (by kernel_rfl) rfl rfl fun Ky=> ?_
    refine gSw rfl fun _=> ?_
    refine gSw rfl fun _=> ?_
    refine gCp rfl ?_
    refine gHe rfl ?_
    exact gE hK1 (_,_) rfl rfl
   ·exact gRO rfl
theorem mul_one:∀k:Nat,k<1001->a9j 0 (IntKind.u64.wrap 1) (IntKind.u64.wrap k)=some (0,(k:Int))/\IntKind.i64.wrap (k:Int)=k:=by
 have h:((List.range 1001).all fun k=>decide (a9j 0 (IntKind.u64.wrap 1) (IntKind.u64.wrap (k:Int))=some (0,(k:Int)))&&decide (IntKind.i64.wrap (k:Int)=k))=true:=by kernel_rfl
 intro k hk
 have:=List.all_eq_true.1 h k (List.mem_range.2 hk)
 simpa using this
theorem e9e(a z:Frac)(k:Nat)(hk:k<=1000):∀(m j:Nat),1<=j->j<=k->k-j<m->c8c some m (List.replicate j a++List.replicate (k-j) z) (j:Int)=some (List.replicate k a)
 |0,j,_,_,h=>by omega
 |m+1,j,h1,h2,h3=>by
  have hlen:(List.replicate j a++List.replicate (k-j) z).length=k:=by simp;omega
  unfold c8c
  rw [hlen]
  by_cases hj:j<k
  ·have w1:wsl k (j:Int) (k:Int)=some ():=by unfold wsl;rw [if_pos ⟨by omega,by omega,by omega,by omega⟩]
   have w2:wsl k 0 (j:Int)=some ():=by unfold wsl;rw [if_pos ⟨by omega,by omega,by omega,by omega⟩]
   have hmin:Nat.min j (k-j)<=j:=Nat.min_le_left ..
   have hmin2:Nat.min j (k-j)<=k-j:=Nat.min_le_right ..
   have hpos:1<=Nat.min j (k-j):=by show 1<=min j (k-j);omega
   have hc:cpy (List.replicate j a++List.replicate (k-j) z) j (((List.replicate j a++List.replicate (k-j) z).drop 0).take (Nat.min j (k-j)))=List.replicate (j+Nat.min j (k-j)) a++List.replicate (k-(j+Nat.min j (k-j))) z:=by
    generalize Nat.min j (k-j)=q at hmin hmin2 hpos
    have e1:(List.replicate j a++List.replicate (k-j) z).take j=List.replicate j a:=List.take_left' (by simp)
    have e2:(List.replicate j a++List.replicate (k-j) z).take q=List.replicate q a:=by
     rw [List.take_append_of_le_length (by rw [List.length_replicate];exact hmin),List.take_replicate,Nat.min_eq_left hmin]
    have e4:(List.replicate j a++List.replicate (k-j) z).drop j=List.replicate (k-j) z:=List.drop_left' (by simp)
    unfold cpy
    rw [List.drop_zero,e1,e2,List.length_replicate,<-List.drop_drop,e4,List.drop_replicate,List.replicate_append_replicate,Nat.sub_sub]
   rw [decide_eq_true (by omega),cond_true,w1,Option.bind_some,w2,Option.bind_some,Int.toNat_natCast,Nat.sub_zero,hc]
   have hadd:iadd .i64 (j:Int) ((Nat.min j (k-j):Nat):Int)=((j+Nat.min j (k-j):Nat):Int):=by rw [a2d (by omega) (by omega)];omega
   rw [hadd]
   exact e9e a z k hk m (j+Nat.min j (k-j)) (by omega) (by omega) (by omega)
  ·obtain rfl:j=k:=by omega
   rw [decide_eq_false (by omega),cond_false,Nat.sub_self];simp
theorem e8q{n:Nat}{x:List Frac}{k:Int}{r:List Frac}(h:a2x n x k=some r):repM x k=some r:=by
 unfold a2x at h
 split at h
 ·rename_i a
  split at h
  ·rename_i h0
   cases h
   obtain⟨p,rfl⟩:=Int.eq_ofNat_of_zero_le h0.1
   have hp:p<=1000:=by omega
   obtain⟨m1,m2⟩:=mul_one p (by omega)
   unfold repM
   rw [decide_eq_false (by omega),cond_false,show(([a]:List Frac).length:Int)=1 from rfl,m1,Option.bind_some]
   have d:decide ((9223372036854775807:Int)<(p:Int))=false:=decide_eq_false (by omega)
   have e1:mks 64 (⟨⟨0,[]⟩,⟨0,[]⟩⟩:Frac) (p:Int)=some (List.replicate p ⟨⟨0,[]⟩,⟨0,[]⟩⟩):=by
    unfold mks;rw [if_pos ⟨by omega,by omega⟩];simp
   show(some (decide ((9223372036854775807:Int)<(p:Int)))).bind _=_
   rw [d,Option.bind_some,cond_false,m2,e1,Option.bind_some,Int.toNat_natCast,List.length_replicate]
   rcases Nat.eq_zero_or_pos p with rfl|hpos
   ·rfl
   ·have hc:cpy (List.replicate p (⟨⟨0,[]⟩,⟨0,[]⟩⟩:Frac)) 0 (([a]:List Frac).take p)=List.replicate 1 a++List.replicate (p-1) ⟨⟨0,[]⟩,⟨0,[]⟩⟩:=by
     unfold cpy
     rw [List.take_of_length_le (show [a].length<=p from hpos),List.take_zero,List.drop_replicate];rfl
    have hm:Nat.min [a].length p=1:=Nat.min_eq_left hpos
    rw [hc,hm]
    exact e9e a _ p hp 1001 1 (by omega) hpos (by omega)
  ·cases h
 ·cases h
theorem b5a(n:Nat)(x:List Frac)(k:Int):FnO Wt 37 [.sl 3 x,.int .i64 k] (a2x n x k) 44 4 3 (fun r=>r):=⟨(d6i x k).1,fun r hm=>(d6i x k).2 r (e8q hm)⟩
theorem b1e(n:Nat)(x:List Frac)(k:Int):FnC Wt 37 [.sl 3 x,.int .i64 k] (a2x n x k) (fun r=> .sl 3 r):=⟨(d6i x k).1,fun r hm w F hs hg us hu=>((b5a n x k).2 r hm w F hs hg us hu).mono fun e w'⟨v,F',a,m,nn,xs,e1,e2,e3,e4⟩=>by
 obtain⟨F2,h1,h2,h3⟩:=frzO e2 e3
 exact⟨v,F2,e1,h2,a,m,nn,e4,h3⟩⟩
theorem c3l(n:Nat)(x:List Affine)(k:Int):FnO Wt 219 [.val (.slice none 0 0),.int .i64 k] (b3v n x k) 62 5 5 (fun r=>r):=⟨fun _ _=>by kernel_rfl,fun r hm w F hs hg us hu=>by
 obtain⟨_,_,rfl,rfl,_,_,rfl,rfl,rfl⟩:=hu
 obtain⟨i0,z,hi,hz,h1,h2,h3⟩:=(f0g (show Wt.app 57=some (62,5,88)from rfl)).info
 exact e4i growA (fun _ _=>by kernel_rfl) (c:=5) x k r hm hi hz h1 (by decide) (by decide) (by omega) (by rw [h3]) hs (rp:=rp_Affine) rfl⟩
theorem c4g(n:Nat)(x:List (List Affine))(k:Int):FnO Wt 197 [.val (.slice none 0 0),.int .i64 k] (b3m n x k) 57 1 4 (fun r=>r):=⟨fun _ _=>by kernel_rfl,fun r hm w F hs hg us hu=>by
 obtain⟨_,_,rfl,rfl,_,_,rfl,rfl,rfl⟩:=hu
 obtain⟨i0,z,hi,hz,h1,h2,h3⟩:=(f0g (show Wt.app 32=some (57,1,24)from rfl)).info
 exact e4i growB (fun _ _=>by kernel_rfl) (c:=4) x k r hm hi hz h1 (by decide) (by decide) (by omega) (by rw [h3]) hs (rp:=Rp.sl rp_Affine) rfl⟩
end Go.Proofs.YthaegflpecbfgaaGreatDoor.M
namespace Go.Proofs.YthaegflpecbfgaaGreatDoor.M
open Go Go.RowKit Rt
set_option maxRecDepth 1000000
set_option maxHeartbeats 40000000
theorem a9k(n:Nat)(mx1:maker)(c1:Frac):FnL Wt 74 77 [.sl 1 mx1.names,.sl 2 mx1.facts.Lifts,.int .i64 mx1.facts.Persons,.int .i64 mx1.facts.Flats,.ob mx1.full] [.bx 0 0,.agg [.int .i64 c1.P.Sign,.sl 2 c1.P.Digits,.int .i64 c1.Q.Sign,.sl 2 c1.Q.Digits]] (a1j n mx1 c1) (fun r=> [.sl 1 r.1.names,.sl 2 r.1.facts.Lifts,.int .i64 r.1.facts.Persons,.int .i64 r.1.facts.Flats,.ob r.1.full]) (fun r=> .agg [.sl 4 r.2.Pieces]):=by
 refine b6o (n:=18) Tryz.func74 rfl rfl rfl (fun _ _=>by kernel_rfl) fun F0 w0 b r=> ?_
 unfold a1j
 refine gHs [(1,(pL [0,6,8,10,12,14,3,5,17,19,21,23,25,27] .nil))] rfl (by kernel_rfl) rfl rfl fun Ky=> ?_
 refine gK (a5z _ _) rfl rfl rfl fun v1=> ?_
 refine gK (b1e _ _ _) rfl rfl rfl fun v2=> ?_
 refine gZ rfl ?_
 refine gHe rfl ?_
 exact gRL rfl rfl rfl rfl rfl
theorem a5x(n:Nat)(mx1:maker)(x1:Expr):FnL Wt 75 77 [.sl 1 mx1.names,.sl 2 mx1.facts.Lifts,.int .i64 mx1.facts.Persons,.int .i64 mx1.facts.Flats,.ob mx1.full] [.bx 0 0,.agg [.int .i64 x1.Op,.int .i64 x1.N,.str x1.Name,.sl 0 x1.Args]] (a2s n mx1 x1) (fun r=> [.sl 1 r.1.names,.sl 2 r.1.facts.Lifts,.int .i64 r.1.facts.Persons,.int .i64 r.1.facts.Flats,.ob r.1.full]) (fun r=> .agg [.int .i64 r.2.P.Sign,.sl 2 r.2.P.Digits,.int .i64 r.2.Q.Sign,.sl 2 r.2.Q.Digits]):=by
 refine b6o (n:=32) Tryz.func75 rfl rfl rfl (fun _ _=>by kernel_rfl) fun F0 w0 b r=> ?_
 unfold a2s;cases x1
 refine gHs [(1,(pL [4,6,8,10,12,1,3,15,17] .nil)),(2,(pL [0,2,4,6,8,10,12,14,16,18,20] (.two 11 15 (pL [24,26,28,31,33,35] .nil) (pL [23,25,26,28,33,35] .nil))))] rfl (by kernel_rfl) rfl rfl fun Ky=> ?_
 refine gK (a5z _ _) rfl rfl rfl fun v1=> ?_
 refine gK (b1e _ _ _) rfl rfl rfl fun v2=> ?_
 refine gA ?_
 refine gHe rfl ?_
 refine gHs [(1,(pL [4,6,8,10,12,1,3,15,17] .nil)),(2,(pL [0,2,4,6,8,10,12,14,16,18,20] (.two 11 15 (pL [24,26,28,31,33,35] .nil) (pL [23,25,26,28,33,35] .nil))))] rfl (by kernel_rfl) rfl rfl fun Ky=> ?_
 refine gH2 rfl ?_ ?_
 all_goals
  refine gK (c1z _ _ _ _ _) rfl rfl rfl fun v3=> ?_
  refine gB ?_
  refine gHe rfl ?_
  exact gRL rfl rfl rfl rfl rfl
theorem b6m(n:Nat)(mx1:maker)(x1:Expr):FnL Wt 77 77 [.sl 1 mx1.names,.sl 2 mx1.facts.Lifts,.int .i64 mx1.facts.Persons,.int .i64 mx1.facts.Flats,.ob mx1.full] [.bx 0 0,.agg [.int .i64 x1.Op,.int .i64 x1.N,.str x1.Name,.sl 0 x1.Args]] (a5h n mx1 x1) (fun r=> [.sl 1 r.1.names,.sl 2 r.1.facts.Lifts,.int .i64 r.1.facts.Persons,.int .i64 r.1.facts.Flats,.ob r.1.full]) (fun r=> .ob r.2):=by
 refine b6o (n:=18) Tryz.func77 rfl rfl rfl (fun _ _=>by kernel_rfl) fun F0 w0 b r=> ?_
 unfold a5h;cases x1
 refine gN (a5x _ _ _) rfl rfl rfl rfl rfl fun v1=> ?_
 refine gK (b7u _ _) rfl rfl rfl fun v2=> ?_
 exact gRL rfl rfl rfl rfl rfl
theorem b1f(n:Nat)(mx1:maker)(x1:Expr):FnL Wt 73 77 [.sl 1 mx1.names,.sl 2 mx1.facts.Lifts,.int .i64 mx1.facts.Persons,.int .i64 mx1.facts.Flats,.ob mx1.full] [.bx 0 0,.agg [.int .i64 x1.Op,.int .i64 x1.N,.str x1.Name,.sl 0 x1.Args]] (a3y n mx1 x1) (fun r=> [.sl 1 r.1.names,.sl 2 r.1.facts.Lifts,.int .i64 r.1.facts.Persons,.int .i64 r.1.facts.Flats,.ob r.1.full]) (fun r=> .int .i64 r.2):=by
 refine b6o (n:=17) Tryz.func73 rfl rfl rfl (fun _ _=>by kernel_rfl) fun F0 w0 b r=> ?_
 unfold a3y
 refine gG rfl (by kernel_rfl) ?_
 refine gQ (b9k _ _ _) rfl rfl rfl (fun _=>rfl) fun v1=> ?_
 exact gRL rfl rfl rfl rfl rfl
theorem b5n(n:Nat)(ax1:Affine)(f1:(Int->Frac->Option Frac)):FnH Wt 194 [.agg [.int .i64 ax1.Const.P.Sign,.sl 2 ax1.Const.P.Digits,.int .i64 ax1.Const.Q.Sign,.sl 2 ax1.Const.Q.Digits,.sl 3 ax1.Coefs]] ⟨Int×Frac,Frac,fun q=> [.int .i64 q.1,.agg [.int .i64 q.2.P.Sign,.sl 2 q.2.P.Digits,.int .i64 q.2.Q.Sign,.sl 2 q.2.Q.Digits]],fun q=>f1 q.1 q.2,fun r=> .agg [.int .i64 r.P.Sign,.sl 2 r.P.Digits,.int .i64 r.Q.Sign,.sl 2 r.Q.Digits]⟩ (a7q n ax1 f1) (fun r=> .agg [.int .i64 r.Const.P.Sign,.sl 2 r.Const.P.Digits,.int .i64 r.Const.Q.Sign,.sl 2 r.Const.Q.Digits,.sl 3 r.Coefs]):=by
 refine b2v (n:=32) Tryz.func194 rfl rfl rfl (fun _ _=>by kernel_rfl) fun F0 w0 r u=> ?_
 unfold a7q
 refine gKv (T:=Wt) (Φ:=⟨Int×Frac,Frac,fun q=> [.int .i64 q.1,.agg [.int .i64 q.2.P.Sign,.sl 2 q.2.P.Digits,.int .i64 q.2.Q.Sign,.sl 2 q.2.Q.Digits]],fun q=>f1 q.1 q.2,fun r=> .agg [.int .i64 r.P.Sign,.sl 2 r.P.Digits,.int .i64 r.Q.Sign,.sl 2 r.Q.Digits]⟩) (u:=u) ((-1),ax1.Const) rfl rfl rfl fun v1=> ?_
 refine a3m ((fun k0 m(s:Int×List Frac)=>minmax_affine_L1 n ax1 f1 k0 m s.1 s.2) _) (fun(s:Int×List Frac)=> [.br 5 4 3 s.2,.v 16 (.int .i64 s.1)]) (fun _=>rfl) (_,_) rfl rfl (fun _=>rfl) rfl fun K1 m1 hK1 z1=> ?_
 obtain⟨i1,l1⟩:=z1;dsimp only
 refine gC rfl (fun _=> ?_) (fun _=> ?_)
 ·
  refine gV rfl fun ex1=> ?_
  refine gHs [(5,(pL [0,4,6,8] (.two 1 5 (pL [11,13,15,17,19] .nil) (pL [] (.two 1 6 (pL [13,15,17,19] .nil) (pL [3,15,17,19] .nil))))))] rfl (by kernel_rfl) rfl rfl fun Ky=> ?_
  refine gH2 rfl ?_ ?_
  all_goals
   refine gKv (T:=Wt) (Φ:=⟨Int×Frac,Frac,fun q=> [.int .i64 q.1,.agg [.int .i64 q.2.P.Sign,.sl 2 q.2.P.Digits,.int .i64 q.2.Q.Sign,.sl 2 q.2.Q.Digits]],fun q=>f1 q.1 q.2,fun r=> .agg [.int .i64 r.P.Sign,.sl 2 r.P.Digits,.int .i64 r.Q.Sign,.sl 2 r.Q.Digits]⟩) (u:=u) (i1,ex1) rfl rfl rfl fun v2=> ?_
   try refine gH2 rfl ?_ ?_
   all_goals
    refine gP rfl fun l3=> ?_
    refine gHe rfl ?_
    exact gE hK1 (_,_) rfl (by kernel_rfl)
 ·
  exact gR rfl rfl rfl
theorem c1b(n:Nat)(p1:Int)(x1:Frac)(cap1:Frac):FnC Wt 195 [.int .i64 p1,.agg [.int .i64 x1.P.Sign,.sl 2 x1.P.Digits,.int .i64 x1.Q.Sign,.sl 2 x1.Q.Digits],.fb [.int .i64 cap1.P.Sign,.sl 2 cap1.P.Digits,.int .i64 cap1.Q.Sign,.sl 2 cap1.Q.Digits] 0] (a5s n p1 x1 cap1) (fun r=> .agg [.int .i64 r.P.Sign,.sl 2 r.P.Digits,.int .i64 r.Q.Sign,.sl 2 r.Q.Digits]):=by
 refine a1l (n:=15) Tryz.func195 rfl rfl rfl (fun _ _=>by kernel_rfl) fun F0 w0 r=> ?_
 unfold a5s
 refine gK (c0a _ _ _) rfl rfl rfl fun v1=> ?_
 exact gR rfl rfl rfl
theorem b6u(n:Nat)(ax1:Affine)(byx1:Frac):FnC Wt 142 [.agg [.int .i64 ax1.Const.P.Sign,.sl 2 ax1.Const.P.Digits,.int .i64 ax1.Const.Q.Sign,.sl 2 ax1.Const.Q.Digits,.sl 3 ax1.Coefs],.agg [.int .i64 byx1.P.Sign,.sl 2 byx1.P.Digits,.int .i64 byx1.Q.Sign,.sl 2 byx1.Q.Digits]] (a6h n ax1 byx1) (fun r=> .agg [.int .i64 r.Const.P.Sign,.sl 2 r.Const.P.Digits,.int .i64 r.Const.Q.Sign,.sl 2 r.Const.Q.Digits,.sl 3 r.Coefs]):=by
 refine a1l (n:=8) Tryz.func142 rfl rfl rfl (fun _ _=>by kernel_rfl) fun F0 w0 r=> ?_
 unfold a6h
 refine gFc rfl rfl ?_
 refine gKh (b5n n _ (fun(q0:Int)(q1:Frac)=>a5s n q0 q1 byx1)) rfl rfl rfl (fvA rfl rfl (fun q=>c1b n q.1 q.2 byx1) default) fun v1=> ?_
 exact gR rfl rfl rfl
theorem c4p(n:Nat)(i1:Int)(x1:Frac)(cap1:Affine):FnC Wt 220 [.int .i64 i1,.agg [.int .i64 x1.P.Sign,.sl 2 x1.P.Digits,.int .i64 x1.Q.Sign,.sl 2 x1.Q.Digits],.fb [.int .i64 cap1.Const.P.Sign,.sl 2 cap1.Const.P.Digits,.int .i64 cap1.Const.Q.Sign,.sl 2 cap1.Const.Q.Digits,.sl 3 cap1.Coefs] 0] (a7h n i1 x1 cap1) (fun r=> .agg [.int .i64 r.P.Sign,.sl 2 r.P.Digits,.int .i64 r.Q.Sign,.sl 2 r.Q.Digits]):=by
 refine a1l (n:=25) Tryz.func220 rfl rfl rfl (fun _ _=>by kernel_rfl) fun F0 w0 r=> ?_
 unfold a7h
 refine gM (fun j1=> [.b 6 [.int .i64 j1.1,.sl 2 j1.2.1,.int .i64 j1.2.2.1,.sl 2 j1.2.2.2]]) rfl (fun _=>rfl) (fun J1 hJ1=> ?_) (fun j1=> ?_)
 ·
  refine gD rfl (fun _=> ?_) (fun _=> ?_)
  ·
   refine gA ?_
   refine gV rfl fun ex1=> ?_
   exact gX hJ1 rfl (by kernel_rfl)
  ·
   exact gX hJ1 rfl (by kernel_rfl)
 obtain⟨f1,f2,f3,f4⟩:=j1;dsimp only
 refine gK (b6j _ _ _) rfl rfl rfl fun v1=> ?_
 exact gR rfl rfl rfl
theorem c8e(n:Nat)(ax1:Affine)(b1:Affine):FnC Wt 199 [.agg [.int .i64 ax1.Const.P.Sign,.sl 2 ax1.Const.P.Digits,.int .i64 ax1.Const.Q.Sign,.sl 2 ax1.Const.Q.Digits,.sl 3 ax1.Coefs],.agg [.int .i64 b1.Const.P.Sign,.sl 2 b1.Const.P.Digits,.int .i64 b1.Const.Q.Sign,.sl 2 b1.Const.Q.Digits,.sl 3 b1.Coefs]] (b0v n ax1 b1) (fun r=> .agg [.int .i64 r.Const.P.Sign,.sl 2 r.Const.P.Digits,.int .i64 r.Const.Q.Sign,.sl 2 r.Const.Q.Digits,.sl 3 r.Coefs]):=by
 refine a1l (n:=8) Tryz.func199 rfl rfl rfl (fun _ _=>by kernel_rfl) fun F0 w0 r=> ?_
 unfold b0v
 refine gFc rfl rfl ?_
 refine gKh (b5n n _ (fun(q0:Int)(q1:Frac)=>a7h n q0 q1 b1)) rfl rfl rfl (fvA rfl rfl (fun q=>c4p n q.1 q.2 b1) default) fun v1=> ?_
 exact gR rfl rfl rfl
theorem a8c(n:Nat)(f1:Form):FnC Wt 145 [.agg [.sl 4 f1.Pieces]] (a4l n f1) (fun r=> .int .i64 r):=by
 refine a1l (n:=19) Tryz.func145 rfl rfl rfl (fun _ _=>by kernel_rfl) fun F0 w0 r=> ?_
 unfold a4l
 refine a3m ((fun k0 m(s:Int×Int)=>minmax_size_L1 n f1 k0 m s.1 s.2) _) (fun(s:Int×Int)=> [.v 3 (.int .i64 s.1),.v 9 (.int .i64 s.2)]) (fun _=>rfl) (_,_) rfl rfl (fun _=>rfl) rfl fun K1 m1 hK1 z1=> ?_
 obtain⟨nx1,i1⟩:=z1;dsimp only
 refine gC rfl (fun _=> ?_) (fun _=> ?_)
 ·
  refine gV rfl fun ex1=> ?_
  exact gE hK1 (_,_) rfl (by kernel_rfl)
 ·
  exact gR rfl rfl rfl
theorem a6q(n:Nat)(mx1:maker)(nx1:Int):FnL Wt 146 77 [.sl 1 mx1.names,.sl 2 mx1.facts.Lifts,.int .i64 mx1.facts.Persons,.int .i64 mx1.facts.Flats,.ob mx1.full] [.bx 0 0,.int .i64 nx1] (a2q n mx1 nx1) (fun r=> [.sl 1 r.1.names,.sl 2 r.1.facts.Lifts,.int .i64 r.1.facts.Persons,.int .i64 r.1.facts.Flats,.ob r.1.full]) (fun r=> .ob r.2):=by
 refine b6o (n:=21) Tryz.func146 rfl rfl rfl (fun _ _=>by kernel_rfl) fun F0 w0 b r=> ?_
 unfold a2q
 refine gJ 3 (fun v1=> [.v 13 (.ob v1)]) rfl (fun _=>rfl) (fun J1 hJ1=> ?_) (fun v1=> ?_)
 ·
  refine gD rfl (fun _=> ?_) (fun _=> ?_)
  ·
   exact gX hJ1 rfl (by kernel_rfl)
  ·
   exact gX hJ1 rfl (by kernel_rfl)
 exact gRL rfl rfl rfl rfl rfl
theorem b1m(n:Nat)(f1:Form)(byx1:Frac):FnC Wt 79 [.agg [.sl 4 f1.Pieces],.agg [.int .i64 byx1.P.Sign,.sl 2 byx1.P.Digits,.int .i64 byx1.Q.Sign,.sl 2 byx1.Q.Digits]] (a5r n f1 byx1) (fun r=> .agg [.sl 4 r.Pieces]):=by
 refine a1l (n:=39) Tryz.func79 rfl rfl rfl (fun _ _=>by kernel_rfl) fun F0 w0 r=> ?_
 unfold a5r
 refine a3m ((fun k0 m(s:Int×List (List Affine)×(List (List Affine))×Int×(List Int)×Int×(List Int))=>minmax_scaled_L1 n f1 k0 m s.1 s.2.1 s.2.2.1 s.2.2.2.1 s.2.2.2.2.1 s.2.2.2.2.2.1 s.2.2.2.2.2.2) _) (fun(s:Int×List (List Affine)×(List (List Affine))×Int×(List Int)×Int×(List Int))=> [.b 3 [.int .i64 s.2.2.2.1,.sl 2 s.2.2.2.2.1,.int .i64 s.2.2.2.2.2.1,.sl 2 s.2.2.2.2.2.2],.b 4 [.sl 4 s.2.2.1],.br 5 0 4 s.2.1,.v 14 (.int .i64 s.1)]) (fun _=>rfl) (_,_,_,_,_,_,_) rfl rfl (fun _=>rfl) rfl fun K1 m1 hK1 z1=> ?_
 obtain⟨i1,l1,f2,f3,f4,f5,f6⟩:=z1;dsimp only
 refine gC rfl (fun _=> ?_) (fun _=> ?_)
 ·
  refine gV rfl fun ex1=> ?_
  refine a3m ((fun k0 m(s:Int×List Affine)=>minmax_scaled_L2 n f3 f4 f5 f6 ex1 k0 m s.1 s.2) _) (fun(s:Int×List Affine)=> [.r 8 5 s.2,.v 20 (.int .i64 s.1)]) (fun _=>rfl) (_,_) rfl rfl (fun _=>rfl) rfl fun K2 m2 hK2 z2=> ?_
  obtain⟨i2,l3⟩:=z2;dsimp only
  refine gC rfl (fun _=> ?_) (fun _=> ?_)
  ·
   refine gV rfl fun ex2=> ?_
   refine gK (b6u _ _ _) rfl rfl rfl fun v1=> ?_
   refine gP rfl fun l6=> ?_
   exact gE hK2 (_,_) rfl (by kernel_rfl)
  ·
   refine gZ rfl ?_
   refine gP rfl fun l5=> ?_
   exact gE hK1 (_,_,_,_,_,_,_) rfl (by kernel_rfl)
 ·
  exact gR rfl rfl rfl
theorem a8i(n:Nat)(s1:(List Affine)):FnO Wt 196 [.sl 5 s1] (a1h n s1) 62 5 5 (fun r=>r):=⟨fun _ _=>by kernel_rfl,fun r hm w F hs hg us hu=>by
 obtain⟨_,_,rfl,⟨_,_,_,rfl,hs0⟩,rfl⟩:=hu
 exact(a8f n s1 r hm hs hs0).mono fun e w'⟨v,F',O',e1,e2,⟨a,m,n,xs,e3,e4,e5⟩⟩=>⟨v,F',a,m,n,xs,e1,e4▸e2,e5,e3⟩⟩
theorem a9e(n:Nat)(mx1:maker)(f1:Form):FnL Wt 143 77 [.sl 1 mx1.names,.sl 2 mx1.facts.Lifts,.int .i64 mx1.facts.Persons,.int .i64 mx1.facts.Flats,.ob mx1.full] [.bx 0 0,.agg [.sl 4 f1.Pieces]] (a2m n mx1 f1) (fun r=> [.sl 1 r.1.names,.sl 2 r.1.facts.Lifts,.int .i64 r.1.facts.Persons,.int .i64 r.1.facts.Flats,.ob r.1.full]) (fun r=> .agg [.sl 4 r.2.Pieces]):=by
 refine b6o (n:=62) Tryz.func143 rfl rfl rfl (fun _ _=>by kernel_rfl) fun F0 w0 b r=> ?_
 unfold a2m
 refine gFr 5 rfl ?_
 refine a3m ((fun k0 m(s:(List (List Affine))×Int×(List (List Affine))×(List (List Affine))×(List Bs)×(List Int)×Int×Int×Bool)=>minmax_maker_opposite_L1 n f1 k0 m s.1 s.2.1 s.2.2.1 s.2.2.2.1 s.2.2.2.2.1 s.2.2.2.2.2.1 s.2.2.2.2.2.2.1 s.2.2.2.2.2.2.2.1 s.2.2.2.2.2.2.2.2) _) (fun(s:(List (List Affine))×Int×(List (List Affine))×(List (List Affine))×(List Bs)×(List Int)×Int×Int×Bool)=> [.b 0 [.sl 1 s.2.2.2.2.1,.sl 2 s.2.2.2.2.2.1,.int .i64 s.2.2.2.2.2.2.1,.int .i64 s.2.2.2.2.2.2.2.1,.ob s.2.2.2.2.2.2.2.2],.b 3 [.sl 4 s.2.2.2.1],.b 4 [.sl 4 s.2.2.1],.v 5 (.sl 4 s.1),.v 17 (.int .i64 s.2.1)]) (fun _=>rfl) (_,_,_,_,_,_,_,_,_) rfl rfl (fun _=>rfl) rfl fun K1 m1 hK1 z1=> ?_
 obtain⟨choices1,i1,f2,f3,f4,f5,f6,f7,f8⟩:=z1;dsimp only
 refine gC rfl (fun _=> ?_) (fun _=> ?_)
 ·
  refine gV rfl fun ex1=> ?_
  refine gN (a6q _ _ _) rfl rfl rfl rfl rfl fun v1=> ?_
  refine gC rfl (fun _=> ?_) (fun _=> ?_)
  ·
   exact gRL rfl rfl rfl rfl rfl
  ·
   refine a3m ((fun k0 m(s:Int×List (List Affine)×(List (List Affine))×(List (List Affine))×(List Bs)×(List Int)×Int×Int×Bool)=>minmax_maker_opposite_L2 n choices1 ex1 k0 m s.1 s.2.1 s.2.2.1 s.2.2.2.1 s.2.2.2.2.1 s.2.2.2.2.2.1 s.2.2.2.2.2.2.1 s.2.2.2.2.2.2.2.1 s.2.2.2.2.2.2.2.2) _) (fun(s:Int×List (List Affine)×(List (List Affine))×(List (List Affine))×(List Bs)×(List Int)×Int×Int×Bool)=> [.b 0 [.sl 1 s.2.2.2.2.1,.sl 2 s.2.2.2.2.2.1,.int .i64 s.2.2.2.2.2.2.1,.int .i64 s.2.2.2.2.2.2.2.1,.ob s.2.2.2.2.2.2.2.2],.b 3 [.sl 4 s.2.2.2.1],.b 4 [.sl 4 s.2.2.1],.r 8 4 s.2.1,.v 36 (.int .i64 s.1)]) (fun _=>rfl) (_,_,_,_,_,_,_,_,_) rfl rfl (fun _=>rfl) rfl fun K2 m2 hK2 z2=> ?_
   obtain⟨i2,l1,f15,f16,f17,f18,f19,f20,f21⟩:=z2;dsimp only
   refine gC rfl (fun _=> ?_) (fun _=> ?_)
   ·
    refine gV rfl fun ex2=> ?_
    refine a3m ((fun k0 m(s:Int×List (List Affine))=>minmax_maker_opposite_L3 n ex1 ex2 k0 m s.1 s.2) _) (fun(s:Int×List (List Affine))=> [.r 8 4 s.2,.v 42 (.int .i64 s.1)]) (fun _=>rfl) (_,_) rfl rfl (fun _=>rfl) rfl fun K3 m3 hK3 z3=> ?_
    obtain⟨i3,l3⟩:=z3;dsimp only
    refine gC rfl (fun _=> ?_) (fun _=> ?_)
    ·
     refine gV rfl fun ex3=> ?_
     refine gHs [(14,(pL [0,2,6,5,9,11,13,15,17,19,21] .nil))] rfl (by kernel_rfl) rfl rfl fun Ky=> ?_
     refine gO (a8i _ _) rfl rfl rfl fun v2=> ?_
     refine gK (a5z _ _) rfl rfl rfl fun v3=> ?_
     refine gK (b6u _ _ _) rfl rfl rfl fun v4=> ?_
     refine gP rfl fun l5=> ?_
     refine gZ rfl ?_
     refine gP rfl fun l6=> ?_
     refine gHe rfl ?_
     exact gE hK3 (_,_) rfl (by kernel_rfl)
    ·
     exact gE hK2 (_,_,_,_,_,_,_,_,_) rfl (by kernel_rfl)
   ·
    refine gFr 5 rfl ?_
    exact gE hK1 (_,_,_,_,_,_,_,_,_) rfl (by kernel_rfl)
 ·
  exact gRL rfl rfl rfl rfl rfl
theorem a7s(n:Nat)(ax1:Form)(b1:Form)(piece1:((List Affine)->(List Affine)->Option (List Affine))):FnH Wt 148 [.agg [.sl 4 ax1.Pieces],.agg [.sl 4 b1.Pieces]] ⟨(List Affine)×(List Affine),(List Affine),fun q=> [.sl 5 q.1,.sl 5 q.2],fun q=>piece1 q.1 q.2,fun r=> .sl 5 r⟩ (a4j n ax1 b1 piece1) (fun r=> .agg [.sl 4 r.Pieces]):=by
 refine b2v (n:=38) Tryz.func148 rfl rfl rfl (fun _ _=>by kernel_rfl) fun F0 w0 r u=> ?_
 unfold a4j
 refine a3m ((fun k0 m(s:Int×List (List Affine)×(List (List Affine))×(List (List Affine)))=>minmax_join_L1 n ax1 piece1 k0 m s.1 s.2.1 s.2.2.1 s.2.2.2) _) (fun(s:Int×List (List Affine)×(List (List Affine))×(List (List Affine)))=> [.b 4 [.sl 4 s.2.2.2],.b 6 [.sl 4 s.2.2.1],.br 7 0 4 s.2.1,.v 15 (.int .i64 s.1)]) (fun _=>rfl) (_,_,_,_) rfl rfl (fun _=>rfl) rfl fun K1 m1 hK1 z1=> ?_
 obtain⟨i1,l1,f1,f2⟩:=z1;dsimp only
 refine gC rfl (fun _=> ?_) (fun _=> ?_)
 ·
  refine gV rfl fun ex1=> ?_
  refine a3m ((fun k0 m(s:Int×List (List Affine))=>minmax_join_L2 n piece1 f2 ex1 k0 m s.1 s.2) _) (fun(s:Int×List (List Affine))=> [.br 7 0 4 s.2,.v 22 (.int .i64 s.1)]) (fun _=>rfl) (_,_) rfl rfl (fun _=>rfl) rfl fun K2 m2 hK2 z2=> ?_
  obtain⟨i2,l3⟩:=z2;dsimp only
  refine gC rfl (fun _=> ?_) (fun _=> ?_)
  ·
   refine gV rfl fun ex2=> ?_
   refine gHs [(8,(pL [0,4,6,8] (.two 1 5 (pL [11,13,15,17,19] .nil) (pL [] (.two 1 6 (pL [13,15,17,19] .nil) (pL [3,15,17,19] .nil))))))] rfl (by kernel_rfl) rfl rfl fun Ky=> ?_
   refine gH2 rfl ?_ ?_
   all_goals
    refine gKv (T:=Wt) (Φ:=⟨(List Affine)×(List Affine),(List Affine),fun q=> [.sl 5 q.1,.sl 5 q.2],fun q=>piece1 q.1 q.2,fun r=> .sl 5 r⟩) (u:=u) (ex1,ex2) rfl rfl rfl fun v1=> ?_
    try refine gH2 rfl ?_ ?_
    all_goals
     refine gP rfl fun l5=> ?_
     refine gHe rfl ?_
     exact gE hK2 (_,_) rfl (by kernel_rfl)
  ·
   exact gE hK1 (_,_,_,_) rfl (by kernel_rfl)
 ·
  exact gR rfl rfl rfl
theorem b3z(n:Nat)(x1:(List Affine))(y1:(List Affine)):FnO Wt 150 [.sl 5 x1,.sl 5 y1] (a4x n x1 y1) 62 5 5 (fun r=>r):=by
 refine b7b (n:=31) Tryz.func150 rfl rfl rfl (fun _ _=>by kernel_rfl) fun F0 w0 r=> ?_
 unfold a4x
 refine a3m ((fun k0 m(s:Int×List Affine)=>minmax_sums_L1 n x1 y1 k0 m s.1 s.2) _) (fun(s:Int×List Affine)=> [.r 5 5 s.2,.v 12 (.int .i64 s.1)]) (fun _=>rfl) (_,_) rfl rfl (fun _=>rfl) rfl fun K1 m1 hK1 z1=> ?_
 obtain⟨i1,l1⟩:=z1;dsimp only
 refine gC rfl (fun _=> ?_) (fun _=> ?_)
 ·
  refine gV rfl fun ex1=> ?_
  refine a3m ((fun k0 m(s:Int×List Affine)=>minmax_sums_L2 n y1 ex1 k0 m s.1 s.2) _) (fun(s:Int×List Affine)=> [.r 5 5 s.2,.v 18 (.int .i64 s.1)]) (fun _=>rfl) (_,_) rfl rfl (fun _=>rfl) rfl fun K2 m2 hK2 z2=> ?_
  obtain⟨i2,l3⟩:=z2;dsimp only
  refine gC rfl (fun _=> ?_) (fun _=> ?_)
  ·
   refine gV rfl fun ex2=> ?_
   refine gK (c8e _ _ _) rfl rfl rfl fun v1=> ?_
   refine gP rfl fun l5=> ?_
   exact gE hK2 (_,_) rfl (by kernel_rfl)
  ·
   exact gE hK1 (_,_) rfl (by kernel_rfl)
 ·
  exact gRO rfl
theorem a8g(n:Nat)(slices1:(List (List Affine))):FnO Wt 198 [.sl 4 slices1] (a1w n slices1) 62 5 5 (fun r=>r):=by
 refine b7b (n:=36) Tryz.func198 rfl rfl rfl (fun _ _=>by kernel_rfl) fun F0 w0 r=> ?_
 unfold a1w
 refine a3m ((fun k0 m(s:Int×Int)=>slices_Concat_api_Affine_api_Affine_L1 n slices1 k0 m s.1 s.2) _) (fun(s:Int×Int)=> [.v 3 (.int .i64 s.1),.v 11 (.int .i64 s.2)]) (fun _=>rfl) (_,_) rfl rfl (fun _=>rfl) rfl fun K1 m1 hK1 z1=> ?_
 obtain⟨size1,i1⟩:=z1;dsimp only
 refine gC rfl (fun _=> ?_) (fun _=> ?_)
 ·
  refine gV rfl fun ex2=> ?_
  refine gC rfl (fun _=> ?_) (fun _=> ?_)
  ·
   exact gNo
  ·
   exact gE hK1 (_,_) rfl (by kernel_rfl)
 ·
  refine gO (c3l _ _ _) rfl rfl rfl fun v1=> ?_
  refine a3m ((fun k0 m(s:Int×List Affine)=>slices_Concat_api_Affine_api_Affine_L2 n slices1 k0 m s.1 s.2) _) (fun(s:Int×List Affine)=> [.r 6 5 s.2,.v 27 (.int .i64 s.1)]) (fun _=>rfl) (_,_) rfl rfl (fun _=>rfl) rfl fun K2 m2 hK2 z2=> ?_
  obtain⟨i2,l1⟩:=z2;dsimp only
  refine gC rfl (fun _=> ?_) (fun _=> ?_)
  ·
   refine gV rfl fun ex1=> ?_
   refine gP rfl fun l3=> ?_
   exact gE hK2 (_,_) rfl (by kernel_rfl)
  ·
   exact gRO rfl
theorem b3e(n:Nat)(x1:(List Affine))(y1:(List Affine)):FnO Wt 149 [.sl 5 x1,.sl 5 y1] (a4w n x1 y1) 62 5 5 (fun r=>r):=by
 refine b7b (n:=9) Tryz.func149 rfl rfl rfl (fun _ _=>by kernel_rfl) fun F0 w0 r=> ?_
 unfold a4w
 refine gO (a8g _ _) rfl rfl rfl fun v1=> ?_
 exact gRO rfl
theorem a2w(n:Nat)(slices1:(List (List (List Affine)))):FnO Wt 147 [.sl 9 slices1] (a0m n slices1) 57 1 4 (fun r=>r):=by
 refine b7b (n:=36) Tryz.func147 rfl rfl rfl (fun _ _=>by kernel_rfl) fun F0 w0 r=> ?_
 unfold a0m
 refine a3m ((fun k0 m(s:Int×Int)=>slices_Concat_LLapi_Affine_api_Affine_L1 n slices1 k0 m s.1 s.2) _) (fun(s:Int×Int)=> [.v 3 (.int .i64 s.1),.v 11 (.int .i64 s.2)]) (fun _=>rfl) (_,_) rfl rfl (fun _=>rfl) rfl fun K1 m1 hK1 z1=> ?_
 obtain⟨size1,i1⟩:=z1;dsimp only
 refine gC rfl (fun _=> ?_) (fun _=> ?_)
 ·
  refine gV rfl fun ex2=> ?_
  refine gC rfl (fun _=> ?_) (fun _=> ?_)
  ·
   exact gNo
  ·
   exact gE hK1 (_,_) rfl (by kernel_rfl)
 ·
  refine gO (c4g _ _ _) rfl rfl rfl fun v1=> ?_
  refine a3m ((fun k0 m(s:Int×List (List Affine))=>slices_Concat_LLapi_Affine_api_Affine_L2 n slices1 k0 m s.1 s.2) _) (fun(s:Int×List (List Affine))=> [.r 6 4 s.2,.v 27 (.int .i64 s.1)]) (fun _=>rfl) (_,_) rfl rfl (fun _=>rfl) rfl fun K2 m2 hK2 z2=> ?_
  obtain⟨i2,l1⟩:=z2;dsimp only
  refine gC rfl (fun _=> ?_) (fun _=> ?_)
  ·
   refine gV rfl fun ex1=> ?_
   refine gP rfl fun l3=> ?_
   exact gE hK2 (_,_) rfl (by kernel_rfl)
  ·
   exact gRO rfl
theorem a7g(n:Nat)(s1:(List Affine))(f1:(Affine->Option Bool)):FnH Wt 164 [.sl 5 s1] ⟨Affine,Bool,fun q=> [.agg [.int .i64 q.Const.P.Sign,.sl 2 q.Const.P.Digits,.int .i64 q.Const.Q.Sign,.sl 2 q.Const.Q.Digits,.sl 3 q.Coefs]],fun q=>f1 q,fun r=> .ob r⟩ (a2f n s1 f1) (fun r=> .int .i64 r):=by
 refine b2v (n:=19) Tryz.func164 rfl rfl rfl (fun _ _=>by kernel_rfl) fun F0 w0 r u=> ?_
 unfold a2f
 refine a3m ((fun k0 m(s:Int)=>slices_IndexFunc_api_Affine_api_Affine_L1 n s1 f1 k0 m s) _) (fun(s:Int)=> [.v 8 (.int .i64 s)]) (fun _=>rfl) _ rfl rfl (fun _=>rfl) rfl fun K1 m1 hK1 i1=> ?_
 refine gC rfl (fun _=> ?_) (fun _=> ?_)
 ·
  refine gV rfl fun ex1=> ?_
  refine gKv (T:=Wt) (Φ:=⟨Affine,Bool,fun q=> [.agg [.int .i64 q.Const.P.Sign,.sl 2 q.Const.P.Digits,.int .i64 q.Const.Q.Sign,.sl 2 q.Const.Q.Digits,.sl 3 q.Coefs]],fun q=>f1 q,fun r=> .ob r⟩) (u:=u) ex1 rfl rfl rfl fun v1=> ?_
  refine gC rfl (fun _=> ?_) (fun _=> ?_)
  ·
   exact gR rfl rfl rfl
  ·
   exact gE hK1 _ rfl (by kernel_rfl)
 ·
  exact gR rfl rfl rfl
theorem a6l(n:Nat)(s1:(List Affine))(f1:(Affine->Option Bool)):FnH Wt 98 [.sl 5 s1] ⟨Affine,Bool,fun q=> [.agg [.int .i64 q.Const.P.Sign,.sl 2 q.Const.P.Digits,.int .i64 q.Const.Q.Sign,.sl 2 q.Const.Q.Digits,.sl 3 q.Coefs]],fun q=>f1 q,fun r=> .ob r⟩ (a1k n s1 f1) (fun r=> .ob r):=by
 refine b2v (n:=9) Tryz.func98 rfl rfl rfl (fun _ _=>by kernel_rfl) fun F0 w0 r u=> ?_
 unfold a1k
 refine gKh (FnH.up (a7g n _ f1)) rfl rfl rfl b6b fun v1=> ?_
 exact gR rfl rfl rfl
theorem a6w(n:Nat)(s1:(List (List Affine)))(f1:((List Affine)->Option Bool)):FnH Wt 165 [.sl 4 s1] ⟨(List Affine),Bool,fun q=> [.sl 5 q],fun q=>f1 q,fun r=> .ob r⟩ (a1z n s1 f1) (fun r=> .int .i64 r):=by
 refine b2v (n:=19) Tryz.func165 rfl rfl rfl (fun _ _=>by kernel_rfl) fun F0 w0 r u=> ?_
 unfold a1z
 refine a3m ((fun k0 m(s:Int)=>slices_IndexFunc_LLapi_Affine_api_Affine_L1 n s1 f1 k0 m s) _) (fun(s:Int)=> [.v 8 (.int .i64 s)]) (fun _=>rfl) _ rfl rfl (fun _=>rfl) rfl fun K1 m1 hK1 i1=> ?_
 refine gC rfl (fun _=> ?_) (fun _=> ?_)
 ·
  refine gV rfl fun ex1=> ?_
  refine gKv (T:=Wt) (Φ:=⟨(List Affine),Bool,fun q=> [.sl 5 q],fun q=>f1 q,fun r=> .ob r⟩) (u:=u) ex1 rfl rfl rfl fun v1=> ?_
  refine gC rfl (fun _=> ?_) (fun _=> ?_)
  ·
   exact gR rfl rfl rfl
  ·
   exact gE hK1 _ rfl (by kernel_rfl)
 ·
  exact gR rfl rfl rfl
theorem a6e(n:Nat)(s1:(List (List Affine)))(f1:((List Affine)->Option Bool)):FnH Wt 99 [.sl 4 s1] ⟨(List Affine),Bool,fun q=> [.sl 5 q],fun q=>f1 q,fun r=> .ob r⟩ (a0u n s1 f1) (fun r=> .ob r):=by
 refine b2v (n:=9) Tryz.func99 rfl rfl rfl (fun _ _=>by kernel_rfl) fun F0 w0 r u=> ?_
 unfold a0u
 refine gKh (FnH.up (a6w n _ f1)) rfl rfl rfl b6b fun v1=> ?_
 exact gR rfl rfl rfl
end Go.Proofs.YthaegflpecbfgaaGreatDoor.M
namespace Go.Proofs.YthaegflpecbfgaaGreatDoor.M
open Go Go.RowKit Rt
set_option linter.unusedVariables false
set_option maxRecDepth 1000000
set_option maxHeartbeats 8000000
theorem b4f(n:Nat)(x:Frac):FnC Wt 95 [.agg [.int .i64 x.P.Sign,.sl 2 x.P.Digits,.int .i64 x.Q.Sign,.sl 2 x.Q.Digits]] (a4s n x) (fun r=> .ob r):=by
 refine a1l (n:=6) Tryz.func95 rfl rfl rfl (fun _ _=>by kernel_rfl) fun F0 w0 r=> ?_
 unfold a4s
 refine gK (a2l _ _) rfl rfl rfl fun v1=> ?_
 exact gR rfl rfl rfl
theorem c1c(n:Nat)(a:Affine)(k:Int):FnC Wt 96 [.agg [.int .i64 a.Const.P.Sign,.sl 2 a.Const.P.Digits,.int .i64 a.Const.Q.Sign,.sl 2 a.Const.Q.Digits,.sl 3 a.Coefs],.fb [.val (.func (.func 95) #[] #[])] 0,.fb [.int .i64 k] 0] (a5u n a k) (fun r=> .ob r):=by
 refine a1l (n:=22) Tryz.func96 rfl rfl rfl (fun _ _=>by kernel_rfl) fun F0 w0 r=> ?_
 unfold a5u
 refine gK (b4f _ _) rfl rfl rfl fun v1=> ?_
 refine gJ 6 (fun v2=> [.v 15 (.ob v2)]) rfl (fun _=>rfl) (fun J1 hJ1=> ?_) (fun v2=> ?_)
 ·refine gD rfl (fun _=> ?_) (fun _=> ?_)
  ·exact gX hJ1 rfl rfl
  ·exact gX hJ1 rfl rfl
 refine gJ 5 (fun v3=> [.v 21 (.ob v3)]) rfl (fun _=>rfl) (fun J2 hJ2=> ?_) (fun v3=> ?_)
 ·refine gD rfl (fun _=> ?_) (fun _=> ?_)
  ·exact gX hJ2 rfl rfl
  ·refine gA ?_
   refine gKh (a2v n _ (a4s n)) rfl rfl rfl (fvA rfl rfl (fun q=>b4f n q) default) fun v4=> ?_
   exact gX hJ2 rfl rfl
 exact gR rfl rfl rfl
theorem c1a(n:Nat)(l:List Affine)(k:Int):FnC Wt 97 [.sl 5 l,.fb [.clo 96 [.fb [.val (.func (.func 95) #[] #[])] 0,.fb [.int .i64 k] 0]] 0] (a5t n l k) (fun r=> .ob r):=by
 refine a1l (n:=12) Tryz.func97 rfl rfl rfl (fun _ _=>by kernel_rfl) fun F0 w0 r=> ?_
 unfold a5t
 refine gJ 4 (fun v1=> [.v 11 (.ob v1)]) rfl (fun _=>rfl) (fun J1 hJ1=> ?_) (fun v1=> ?_)
 ·refine gD rfl (fun _=> ?_) (fun _=> ?_)
  ·exact gX hJ1 rfl rfl
  ·refine gA ?_
   refine gKh (a6l n _ (fun a=>a5u n a k)) rfl rfl rfl (fvA rfl rfl (fun q=>c1c n q k) default) fun v4=> ?_
   exact gX hJ1 rfl rfl
 exact gR rfl rfl rfl
theorem c4s(n:Nat)(f:Form)(k:Int):FnC Wt 46 [.agg [.sl 4 f.Pieces],.int .i64 k] (b0k n f k) (fun r=> .ob r):=by
 refine a1l (n:=21) Tryz.func46 rfl rfl rfl (fun _ _=>by kernel_rfl) fun F0 w0 r=> ?_
 unfold b0k
 refine gFz 2 rfl rfl ?_
 refine gFz 1 rfl rfl ?_
 refine gFz 3 rfl rfl ?_
 refine gJ 6 (fun v1=> [.v 20 (.ob v1)]) rfl (fun _=>rfl) (fun J1 hJ1=> ?_) (fun v1=> ?_)
 ·refine gD rfl (fun _=> ?_) (fun _=> ?_)
  ·refine gA ?_
   refine gKh (a6e n _ (fun l=>a5t n l k)) rfl rfl rfl (fvA rfl rfl (fun q=>c1a n q k) default) fun v4=> ?_
   exact gX hJ1 rfl rfl
  ·exact gX hJ1 rfl rfl
 exact gR rfl rfl rfl
def c9a(n:Nat)(mx1:maker):Option (List Frac):=(a3n n 0).bind fun v1=>(a2x n [v1] (mx1.names.length:Int)).bind fun v2=>some v2
theorem d1q(n:Nat)(mx1:maker)(c1:Frac):a1j n mx1 c1=(c9a n mx1).bind fun v2=>some (mx1,(⟨[[(⟨c1,v2⟩:Affine)]]⟩:Form)):=by
 unfold a1j c9a
 cases a3n n 0 with
 |none=>rfl
 |some v=>show(a2x n [v] _).bind _=((a2x n [v] _).bind _).bind _;cases a2x n [v] (mx1.names.length:Int)<;>rfl
theorem e0x(n:Nat)(m:maker)(c:Frac)(s:Bs):(a1j n m c).bind (fun v5=>(ix v5.2.Pieces 0).bind fun ex1=>(ix ex1 0).bind fun ex2=>(a0r n v5.1.names s).bind fun v6=>(a3n n 1).bind fun v7=>(ix ex2.Coefs v6).bind fun _=>(setw v5.2.Pieces v6 v7).bind fun p1=>some (v5.1,(⟨p1⟩:Form)))=
 (c9a n m).bind fun l=>(a0r n m.names s).bind fun v6=>(a3n n 1).bind fun v7=>(ix l v6).bind fun _=>(lset l v6 v7).bind fun l2=>some (m,(⟨[[(⟨c,l2⟩:Affine)]]⟩:Form)):=by
 rw [d1q,Option.bind_assoc]
 congr 1;funext l
 show(a0r n m.names s).bind _=_
 congr 1;funext v6
 congr 1;funext v7
 show(ix l v6).bind _=_
 congr 1;funext z
 show((lset l v6 v7).bind _).bind _=_
 rw [Option.bind_assoc];rfl
theorem e1j(n:Nat)(mx1:maker)(c1:Frac):FnLG Wt 74 77 [.sl 1 mx1.names,.sl 2 mx1.facts.Lifts,.int .i64 mx1.facts.Persons,.int .i64 mx1.facts.Flats,.ob mx1.full] [.bx 0 0,.agg [.int .i64 c1.P.Sign,.sl 2 c1.P.Digits,.int .i64 c1.Q.Sign,.sl 2 c1.Q.Digits]] (c9a n mx1)
 (fun _=> [.sl 1 mx1.names,.sl 2 mx1.facts.Lifts,.int .i64 mx1.facts.Persons,.int .i64 mx1.facts.Flats,.ob mx1.full])
 (fun r=> [.box 44 [.int .i64 c1.P.Sign,.sl 2 c1.P.Digits,.int .i64 c1.Q.Sign,.sl 2 c1.Q.Digits],.box 34 [.sb 7 4 1],.gone,.gone,.row 44 4 3 r,.box 62 [.int .i64 c1.P.Sign,.sl 2 c1.P.Digits,.int .i64 c1.Q.Sign,.sl 2 c1.Q.Digits,.row 5],.box 57 [.sb 6 5 1]]) (fun _=> .agg [.sb 7 4 1]):=by
 refine e4q (n:=18) Tryz.func74 rfl rfl rfl (fun _ _=>by kernel_rfl) fun F0 w0 b r=> ?_
 unfold c9a
 refine gHs [(1,(pL [0,6,8,10,12,14,3,5,17,18,21,23,24,27] .nil))] rfl (by kernel_rfl) rfl rfl fun Ky=> ?_
 refine gK (a5z _ _) rfl rfl rfl fun v1=> ?_
 refine gO (b5a _ _ _) rfl rfl rfl fun v2=> ?_
 refine gBs rfl ?_
 refine gBs rfl ?_
 refine gHe rfl ?_
 exact gRLG rfl
theorem FnO.c{P:Program}{T:Tbl P}{f:FuncId}{ρ:Type}{us:List (AV T.ty)}{m:Option ρ}{el q c:Nat}{res:ρ->List (T.ty c)}(h:FnO T f us m el q c res):FnC T f us m (fun r=> .sl c (res r)):=⟨h.1,fun r hm w F hs hg us hu=>(h.2 r hm w F hs hg us hu).mono fun e w'⟨v,F',a,m,nn,xs,e1,e2,e3,e4⟩=>by
 obtain⟨F2,h1,h2,h3⟩:=frzO e2 e3
 exact⟨v,F2,e1,h2,a,m,nn,e4,h3⟩⟩
end Go.Proofs.YthaegflpecbfgaaGreatDoor.M
namespace Go.Proofs.YthaegflpecbfgaaGreatDoor.M
open Go Go.RowKit Rt
set_option maxRecDepth 1000000
set_option maxHeartbeats 40000000
theorem a9s(n:Nat)(mx1:maker)(f1:Form)(byx1:Frac):FnL Wt 80 77 [.sl 1 mx1.names,.sl 2 mx1.facts.Lifts,.int .i64 mx1.facts.Persons,.int .i64 mx1.facts.Flats,.ob mx1.full] [.bx 0 0,.agg [.sl 4 f1.Pieces],.agg [.int .i64 byx1.P.Sign,.sl 2 byx1.P.Digits,.int .i64 byx1.Q.Sign,.sl 2 byx1.Q.Digits]] (a3s n mx1 f1 byx1) (fun r=> [.sl 1 r.1.names,.sl 2 r.1.facts.Lifts,.int .i64 r.1.facts.Persons,.int .i64 r.1.facts.Flats,.ob r.1.full]) (fun r=> .agg [.sl 4 r.2.Pieces]):=by
 refine b6o (n:=25) Tryz.func80 rfl rfl rfl (fun _ _=>by kernel_rfl) fun F0 w0 b r=> ?_
 unfold a3s
 refine gK (b7u _ _) rfl rfl rfl fun v1=> ?_
 refine gC rfl (fun _=> ?_) (fun _=> ?_)
 ·
  refine gN (a9k _ _ _) rfl rfl rfl rfl rfl fun v2=> ?_
  exact gRL rfl rfl rfl rfl rfl
 ·
  refine gC rfl (fun _=> ?_) (fun _=> ?_)
  ·
   refine gK (b1m _ _ _) rfl rfl rfl fun v3=> ?_
   exact gRL rfl rfl rfl rfl rfl
  ·
   refine gHs [(6,(pL [0,2,6,5,9,11,13] .nil))] rfl (by kernel_rfl) rfl rfl fun Ky=> ?_
   refine gN (a9e _ _ _) rfl rfl rfl rfl rfl fun v4=> ?_
   refine gK (d4m _ _) rfl rfl rfl fun v5=> ?_
   refine gK (b1m _ _ _) rfl rfl rfl fun v6=> ?_
   refine gHe rfl ?_
   exact gRL rfl rfl rfl rfl rfl
theorem b7j(n:Nat)(mx1:maker)(op1:Int)(ax1:Form)(b1:Form):FnL Wt 81 77 [.sl 1 mx1.names,.sl 2 mx1.facts.Lifts,.int .i64 mx1.facts.Persons,.int .i64 mx1.facts.Flats,.ob mx1.full] [.bx 0 0,.int .i64 op1,.agg [.sl 4 ax1.Pieces],.agg [.sl 4 b1.Pieces]] (a6d n mx1 op1 ax1 b1) (fun r=> [.sl 1 r.1.names,.sl 2 r.1.facts.Lifts,.int .i64 r.1.facts.Persons,.int .i64 r.1.facts.Flats,.ob r.1.full]) (fun r=> .agg [.sl 4 r.2.Pieces]):=by
 refine b6o (n:=66) Tryz.func81 rfl rfl rfl (fun _ _=>by kernel_rfl) fun F0 w0 b r=> ?_
 unfold a6d
 refine gM (fun j1=> [.b 0 [.sl 1 j1.2.1,.sl 2 j1.2.2.1,.int .i64 j1.2.2.2.1,.int .i64 j1.2.2.2.2.1,.ob j1.2.2.2.2.2],.b 7 [.sl 4 j1.1]]) rfl (fun _=>rfl) (fun J1 hJ1=> ?_) (fun j1=> ?_)
 ·
  refine gD rfl (fun _=> ?_) (fun _=> ?_)
  ·
   refine gA ?_
   refine gN (a9e _ _ _) rfl rfl rfl rfl rfl fun v19=> ?_
   exact gX hJ1 rfl (by kernel_rfl)
  ·
   exact gX hJ1 rfl (by kernel_rfl)
 obtain⟨f1,f2,f3,f4,f5,f6⟩:=j1;dsimp only
 refine gG rfl (by kernel_rfl) ?_
 refine gQ (a8c _ _) rfl rfl rfl (fun _=>rfl) fun v1=> ?_
 refine gQ (a8c _ _) rfl rfl rfl (fun _=>rfl) fun v2=> ?_
 refine gC rfl (fun _=> ?_) (fun _=> ?_)
 ·
  refine gG rfl (by kernel_rfl) ?_
  refine gQ (a8c _ _) rfl rfl rfl (fun _=>rfl) fun v3=> ?_
  refine gQ (a8c _ _) rfl rfl rfl (fun _=>rfl) fun v4=> ?_
  refine gN (a6q _ _ _) rfl rfl rfl rfl rfl fun v5=> ?_
  refine gC rfl (fun _=> ?_) (fun _=> ?_)
  ·
   exact gRL rfl rfl rfl rfl rfl
  ·
   refine gC rfl (fun _=> ?_) (fun _=> ?_)
   ·
    refine gO (a2w _ _) rfl rfl rfl fun v6=> ?_
    exact gRL rfl rfl rfl rfl rfl
   ·
    refine gC rfl (fun _=> ?_) (fun _=> ?_)
    ·
     refine gKh (a7s n _ _ (a4w n)) rfl rfl rfl (fvA rfl rfl (fun q=>FnO.c (b3e n q.1 q.2)) default) fun v7=> ?_
     exact gRL rfl rfl rfl rfl rfl
    ·
     refine gKh (a7s n _ _ (a4x n)) rfl rfl rfl (fvA rfl rfl (fun q=>FnO.c (b3z n q.1 q.2)) default) fun v8=> ?_
     exact gRL rfl rfl rfl rfl rfl
 ·
  refine gC rfl (fun _=> ?_) (fun _=> ?_)
  ·
   refine gG rfl (by kernel_rfl) ?_
   refine gQ (a8c _ _) rfl rfl rfl (fun _=>rfl) fun v9=> ?_
   refine gQ (a8c _ _) rfl rfl rfl (fun _=>rfl) fun v10=> ?_
   refine gN (a6q _ _ _) rfl rfl rfl rfl rfl fun v11=> ?_
   refine gC rfl (fun _=> ?_) (fun _=> ?_)
   ·
    exact gRL rfl rfl rfl rfl rfl
   ·
    refine gC rfl (fun _=> ?_) (fun _=> ?_)
    ·
     refine gO (a2w _ _) rfl rfl rfl fun v12=> ?_
     exact gRL rfl rfl rfl rfl rfl
    ·
     refine gC rfl (fun _=> ?_) (fun _=> ?_)
     ·
      refine gKh (a7s n _ _ (a4w n)) rfl rfl rfl (fvA rfl rfl (fun q=>FnO.c (b3e n q.1 q.2)) default) fun v13=> ?_
      exact gRL rfl rfl rfl rfl rfl
     ·
      refine gKh (a7s n _ _ (a4x n)) rfl rfl rfl (fvA rfl rfl (fun q=>FnO.c (b3z n q.1 q.2)) default) fun v14=> ?_
      exact gRL rfl rfl rfl rfl rfl
  ·
   refine gN (a6q _ _ _) rfl rfl rfl rfl rfl fun v15=> ?_
   refine gC rfl (fun _=> ?_) (fun _=> ?_)
   ·
    exact gRL rfl rfl rfl rfl rfl
   ·
    refine gC rfl (fun _=> ?_) (fun _=> ?_)
    ·
     refine gO (a2w _ _) rfl rfl rfl fun v16=> ?_
     exact gRL rfl rfl rfl rfl rfl
    ·
     refine gC rfl (fun _=> ?_) (fun _=> ?_)
     ·
      refine gKh (a7s n _ _ (a4w n)) rfl rfl rfl (fvA rfl rfl (fun q=>FnO.c (b3e n q.1 q.2)) default) fun v17=> ?_
      exact gRL rfl rfl rfl rfl rfl
     ·
      refine gKh (a7s n _ _ (a4x n)) rfl rfl rfl (fvA rfl rfl (fun q=>FnO.c (b3z n q.1 q.2)) default) fun v18=> ?_
      exact gRL rfl rfl rfl rfl rfl
theorem b7p(n:Nat):∀(mx1:maker)(x1:Expr),FnL Wt 39 77 [.sl 1 mx1.names,.sl 2 mx1.facts.Lifts,.int .i64 mx1.facts.Persons,.int .i64 mx1.facts.Flats,.ob mx1.full] [.bx 0 0,.agg [.int .i64 x1.Op,.int .i64 x1.N,.str x1.Name,.sl 0 x1.Args]] (minmax_maker_made n mx1 x1) (fun r=> [.sl 1 r.1.names,.sl 2 r.1.facts.Lifts,.int .i64 r.1.facts.Persons,.int .i64 r.1.facts.Flats,.ob r.1.full]) (fun r=> .agg [.sl 4 r.2.Pieces]):=by
 induction n with
 |zero=>exact fun _ _=>d3v (fun _ _=>by kernel_rfl)
 |succ n ih=>
  intro mx1 x1
  refine b6o (n:=140) Tryz.func39 rfl rfl rfl (fun _ _=>by kernel_rfl) fun F0 w0 b r=> ?_
  rw [minmax_maker_made_s]
  refine gC rfl (fun _=> ?_) (fun _=> ?_)
  ·
   exact gRL rfl rfl rfl rfl rfl
  ·
   refine gN (b1f _ _ _) rfl rfl rfl rfl rfl fun v1=> ?_
   refine gC rfl (fun _=> ?_) (fun _=> ?_)
   ·
    refine gN (a5x _ _ _) rfl rfl rfl rfl rfl fun v2=> ?_
    refine gN (a9k _ _ _) rfl rfl rfl rfl rfl fun v3=> ?_
    exact gRL rfl rfl rfl rfl rfl
   ·
    refine gC rfl (fun _=> ?_) (fun _=> ?_)
    ·
     refine gK (a5z _ _) rfl rfl rfl fun v4=> ?_
     refine gEq (e0x _ _ _ _) ?_
     refine gLGc (e1j _ _ _) rfl rfl rfl rfl rfl fun l=> ?_
     refine gHs [(8,(pL [0,2,4,6,8,10,12,14,16,18,20,22,24,27,29,31,33] .nil)),(15,(pL [0,2,4,6,8,10,12,14,16,19,21,23] .nil)),(16,(pL [0,2,4,6,8,12,11,15,17] .nil)),(19,(pL [0,2,4,6,8,10,14,16,18,20,22,13,25,27,29] .nil)),(20,(pL [0,2,4,6,8,10,14,16,18,20,22,13,25,27,29] .nil)),(22,(pL [0,2,4,6,8,10,12,14,16,19,21,23] .nil))] rfl (by kernel_rfl) rfl rfl fun Ky=> ?_
     refine gK (a4o _ _ _) rfl rfl rfl fun v6=> ?_
     refine gK (a5z _ _) rfl rfl rfl fun v7=> ?_
     refine gV rfl fun z=> ?_
     refine gW rfl rfl fun l2=> ?_
     refine gHe rfl ?_
     refine gFi 7 rfl ?_
     refine gFs 8 5 5 1 rfl rfl ?_
     refine gFs 9 4 1 1 rfl rfl ?_
     exact gRL rfl rfl rfl rfl rfl
    ·
     refine gC rfl (fun _=> ?_) (fun _=> ?_)
     ·
      refine gV rfl fun ex4=> ?_
      refine gN (b6m _ _ _) rfl rfl rfl rfl rfl fun v8=> ?_
      refine gC rfl (fun _=> ?_) (fun _=> ?_)
      ·
       refine gV rfl fun ex5=> ?_
       refine gN (ih _ _) rfl rfl rfl rfl rfl fun v9=> ?_
       exact gRL rfl rfl rfl rfl rfl
      ·
       refine gV rfl fun ex6=> ?_
       refine gN (ih _ _) rfl rfl rfl rfl rfl fun v10=> ?_
       exact gRL rfl rfl rfl rfl rfl
     ·
      refine gC rfl (fun _=> ?_) (fun _=> ?_)
      ·
       refine gV rfl fun ex7=> ?_
       refine gK (d5s _ _ _) rfl rfl rfl fun v11=> ?_
       refine gHs [(8,(pL [0,2,4,6,8,10,12,14,16,18,20,22,24,27,29,31,33] .nil)),(15,(pL [0,2,4,6,8,10,12,14,16,19,21,23] .nil)),(16,(pL [0,2,4,6,8,12,11,15,17] .nil)),(19,(pL [0,2,4,6,8,10,14,16,18,20,22,13,25,27,29] .nil)),(20,(pL [0,2,4,6,8,10,14,16,18,20,22,13,25,27,29] .nil)),(22,(pL [0,2,4,6,8,10,12,14,16,19,21,23] .nil))] rfl (by kernel_rfl) rfl rfl fun Ky=> ?_
       refine gV rfl fun ex8=> ?_
       refine gN (ih _ _) rfl rfl rfl rfl rfl fun v12=> ?_
       refine gK (b1m _ _ _) rfl rfl rfl fun v13=> ?_
       refine gHe rfl ?_
       exact gRL rfl rfl rfl rfl rfl
      ·
       refine gC rfl (fun _=> ?_) (fun _=> ?_)
       ·
        refine gV rfl fun ex9=> ?_
        refine gN (b1f _ _ _) rfl rfl rfl rfl rfl fun v14=> ?_
        refine gC rfl (fun _=> ?_) (fun _=> ?_)
        ·
         refine gHs [(8,(pL [0,2,4,6,8,10,12,14,16,18,20,22,24,27,29,31,33] .nil)),(15,(pL [0,2,4,6,8,10,12,14,16,19,21,23] .nil)),(16,(pL [0,2,4,6,8,12,11,15,17] .nil)),(19,(pL [0,2,4,6,8,10,14,16,18,20,22,13,25,27,29] .nil)),(20,(pL [0,2,4,6,8,10,14,16,18,20,22,13,25,27,29] .nil)),(22,(pL [0,2,4,6,8,10,12,14,16,19,21,23] .nil))] rfl (by kernel_rfl) rfl rfl fun Ky=> ?_
         refine gV rfl fun ex10=> ?_
         refine gV rfl fun ex11=> ?_
         refine gN (ih _ _) rfl rfl rfl rfl rfl fun v15=> ?_
         refine gN (a5x _ _ _) rfl rfl rfl rfl rfl fun v16=> ?_
         refine gN (a9s _ _ _ _) rfl rfl rfl rfl rfl fun v17=> ?_
         refine gHe rfl ?_
         exact gRL rfl rfl rfl rfl rfl
        ·
         refine gHs [(8,(pL [0,2,4,6,8,10,12,14,16,18,20,22,24,27,29,31,33] .nil)),(15,(pL [0,2,4,6,8,10,12,14,16,19,21,23] .nil)),(16,(pL [0,2,4,6,8,12,11,15,17] .nil)),(19,(pL [0,2,4,6,8,10,14,16,18,20,22,13,25,27,29] .nil)),(20,(pL [0,2,4,6,8,10,14,16,18,20,22,13,25,27,29] .nil)),(22,(pL [0,2,4,6,8,10,12,14,16,19,21,23] .nil))] rfl (by kernel_rfl) rfl rfl fun Ky=> ?_
         refine gV rfl fun ex12=> ?_
         refine gV rfl fun ex13=> ?_
         refine gN (ih _ _) rfl rfl rfl rfl rfl fun v18=> ?_
         refine gN (a5x _ _ _) rfl rfl rfl rfl rfl fun v19=> ?_
         refine gN (a9s _ _ _ _) rfl rfl rfl rfl rfl fun v20=> ?_
         refine gHe rfl ?_
         exact gRL rfl rfl rfl rfl rfl
       ·
        refine gV rfl fun ex14=> ?_
        refine gN (ih _ _) rfl rfl rfl rfl rfl fun v21=> ?_
        refine gHs [(8,(pL [0,2,4,6,8,10,12,14,16,18,20,22,24,27,29,31,33] .nil)),(15,(pL [0,2,4,6,8,10,12,14,16,19,21,23] .nil)),(16,(pL [0,2,4,6,8,12,11,15,17] .nil)),(19,(pL [0,2,4,6,8,10,14,16,18,20,22,13,25,27,29] .nil)),(20,(pL [0,2,4,6,8,10,14,16,18,20,22,13,25,27,29] .nil)),(22,(pL [0,2,4,6,8,10,12,14,16,19,21,23] .nil))] rfl (by kernel_rfl) rfl rfl fun Ky=> ?_
        refine gV rfl fun ex15=> ?_
        refine gN (ih _ _) rfl rfl rfl rfl rfl fun v22=> ?_
        refine gN (b7j _ _ _ _ _) rfl rfl rfl rfl rfl fun v23=> ?_
        refine gHe rfl ?_
        exact gRL rfl rfl rfl rfl rfl
theorem b3n(n:Nat)(t1:Tariff)(names1:(List Bs))(f1:Facts):FnC Wt 11 [.agg [.str t1.Name,.int .i64 t1.Fee.Op,.int .i64 t1.Fee.N,.str t1.Fee.Name,.sl 0 t1.Fee.Args,.int .i64 t1.Cap],.sl 1 names1,.agg [.sl 2 f1.Lifts,.int .i64 f1.Persons,.int .i64 f1.Flats]] (a4y n t1 names1 f1) (fun r=> .tup [.agg [.sl 4 r.1.Pieces],.int .i64 r.2]):=by
 refine a1l (n:=52) Tryz.func11 rfl rfl rfl (fun _ _=>by kernel_rfl) fun F0 w0 r=> ?_
 unfold a4y
 refine gK (b6n _ _ _) rfl rfl rfl fun v1=> ?_
 refine gC rfl (fun _=> ?_) (fun _=> ?_)
 ·
  exact gR rfl rfl rfl
 ·
  refine gA ?_
  refine gHs [(6,(pL [0,2,4,10,12] (.two 3 12 (pL [] (.two 4 12 (pL [] (.two 7 12 (pL [] (.two 8 12 (pL [18,20,22,25,27,29] .nil) (pL [17,19,20,22,27,29] .nil))) (pL [15,17,19,20,22,27,29] .nil))) (pL [9,15,17,19,20,22,27,29] .nil))) (pL [7,9,15,17,19,20,22,27,29] .nil))))] rfl (by kernel_rfl) rfl rfl fun Ky=> ?_
  refine gH2 rfl ?_ ?_
  all_goals
   refine gK (a5z _ _) rfl rfl rfl fun v3=> ?_
   refine gA ?_
   try refine gH2 rfl ?_ ?_
   all_goals
    try refine gH2 rfl ?_ ?_
    all_goals
     refine gK (b1e _ _ _) rfl rfl rfl fun v4=> ?_
     refine gA ?_
     try refine gH2 rfl ?_ ?_
     all_goals
      refine gK (c1z _ _ _ _ _) rfl rfl rfl fun v5=> ?_
      refine gB ?_
      refine gHe rfl ?_
      refine gC rfl (fun _=> ?_) (fun _=> ?_)
      ·
       exact gR rfl rfl rfl
      ·
       refine gN (b7p _ _ _) rfl rfl rfl rfl rfl fun v2=> ?_
       refine gC rfl (fun _=> ?_) (fun _=> ?_)
       ·
        exact gR rfl rfl rfl
       ·
        exact gR rfl rfl rfl
theorem c3d(n:Nat)(ax1:Affine)(weights1:(List Frac)):FnC Wt 47 [.agg [.int .i64 ax1.Const.P.Sign,.sl 2 ax1.Const.P.Digits,.int .i64 ax1.Const.Q.Sign,.sl 2 ax1.Const.Q.Digits,.sl 3 ax1.Coefs],.sl 3 weights1] (a9d n ax1 weights1) (fun r=> .agg [.int .i64 r.P.Sign,.sl 2 r.P.Digits,.int .i64 r.Q.Sign,.sl 2 r.Q.Digits]):=by
 refine a1l (n:=37) Tryz.func47 rfl rfl rfl (fun _ _=>by kernel_rfl) fun F0 w0 r=> ?_
 unfold a9d
 refine a3m ((fun k0 m(s:Int×Int×(List Int)×Int×(List Int))=>minmax_at_L1 n ax1 weights1 k0 m s.1 s.2.1 s.2.2.1 s.2.2.2.1 s.2.2.2.2) _) (fun(s:Int×Int×(List Int)×Int×(List Int))=> [.b 5 [.int .i64 s.2.1,.sl 2 s.2.2.1,.int .i64 s.2.2.2.1,.sl 2 s.2.2.2.2],.v 15 (.int .i64 s.1)]) (fun _=>rfl) (_,_,_,_,_) rfl rfl (fun _=>rfl) rfl fun K1 m1 hK1 z1=> ?_
 obtain⟨i1,f1,f2,f3,f4⟩:=z1;dsimp only
 refine gC rfl (fun _=> ?_) (fun _=> ?_)
 ·
  refine gV rfl fun ex1=> ?_
  refine gA ?_
  refine gHs [(5,(pL [0,2,4,6,8] (.two 5 9 (pL [12,14,16,19,21,23] .nil) (pL [11,13,14,16,21,23] .nil))))] rfl (by kernel_rfl) rfl rfl fun Ky=> ?_
  refine gV rfl fun ex2=> ?_
  refine gA ?_
  refine gH2 rfl ?_ ?_
  all_goals
   refine gK (c0a _ _ _) rfl rfl rfl fun v2=> ?_
   refine gB ?_
   refine gHe rfl ?_
   refine gK (b6j _ _ _) rfl rfl rfl fun v1=> ?_
   exact gE hK1 (_,_,_,_,_) rfl (by kernel_rfl)
 ·
  exact gR rfl rfl rfl
theorem c6a(n:Nat)(x1:Frac):FnC Wt 43 [.agg [.int .i64 x1.P.Sign,.sl 2 x1.P.Digits,.int .i64 x1.Q.Sign,.sl 2 x1.Q.Digits]] (a8s n x1) (fun r=> .ob r):=by
 refine a1l (n:=6) Tryz.func43 rfl rfl rfl (fun _ _=>by kernel_rfl) fun F0 w0 r=> ?_
 unfold a8s
 refine gK (a2l _ _) rfl rfl rfl fun v1=> ?_
 exact gR rfl rfl rfl
theorem b3j(n:Nat)(f1:Form)(weights1:(List Frac)):FnC Wt 13 [.agg [.sl 4 f1.Pieces],.sl 3 weights1] (a6a n f1 weights1) (fun r=> .tup [.agg [.int .i64 r.1.P.Sign,.sl 2 r.1.P.Digits,.int .i64 r.1.Q.Sign,.sl 2 r.1.Q.Digits],.ob r.2]):=by
 refine a1l (n:=64) Tryz.func13 rfl rfl rfl (fun _ _=>by kernel_rfl) fun F0 w0 r=> ?_
 unfold a6a
 refine gKh (a2v n _ (a8s n)) rfl rfl rfl (fvA rfl rfl (fun q=>c6a n q) default) fun v1=> ?_
 refine gJ 6 (fun v2=> [.v 22 (.ob v2)]) rfl (fun _=>rfl) (fun J1 hJ1=> ?_) (fun v2=> ?_)
 ·
  refine gD rfl (fun _=> ?_) (fun _=> ?_)
  ·
   exact gX hJ1 rfl (by kernel_rfl)
  ·
   refine gA ?_
   refine gK (c4s _ _ _) rfl rfl rfl fun v8=> ?_
   exact gX hJ1 rfl (by kernel_rfl)
 refine gC rfl (fun _=> ?_) (fun _=> ?_)
 ·
  exact gR rfl rfl rfl
 ·
  refine a3m ((fun k0 m(s:Int×Int×(List Int)×Int×(List Int)×Int×(List Int)×Int×(List Int))=>minmax_At_L1 n f1 weights1 k0 m s.1 s.2.1 s.2.2.1 s.2.2.2.1 s.2.2.2.2.1 s.2.2.2.2.2.1 s.2.2.2.2.2.2.1 s.2.2.2.2.2.2.2.1 s.2.2.2.2.2.2.2.2) _) (fun(s:Int×Int×(List Int)×Int×(List Int)×Int×(List Int)×Int×(List Int))=> [.b 4 [.int .i64 s.2.2.2.2.2.1,.sl 2 s.2.2.2.2.2.2.1,.int .i64 s.2.2.2.2.2.2.2.1,.sl 2 s.2.2.2.2.2.2.2.2],.b 7 [.int .i64 s.2.1,.sl 2 s.2.2.1,.int .i64 s.2.2.2.1,.sl 2 s.2.2.2.2.1],.v 27 (.int .i64 s.1)]) (fun _=>rfl) (_,_,_,_,_,_,_,_,_) rfl rfl (fun _=>rfl) rfl fun K2 m2 hK2 z2=> ?_
  obtain⟨i1,f2,f3,f4,f5,f6,f7,f8,f9⟩:=z2;dsimp only
  refine gC rfl (fun _=> ?_) (fun _=> ?_)
  ·
   refine gV rfl fun ex1=> ?_
   refine gV rfl fun ex2=> ?_
   refine gK (c3d _ _ _) rfl rfl rfl fun v3=> ?_
   refine gV rfl fun l1=> ?_
   refine a3m ((fun k0 m(s:Int×Int×(List Int)×Int×(List Int))=>minmax_At_L2 n weights1 l1 k0 m s.1 s.2.1 s.2.2.1 s.2.2.2.1 s.2.2.2.2) _) (fun(s:Int×Int×(List Int)×Int×(List Int))=> [.b 10 [.int .i64 s.2.1,.sl 2 s.2.2.1,.int .i64 s.2.2.2.1,.sl 2 s.2.2.2.2],.v 40 (.int .i64 s.1)]) (fun _=>rfl) (_,_,_,_,_) rfl rfl (fun _=>rfl) rfl fun K3 m3 hK3 z3=> ?_
   obtain⟨i2,f18,f19,f20,f21⟩:=z3;dsimp only
   refine gC rfl (fun _=> ?_) (fun _=> ?_)
   ·
    refine gV rfl fun ex3=> ?_
    refine gHs [(12,(pL [2,4] (.two 0 3 (pL [7,9,11,12,14,17] .nil) (pL [1,9,11,12,14,17] .nil))))] rfl (by kernel_rfl) rfl rfl fun Ky=> ?_
    refine gH2 rfl ?_ ?_
    all_goals
     refine gK (c3d _ _ _) rfl rfl rfl fun v6=> ?_
     refine gK (c5q _ _ _) rfl rfl rfl fun v7=> ?_
     refine gHe rfl ?_
     exact gE hK3 (_,_,_,_,_) rfl (by kernel_rfl)
   ·
    refine gJ 5 (fun v4=> [.v 60 (.ob v4)]) rfl (fun _=>rfl) (fun J4 hJ4=> ?_) (fun v4=> ?_)
    ·
     refine gD rfl (fun _=> ?_) (fun _=> ?_)
     ·
      exact gX hJ4 rfl (by kernel_rfl)
     ·
      refine gA ?_
      refine gK (b2m _ _ _) rfl rfl rfl fun v5=> ?_
      exact gX hJ4 rfl (by kernel_rfl)
    refine gC rfl (fun _=> ?_) (fun _=> ?_)
    ·
     exact gE hK2 (_,_,_,_,_,_,_,_,_) rfl (by kernel_rfl)
    ·
     exact gE hK2 (_,_,_,_,_,_,_,_,_) rfl (by kernel_rfl)
  ·
   exact gR rfl rfl rfl
end Go.Proofs.YthaegflpecbfgaaGreatDoor.M
namespace Go.Proofs.YthaegflpecbfgaaGreatDoor.M
open Go Go.RowKit Rt
set_option maxRecDepth 1000000
set_option maxHeartbeats 40000000
theorem c3f(n:Nat)(t1:Tariff)(names1:(List Bs))(f1:Facts)(weights1:(List Frac)):FnC Wt 9 [.agg [.str t1.Name,.int .i64 t1.Fee.Op,.int .i64 t1.Fee.N,.str t1.Fee.Name,.sl 0 t1.Fee.Args,.int .i64 t1.Cap],.sl 1 names1,.agg [.sl 2 f1.Lifts,.int .i64 f1.Persons,.int .i64 f1.Flats],.sl 3 weights1] (b2z n t1 names1 f1 weights1) (fun r=> .ob r):=by
 refine a1l (n:=19) Tryz.func9 rfl rfl rfl (fun _ _=>by kernel_rfl) fun F0 w0 r=> ?_
 unfold b2z
 refine gK (d0f _ _ _ _ _) rfl rfl rfl fun v1=> ?_
 refine gJ 4 (fun v2=> [.v 18 (.ob v2)]) rfl (fun _=>rfl) (fun J1 hJ1=> ?_) (fun v2=> ?_)
 ·
  refine gD rfl (fun _=> ?_) (fun _=> ?_)
  ·
   refine gA ?_
   refine gK (b3g _ _ _ _) rfl rfl rfl fun v3=> ?_
   exact gX hJ1 rfl (by kernel_rfl)
  ·
   exact gX hJ1 rfl (by kernel_rfl)
 exact gR rfl rfl rfl
end Go.Proofs.YthaegflpecbfgaaGreatDoor.M
